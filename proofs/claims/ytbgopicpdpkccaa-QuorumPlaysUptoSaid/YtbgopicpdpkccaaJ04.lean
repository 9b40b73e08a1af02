/- Texts of the proof, joined: GAns2, GAcc, GProm. -/
import Derived.Test.YtbgopicpdpkccaaJ03
import Derived.Maps.RangeRun
namespace Go.Proofs.Ytbgopicpdpkccaa
open Go.RowKit
set_option linter.unusedVariables false
set_option linter.unusedSimpArgs false

section
variable {S : Nat → Prop} {w w' : World} {g : Nat} {An Am : Option Addr} {cn cm : Nat} {G : Gr} {a : Ad}
theorem setA_len {k : Int} {v : Vt} {l : List (Int × Vt)} (h : getA k l = none) : (setA k v l).length = l.length + 1 := by
  rw [setA_fresh (getA_none h)]; simp
set_option maxRecDepth 100000 in
set_option maxHeartbeats 2000000 in
theorem answered_yes (m : Ml) (x : Sl) (i : Nat) (s : Int) (acc : Bool) (h : GIn S w g An cn Am cm G a) (hi : i < G.nds.length) (hx : getA s (G.nd i).sl = some x) (d : Bd) (hd : x.bid = some d) (h1 : d.bal = m.bal) (h2 : d.acc = acc) (hag : getA m.fr d.ans = none) (hn : G.nds.length ≤ 1000) : Calls Try.prog 73 #[.pointer (some ⟨g, 0, none⟩), .pointer (some ⟨a.sb i s, 0, none⟩), .agg #[.int .i64 m.kind, .int .i64 m.fr, .int .i64 m.dst, .int .i64 m.slot, .int .i64 m.bal.rd, .int .i64 m.bal.nd, .int .i64 m.had.rd, .int .i64 m.had.nd, .string m.text], .bool acc] w fun e w' => e = .returned (.bool (decide (d.ans.length = G.nds.length / 2))) ∧ ∃ S', GIn S' w' g An cn Am cm (G.setSl i s { x with bid := some { d with ans := setA m.fr ⟨m.had, m.text⟩ d.ans } }) a ∧ (∀ k, S' k → S k ∨ w.heap.size ≤ k) ∧ Upd S w w' := by
  have hB0 : Below w.heap.size w (w.alloc (.cells #[.int .i64 m.kind, .int .i64 m.fr, .int .i64 m.dst, .int .i64 m.slot, .int .i64 m.bal.rd, .int .i64 m.bal.nd, .int .i64 m.had.rd, .int .i64 m.had.nd, .string m.text] 78)) := (Below.refl _ _).alloc (Nat.le_refl _) _
  have kb := Blk.new w 78 #[.int .i64 m.kind, .int .i64 m.fr, .int .i64 m.dst, .int .i64 m.slot, .int .i64 m.bal.rd, .int .i64 m.bal.nd, .int .i64 m.had.rd, .int .i64 m.had.nd, .string m.text]
  have hSlt := h.lt
  have q := h.below hB0
  have hB := hid hB0
  clear h hB0
  obtain ⟨kS, hSs, hbd⟩ := q.sl i hi (s, x) (getA_mem hx)
  have hbd : ∀ d, x.bid = some d → Blk (w.alloc (.cells #[.int .i64 m.kind, .int .i64 m.fr, .int .i64 m.dst, .int .i64 m.slot, .int .i64 m.bal.rd, .int .i64 m.bal.nd, .int .i64 m.had.rd, .int .i64 m.had.nd, .string m.text] 78)) (a.bb i s) 83 (d.cells (a.ab i s)) ∧ S (a.bb i s) ∧ S (a.ab i s) ∧ MapIs intE (w.alloc (.cells #[.int .i64 m.kind, .int .i64 m.fr, .int .i64 m.dst, .int .i64 m.slot, .int .i64 m.bal.rd, .int .i64 m.bal.nd, .int .i64 m.had.rd, .int .i64 m.had.nd, .string m.text] 78)) (a.ab i s) (d.ans.map fun p => (p.1, vtV p.2)) ∧ Once d.ans := hbd
  have s8 : (w.alloc (.cells #[.int .i64 m.kind, .int .i64 m.fr, .int .i64 m.dst, .int .i64 m.slot, .int .i64 m.bal.rd, .int .i64 m.bal.nd, .int .i64 m.had.rd, .int .i64 m.had.nd, .string m.text] 78)).cell? ⟨a.sb i s, 8, none⟩ = some (.pointer (if x.bid.isSome then some ⟨a.bb i s, 0, none⟩ else none)) := kS.cell 8
  rw [hd] at s8
  have s8 : (w.alloc (.cells #[.int .i64 m.kind, .int .i64 m.fr, .int .i64 m.dst, .int .i64 m.slot, .int .i64 m.bal.rd, .int .i64 m.bal.nd, .int .i64 m.had.rd, .int .i64 m.had.nd, .string m.text] 78)).cell? ⟨a.sb i s, 8, none⟩ = some (.pointer (some ⟨a.bb i s, 0, none⟩)) := s8
  obtain ⟨kD, hSd, hSa, hmp, hon⟩ := hbd d hd
  subst h2
  have e0 : (w.alloc (.cells #[.int .i64 m.kind, .int .i64 m.fr, .int .i64 m.dst, .int .i64 m.slot, .int .i64 m.bal.rd, .int .i64 m.bal.nd, .int .i64 m.had.rd, .int .i64 m.had.nd, .string m.text] 78)).cell? ⟨w.heap.size, 0, none⟩ = some (.int .i64 m.kind) := kb.cell 0
  have e1 : (w.alloc (.cells #[.int .i64 m.kind, .int .i64 m.fr, .int .i64 m.dst, .int .i64 m.slot, .int .i64 m.bal.rd, .int .i64 m.bal.nd, .int .i64 m.had.rd, .int .i64 m.had.nd, .string m.text] 78)).cell? ⟨w.heap.size, 1, none⟩ = some (.int .i64 m.fr) := kb.cell 1
  have e2 : (w.alloc (.cells #[.int .i64 m.kind, .int .i64 m.fr, .int .i64 m.dst, .int .i64 m.slot, .int .i64 m.bal.rd, .int .i64 m.bal.nd, .int .i64 m.had.rd, .int .i64 m.had.nd, .string m.text] 78)).cell? ⟨w.heap.size, 2, none⟩ = some (.int .i64 m.dst) := kb.cell 2
  have e3 : (w.alloc (.cells #[.int .i64 m.kind, .int .i64 m.fr, .int .i64 m.dst, .int .i64 m.slot, .int .i64 m.bal.rd, .int .i64 m.bal.nd, .int .i64 m.had.rd, .int .i64 m.had.nd, .string m.text] 78)).cell? ⟨w.heap.size, 3, none⟩ = some (.int .i64 m.slot) := kb.cell 3
  have e4 : (w.alloc (.cells #[.int .i64 m.kind, .int .i64 m.fr, .int .i64 m.dst, .int .i64 m.slot, .int .i64 m.bal.rd, .int .i64 m.bal.nd, .int .i64 m.had.rd, .int .i64 m.had.nd, .string m.text] 78)).cell? ⟨w.heap.size, 4, none⟩ = some (.int .i64 m.bal.rd) := kb.cell 4
  have e5 : (w.alloc (.cells #[.int .i64 m.kind, .int .i64 m.fr, .int .i64 m.dst, .int .i64 m.slot, .int .i64 m.bal.rd, .int .i64 m.bal.nd, .int .i64 m.had.rd, .int .i64 m.had.nd, .string m.text] 78)).cell? ⟨w.heap.size, 5, none⟩ = some (.int .i64 m.bal.nd) := kb.cell 5
  have e6 : (w.alloc (.cells #[.int .i64 m.kind, .int .i64 m.fr, .int .i64 m.dst, .int .i64 m.slot, .int .i64 m.bal.rd, .int .i64 m.bal.nd, .int .i64 m.had.rd, .int .i64 m.had.nd, .string m.text] 78)).cell? ⟨w.heap.size, 6, none⟩ = some (.int .i64 m.had.rd) := kb.cell 6
  have e7 : (w.alloc (.cells #[.int .i64 m.kind, .int .i64 m.fr, .int .i64 m.dst, .int .i64 m.slot, .int .i64 m.bal.rd, .int .i64 m.bal.nd, .int .i64 m.had.rd, .int .i64 m.had.nd, .string m.text] 78)).cell? ⟨w.heap.size, 7, none⟩ = some (.int .i64 m.had.nd) := kb.cell 7
  have e8 : (w.alloc (.cells #[.int .i64 m.kind, .int .i64 m.fr, .int .i64 m.dst, .int .i64 m.slot, .int .i64 m.bal.rd, .int .i64 m.bal.nd, .int .i64 m.had.rd, .int .i64 m.had.nd, .string m.text] 78)).cell? ⟨w.heap.size, 8, none⟩ = some (.string m.text) := kb.cell 8
  have d0 : (w.alloc (.cells #[.int .i64 m.kind, .int .i64 m.fr, .int .i64 m.dst, .int .i64 m.slot, .int .i64 m.bal.rd, .int .i64 m.bal.nd, .int .i64 m.had.rd, .int .i64 m.had.nd, .string m.text] 78)).cell? ⟨a.bb i s, 0, none⟩ = some (.int .i64 d.bal.rd) := kD.cell 0
  have d1 : (w.alloc (.cells #[.int .i64 m.kind, .int .i64 m.fr, .int .i64 m.dst, .int .i64 m.slot, .int .i64 m.bal.rd, .int .i64 m.bal.nd, .int .i64 m.had.rd, .int .i64 m.had.nd, .string m.text] 78)).cell? ⟨a.bb i s, 1, none⟩ = some (.int .i64 d.bal.nd) := kD.cell 1
  have d2 : (w.alloc (.cells #[.int .i64 m.kind, .int .i64 m.fr, .int .i64 m.dst, .int .i64 m.slot, .int .i64 m.bal.rd, .int .i64 m.bal.nd, .int .i64 m.had.rd, .int .i64 m.had.nd, .string m.text] 78)).cell? ⟨a.bb i s, 2, none⟩ = some (.string d.text) := kD.cell 2
  have d3 : (w.alloc (.cells #[.int .i64 m.kind, .int .i64 m.fr, .int .i64 m.dst, .int .i64 m.slot, .int .i64 m.bal.rd, .int .i64 m.bal.nd, .int .i64 m.had.rd, .int .i64 m.had.nd, .string m.text] 78)).cell? ⟨a.bb i s, 3, none⟩ = some (.bool d.acc) := kD.cell 3
  have d4 : (w.alloc (.cells #[.int .i64 m.kind, .int .i64 m.fr, .int .i64 m.dst, .int .i64 m.slot, .int .i64 m.bal.rd, .int .i64 m.bal.nd, .int .i64 m.had.rd, .int .i64 m.had.nd, .string m.text] 78)).cell? ⟨a.bb i s, 4, none⟩ = some (.map (some (a.ab i s))) := kD.cell 4
  have hgd := guardBal
  have hdl : a.bb i s < w.heap.size := hSlt _ hSd
  have hal : a.ab i s < w.heap.size := hSlt _ hSa
  have hnq : ∀ W', (binOp .neq 35 (.agg #[.int .i64 d.bal.rd, .int .i64 d.bal.nd]) (.agg #[.int .i64 m.bal.rd, .int .i64 m.bal.nd])).run Try.prog W' = .ok (.bool false) W' := fun W' => by rw [run_neqBal, decide_eq_true h1]; rfl
  have tt : (d.acc != d.acc) = false := by simp
  have hlk0 : ∀ W', W'.heap[a.ab i s]? = (w.alloc (.cells #[.int .i64 m.kind, .int .i64 m.fr, .int .i64 m.dst, .int .i64 m.slot, .int .i64 m.bal.rd, .int .i64 m.bal.nd, .int .i64 m.had.rd, .int .i64 m.had.nd, .string m.text] 78)).heap[a.ab i s]? → (Instr.lookup 81 (.map (some (a.ab i s))) (.int .i64 m.fr) true).run Try.prog W' = .ok (.tuple #[.agg #[.int .i64 0, .int .i64 0, .string ⟨#[]⟩], .bool false]) W' := fun W' hW => by
    have := (hmp.keep hW).lookup_ok Try.underlying81 zero_vote m.fr
    rw [getK_mapk (fun _ v => vtV v), hag] at this
    exact this
  have hlk1 := hid hlk0
  have hmlt := hmp.lt
  have hqq := hid q
  have hkS := hid kS
  have hkD := hid kD
  have hmpp := hid hmp
  have c0 := q.cells.1
  have hgl := q.blk.lt
  have hdd := hid hd
  have hxx := hid hx
  have hagg := hid hag
  have honn := hid hon
  clear hlk0 hbd kS hx q hd h1 hag kD hmp hon
  go_enter Try.func73, Try.ntmps73
  go_wp2_with fail
  go_quiet (fail)
  have b4 : ((w.alloc (.cells #[.int .i64 m.kind, .int .i64 m.fr, .int .i64 m.dst, .int .i64 m.slot, .int .i64 m.bal.rd, .int .i64 m.bal.nd, .int .i64 m.had.rd, .int .i64 m.had.nd, .string m.text] 78)).drewN nq).cell? ⟨a.bb i s, 4, none⟩ = some (.map (some (a.ab i s))) := d4
  have f1 : ((w.alloc (.cells #[.int .i64 m.kind, .int .i64 m.fr, .int .i64 m.dst, .int .i64 m.slot, .int .i64 m.bal.rd, .int .i64 m.bal.nd, .int .i64 m.had.rd, .int .i64 m.had.nd, .string m.text] 78)).drewN nq).cell? ⟨w.heap.size, 1, none⟩ = some (.int .i64 m.fr) := e1
  have hlk2 := hlk1.out ((w.alloc (.cells #[.int .i64 m.kind, .int .i64 m.fr, .int .i64 m.dst, .int .i64 m.slot, .int .i64 m.bal.rd, .int .i64 m.bal.nd, .int .i64 m.had.rd, .int .i64 m.had.nd, .string m.text] 78)).drewN nq).drew rfl
  have hml : a.ab i s < (w.alloc (.cells #[.int .i64 m.kind, .int .i64 m.fr, .int .i64 m.dst, .int .i64 m.slot, .int .i64 m.bal.rd, .int .i64 m.bal.nd, .int .i64 m.had.rd, .int .i64 m.had.nd, .string m.text] 78)).heap.size := hmlt
  have hlk3 : (Instr.lookup 81 (.map (some (a.ab i s))) (.int .i64 m.fr) true).run Try.prog (((((w.alloc (.cells #[.int .i64 m.kind, .int .i64 m.fr, .int .i64 m.dst, .int .i64 m.slot, .int .i64 m.bal.rd, .int .i64 m.bal.nd, .int .i64 m.had.rd, .int .i64 m.had.nd, .string m.text] 78)).drewN nq).alloc (.cells #[.int .i64 0, .int .i64 0, .string ⟨#[]⟩] 71)).drew)) = .ok (.tuple #[.agg #[.int .i64 0, .int .i64 0, .string ⟨#[]⟩], .bool false]) (((((w.alloc (.cells #[.int .i64 m.kind, .int .i64 m.fr, .int .i64 m.dst, .int .i64 m.slot, .int .i64 m.bal.rd, .int .i64 m.bal.nd, .int .i64 m.had.rd, .int .i64 m.had.nd, .string m.text] 78)).drewN nq).alloc (.cells #[.int .i64 0, .int .i64 0, .string ⟨#[]⟩] 71)).drew)) := hlk1.out _ (Below.heap_alloc ((w.alloc (.cells #[.int .i64 m.kind, .int .i64 m.fr, .int .i64 m.dst, .int .i64 m.slot, .int .i64 m.bal.rd, .int .i64 m.bal.nd, .int .i64 m.had.rd, .int .i64 m.had.nd, .string m.text] 78)).drewN nq) _ _ hml)
  have hB2 : Below (w.alloc (.cells #[.int .i64 m.kind, .int .i64 m.fr, .int .i64 m.dst, .int .i64 m.slot, .int .i64 m.bal.rd, .int .i64 m.bal.nd, .int .i64 m.had.rd, .int .i64 m.had.nd, .string m.text] 78)).heap.size (w.alloc (.cells #[.int .i64 m.kind, .int .i64 m.fr, .int .i64 m.dst, .int .i64 m.slot, .int .i64 m.bal.rd, .int .i64 m.bal.nd, .int .i64 m.had.rd, .int .i64 m.had.nd, .string m.text] 78)) ((w.alloc (.cells #[.int .i64 m.kind, .int .i64 m.fr, .int .i64 m.dst, .int .i64 m.slot, .int .i64 m.bal.rd, .int .i64 m.bal.nd, .int .i64 m.had.rd, .int .i64 m.had.nd, .string m.text] 78)).drewN nq) := below_drewN (Below.refl _ _) nq
  clear s8 d0 d1 d2 d3 d4 e0 e1 e2 e3 e4 e5 e6 e7 e8 hlk1 tt hnq hgd c0
  generalize ((w.alloc (.cells #[.int .i64 m.kind, .int .i64 m.fr, .int .i64 m.dst, .int .i64 m.slot, .int .i64 m.bal.rd, .int .i64 m.bal.nd, .int .i64 m.had.rd, .int .i64 m.had.nd, .string m.text] 78)).drewN nq) = W2 at *
  have n1 := World.new_ne W2 ⟨a.bb i s, 4, none⟩ b4
  have n2 := World.new_ne W2 ⟨w.heap.size, 1, none⟩ f1
  go_wp2_with fail
  go_cut [11] (fun v wx => v = .bool false ∧ Below W2.heap.size W2 wx)
  case first =>
    go_region_held3 (fun w' => w'.cell? ⟨a.bb i s, 4, none⟩ = some (.map (some (a.ab i s))) ∧ w'.cell? ⟨w.heap.size, 1, none⟩ = some (.int .i64 m.fr)) (go_keep) (fail)
    all_goals
      go_wp2_with fail
      go_meet
      exact ⟨rfl, ((Below.refl _ W2).alloc (Nat.le_refl _) _).drew⟩
  case rest =>
    obtain ⟨rfl, hB3⟩ := hcut
    have hB13 := hB2.trans (hB3.mono hB2.size)
    have hB03 := hB.out.trans (hB13.mono hB.out.size)
    have kb3 := kb.below_all hB13
    have kD3 := hkD.out.below_all hB13
    have kS3 := hkS.out.below_all hB13
    have hm3 := hmpp.out.below hB13
    have q3 := hqq.out.below hB13
    clear hlk2 hlk3 b4 f1 n1 n2 hB2 hB3 kb
    go_wp2_with fail
    have e0 : wc.cell? ⟨w.heap.size, 0, none⟩ = some (.int .i64 m.kind) := kb3.cell 0
    have e1 : wc.cell? ⟨w.heap.size, 1, none⟩ = some (.int .i64 m.fr) := kb3.cell 1
    have e2 : wc.cell? ⟨w.heap.size, 2, none⟩ = some (.int .i64 m.dst) := kb3.cell 2
    have e3 : wc.cell? ⟨w.heap.size, 3, none⟩ = some (.int .i64 m.slot) := kb3.cell 3
    have e4 : wc.cell? ⟨w.heap.size, 4, none⟩ = some (.int .i64 m.bal.rd) := kb3.cell 4
    have e5 : wc.cell? ⟨w.heap.size, 5, none⟩ = some (.int .i64 m.bal.nd) := kb3.cell 5
    have e6 : wc.cell? ⟨w.heap.size, 6, none⟩ = some (.int .i64 m.had.rd) := kb3.cell 6
    have e7 : wc.cell? ⟨w.heap.size, 7, none⟩ = some (.int .i64 m.had.nd) := kb3.cell 7
    have e8 : wc.cell? ⟨w.heap.size, 8, none⟩ = some (.string m.text) := kb3.cell 8
    have d0 : wc.cell? ⟨a.bb i s, 0, none⟩ = some (.int .i64 d.bal.rd) := kD3.cell 0
    have d1 : wc.cell? ⟨a.bb i s, 1, none⟩ = some (.int .i64 d.bal.nd) := kD3.cell 1
    have d2 : wc.cell? ⟨a.bb i s, 2, none⟩ = some (.string d.text) := kD3.cell 2
    have d3 : wc.cell? ⟨a.bb i s, 3, none⟩ = some (.bool d.acc) := kD3.cell 3
    have d4 : wc.cell? ⟨a.bb i s, 4, none⟩ = some (.map (some (a.ab i s))) := kD3.cell 4
    obtain ⟨W4, hrun0, hm4, hg4, hz4⟩ := (hm3.keep (w' := wc.drew) rfl).update Try.underlying81 m.fr (vtV ⟨m.had, m.text⟩)
    have hrun : (Instr.mapUpdate 81 (.map (some (a.ab i s))) (.int .i64 m.fr) (.agg #[.int .i64 m.had.rd, .int .i64 m.had.nd, .string m.text])).run Try.prog wc.drew = .ok () W4 := hrun0
    go_still_tail 11, (by kernel_rfl)
    change wpList _ _ _ _ _ wc.drew
    go_wp2_with fail
    have hu4 : Upd (fun k => k = a.ab i s) wc W4 := (Upd.of_below' (Below.refl _ wc).drew _).trans ((Upd.refl (fun k => k = a.ab i s) wc.drew).grown hg4 fun k hk _ => by injection hk with hk; exact hk.symm) fun _ _ h => h
    have hne1 : a.bb i s ≠ a.ab i s := fun e => hm3.ne_blk kD3 e.symm
    have hne2 : a.sb i s ≠ a.ab i s := fun e => hm3.ne_blk kS3 e.symm
    have kD4 := kD3.upd hu4 hne1
    have kS4 := kS3.upd hu4 hne2
    have hmm : MapIs intE W4 (a.ab i s) ((setA m.fr ⟨m.had, m.text⟩ d.ans).map fun p => (p.1, vtV p.2)) := by
      rw [← setK_map]; exact hm4
    have hq4 : GIn S W4 g An cn Am cm (G.setSl i s { x with bid := some { d with ans := setA m.fr ⟨m.had, m.text⟩ d.ans } }) a := by
      have := q3.slot (S' := S) (x' := { x with bid := some { d with ans := setA m.fr ⟨m.had, m.text⟩ d.ans } }) (bb' := a.bb i s) (ab' := a.ab i s) hi hxx.out hu4 (fun k hk => .inr ⟨by rw [hdd.out]; rfl, .inr hk⟩) (fun _ => id) (fun k hk => Nat.lt_of_lt_of_le (q3.lt k hk) hu4.size) ⟨?_, hSs, fun d' hd' => ?_⟩ (fun _ => .inl ⟨by rw [hdd.out]; rfl, rfl, .inl rfl⟩)
      · rwa [Ad.setB_self] at this
      · have e : ({ x with bid := some { d with ans := setA m.fr ⟨m.had, m.text⟩ d.ans } } : Sl).cells (a.bb i s) = x.cells (a.bb i s) := by unfold Sl.cells; rw [hdd.out]; rfl
        rw [e]; exact kS4
      · injection hd' with hd'
        subst hd'
        exact ⟨kD4, hSd, hSa, hmm, honn.out.set⟩
    have hlen4 : ∀ W', W'.heap[a.ab i s]? = W4.heap[a.ab i s]? → ∀ ty, (Builtin.len_ #[81] ty #[.map (some (a.ab i s))]).run Try.prog W' = .ok (.int .i64 ((d.ans.length : Int) + 1)) W' := fun W' hW ty => by
      have := (hmm.keep hW).len Try.underlying81 ty
      rw [List.length_map, setA_len hagg.out] at this
      exact this
    have hlen := hid hlen4
    have c4 : W4.cell? ⟨g, 0, none⟩ = some (.slice An G.nds.length cn) := by
      have := hq4.cells.1
      rwa [show (G.setSl i s { x with bid := some { d with ans := setA m.fr ⟨m.had, m.text⟩ d.ans } }).nds.length = G.nds.length from Gr.len_set _ _ _] at this
    have d4' : W4.cell? ⟨a.bb i s, 4, none⟩ = some (.map (some (a.ab i s))) := kD4.cell 4
    have hl2 := fun k ty => hlen.out (W4.drewN k) rfl ty
    have hu04 := (Upd.of_below' hB03 S).trans (hu4.mono (M' := S) fun k _ h => h ▸ hSa) fun _ _ h => h
    have hfin : Hid (∀ k, ∃ S', GIn S' (W4.drewN k) g An cn Am cm (G.setSl i s { x with bid := some { d with ans := setA m.fr ⟨m.had, m.text⟩ d.ans } }) a ∧ (∀ k, S' k → S k ∨ w.heap.size ≤ k) ∧ Upd S w (W4.drewN k)) := hid fun k => ⟨S, hq4.below (below_drewN (Below.refl _ _) k), fun _ h => .inl h, hu04.drewN k⟩
    clear hrun hrun0 hm4 hg4 hz4 hm3 kD3 kS3 kD4 kS4 hmm hq4 hlen4 kb3 q3 hqq hkS hkD hmpp
    go_quiet (fail)
    go_wp2_with fail
    go_ret
    refine ⟨?_, hfin.out _⟩
    show Ending.returned (Value.bool ((d.ans.length : Int) + 1 == (G.nds.length : Int) / 2 + 1)) = _
    congr 2
    rw [Bool.eq_iff_iff]
    simp only [beq_iff_eq, decide_eq_true_eq]
    omega
end

end Go.Proofs.Ytbgopicpdpkccaa

namespace Go.Proofs.Ytbgopicpdpkccaa
open Go.RowKit
set_option linter.unusedVariables false
set_option linter.unusedSimpArgs false

/-- a bid with an answer more, if the answer counts -/
def Sl.cnts (x : Sl) (m : Ml) (acc : Bool) : Option Bd := match x.bid with
  | none => none
  | some d => if d.bal = m.bal ∧ d.acc = acc ∧ getA m.fr d.ans = none then some { d with ans := setA m.fr ⟨m.had, m.text⟩ d.ans } else none
theorem Sl.cnts_none {x : Sl} {m : Ml} {acc : Bool} (h : x.cnts m acc = none) : ∀ d, x.bid = some d → d.bal = m.bal → d.acc = acc → (getA m.fr d.ans).isSome := by
  intro d hd h1 h2
  unfold Sl.cnts at h
  rw [hd] at h
  simp only at h
  split at h
  · cases h
  · rename_i hn
    cases hg : getA m.fr d.ans with
    | none => exact absurd ⟨h1, h2, hg⟩ hn
    | some v => rfl
theorem Sl.cnts_some {x : Sl} {m : Ml} {acc : Bool} {d2 : Bd} (h : x.cnts m acc = some d2) : ∃ d, x.bid = some d ∧ d.bal = m.bal ∧ d.acc = acc ∧ getA m.fr d.ans = none ∧ d2 = { d with ans := setA m.fr ⟨m.had, m.text⟩ d.ans } := by
  unfold Sl.cnts at h
  cases hd : x.bid with
  | none => rw [hd] at h; cases h
  | some d =>
    rw [hd] at h
    simp only at h
    split at h
    · rename_i hc
      injection h with h
      exact ⟨d, rfl, hc.1, hc.2.1, hc.2.2, h.symm⟩
    · cases h
def Gr.acceptedOf (G : Gr) (i : Nat) (s : Int) (x : Sl) (m : Ml) : Gr := match x.cnts m true with
  | none => G
  | some d2 => if d2.ans.length = G.nds.length / 2 + 1 then (G.setSl i s { x with bid := none }).sendAll ⟨5, m.dst, 0, m.slot, m.bal, bal0, d2.text⟩ else G.setSl i s { x with bid := some d2 }
theorem setSl_setSl (G : Gr) (i : Nat) (s : Int) (x y : Sl) (hi : i < G.nds.length) : (G.setSl i s x).setSl i s y = G.setSl i s y := by
  have hs : ∀ l : List (Int × Sl), setA s y (setA s x l) = setA s y l := by
    intro l
    induction l with
    | nil => simp [setA]
    | cons p l ih =>
      unfold setA
      by_cases e : s = p.1
      · rw [if_pos e]; simp [setA, e]
      · rw [if_neg e]; simp [setA, e, ih]
  unfold Gr.setSl
  rw [Gr.nd_set _ _ _ _ hi, if_pos rfl]
  show Gr.setNd _ i ⟨(G.nd i).up, setA s y (setA s x (G.nd i).sl)⟩ = _
  rw [hs]
  unfold Gr.setNd
  simp
section
variable {S : Nat → Prop} {w w' : World} {g : Nat} {An Am : Option Addr} {cn cm : Nat} {G : Gr} {a : Ad}
set_option maxRecDepth 100000 in
set_option maxHeartbeats 2000000 in
theorem acceptedOf_any (m : Ml) (x : Sl) (i : Nat) (s : Int) (h : GIn S w g An cn Am cm G a) (hi : i < G.nds.length) (hx : getA s (G.nd i).sl = some x) (hn : G.nds.length ≤ 1000) : Calls Try.prog 59 #[.pointer (some ⟨g, 0, none⟩), .pointer (some ⟨a.sb i s, 0, none⟩), .agg #[.int .i64 m.kind, .int .i64 m.fr, .int .i64 m.dst, .int .i64 m.slot, .int .i64 m.bal.rd, .int .i64 m.bal.nd, .int .i64 m.had.rd, .int .i64 m.had.nd, .string m.text]] w fun e w' => e = .returned (.tuple #[]) ∧ GGo S w g (G.acceptedOf i s x m) w' := by
  have hB0 : Below w.heap.size w (w.alloc (.cells #[.int .i64 m.kind, .int .i64 m.fr, .int .i64 m.dst, .int .i64 m.slot, .int .i64 m.bal.rd, .int .i64 m.bal.nd, .int .i64 m.had.rd, .int .i64 m.had.nd, .string m.text] 78)) := (Below.refl _ _).alloc (Nat.le_refl _) _
  have kb := Blk.new w 78 #[.int .i64 m.kind, .int .i64 m.fr, .int .i64 m.dst, .int .i64 m.slot, .int .i64 m.bal.rd, .int .i64 m.bal.nd, .int .i64 m.had.rd, .int .i64 m.had.nd, .string m.text]
  have hSlt := h.lt
  have q := h.below hB0
  have hB := hid hB0
  have hh := hid q
  clear h hB0
  have e0 : (w.alloc (.cells #[.int .i64 m.kind, .int .i64 m.fr, .int .i64 m.dst, .int .i64 m.slot, .int .i64 m.bal.rd, .int .i64 m.bal.nd, .int .i64 m.had.rd, .int .i64 m.had.nd, .string m.text] 78)).cell? ⟨w.heap.size, 0, none⟩ = some (.int .i64 m.kind) := kb.cell 0
  have e1 : (w.alloc (.cells #[.int .i64 m.kind, .int .i64 m.fr, .int .i64 m.dst, .int .i64 m.slot, .int .i64 m.bal.rd, .int .i64 m.bal.nd, .int .i64 m.had.rd, .int .i64 m.had.nd, .string m.text] 78)).cell? ⟨w.heap.size, 1, none⟩ = some (.int .i64 m.fr) := kb.cell 1
  have e2 : (w.alloc (.cells #[.int .i64 m.kind, .int .i64 m.fr, .int .i64 m.dst, .int .i64 m.slot, .int .i64 m.bal.rd, .int .i64 m.bal.nd, .int .i64 m.had.rd, .int .i64 m.had.nd, .string m.text] 78)).cell? ⟨w.heap.size, 2, none⟩ = some (.int .i64 m.dst) := kb.cell 2
  have e3 : (w.alloc (.cells #[.int .i64 m.kind, .int .i64 m.fr, .int .i64 m.dst, .int .i64 m.slot, .int .i64 m.bal.rd, .int .i64 m.bal.nd, .int .i64 m.had.rd, .int .i64 m.had.nd, .string m.text] 78)).cell? ⟨w.heap.size, 3, none⟩ = some (.int .i64 m.slot) := kb.cell 3
  have e4 : (w.alloc (.cells #[.int .i64 m.kind, .int .i64 m.fr, .int .i64 m.dst, .int .i64 m.slot, .int .i64 m.bal.rd, .int .i64 m.bal.nd, .int .i64 m.had.rd, .int .i64 m.had.nd, .string m.text] 78)).cell? ⟨w.heap.size, 4, none⟩ = some (.int .i64 m.bal.rd) := kb.cell 4
  have e5 : (w.alloc (.cells #[.int .i64 m.kind, .int .i64 m.fr, .int .i64 m.dst, .int .i64 m.slot, .int .i64 m.bal.rd, .int .i64 m.bal.nd, .int .i64 m.had.rd, .int .i64 m.had.nd, .string m.text] 78)).cell? ⟨w.heap.size, 5, none⟩ = some (.int .i64 m.bal.nd) := kb.cell 5
  have e6 : (w.alloc (.cells #[.int .i64 m.kind, .int .i64 m.fr, .int .i64 m.dst, .int .i64 m.slot, .int .i64 m.bal.rd, .int .i64 m.bal.nd, .int .i64 m.had.rd, .int .i64 m.had.nd, .string m.text] 78)).cell? ⟨w.heap.size, 6, none⟩ = some (.int .i64 m.had.rd) := kb.cell 6
  have e7 : (w.alloc (.cells #[.int .i64 m.kind, .int .i64 m.fr, .int .i64 m.dst, .int .i64 m.slot, .int .i64 m.bal.rd, .int .i64 m.bal.nd, .int .i64 m.had.rd, .int .i64 m.had.nd, .string m.text] 78)).cell? ⟨w.heap.size, 7, none⟩ = some (.int .i64 m.had.nd) := kb.cell 7
  have e8 : (w.alloc (.cells #[.int .i64 m.kind, .int .i64 m.fr, .int .i64 m.dst, .int .i64 m.slot, .int .i64 m.bal.rd, .int .i64 m.bal.nd, .int .i64 m.had.rd, .int .i64 m.had.nd, .string m.text] 78)).cell? ⟨w.heap.size, 8, none⟩ = some (.string m.text) := kb.cell 8
  cases hc : x.cnts m true with
  | none =>
    have hpure : Hid (G.acceptedOf i s x m = G) := hid (by unfold Gr.acceptedOf; rw [hc])
    have hcn := hid (answered_no m x i s true hh.out hi hx (Sl.cnts_none hc))
    have hq := hid q
    clear hc q kb hx
    go_enter Try.func59, Try.ntmps59
    go_wp2_with fail
    refine hcn.out.mono ?_
    rintro e w2 ⟨rfl, hb2⟩
    have hfin : Hid (GGo S w g G w2) := hid ⟨S, ⟨_, _, _, _, _, hq.out.below hb2⟩, fun _ h => .inl h, .of_below' (hB.out.trans (hb2.mono hB.out.size)) _⟩
    clear hb2
    go_wp2_with fail
    refine bodyPost_ret (v := .tuple #[]) (by simp [results, Try.results59, go_sem]) rfl ?_
    exact ⟨rfl, by rw [hpure.out]; exact hfin.out⟩
  | some d2 =>
    obtain ⟨d, hd, h1, h2, hag, hd2⟩ := Sl.cnts_some hc
    have hcy0 := answered_yes m x i s true hh.out hi hx d hd h1 h2 hag hn
    have hl2 : d2.ans.length = d.ans.length + 1 := by rw [hd2]; exact setA_len hag
    rw [← hd2] at hcy0
    have hcy := hid hcy0
    have hpure : Hid (G.acceptedOf i s x m = if d2.ans.length = G.nds.length / 2 + 1 then (G.setSl i s { x with bid := none }).sendAll ⟨5, m.dst, 0, m.slot, m.bal, bal0, d2.text⟩ else G.setSl i s { x with bid := some d2 }) := hid (by unfold Gr.acceptedOf; rw [hc])
    have hl2 := hid hl2
    clear hc hd h1 h2 hag hd2 hcy0 q
    have hWS : (w.alloc (.cells #[.int .i64 m.kind, .int .i64 m.fr, .int .i64 m.dst, .int .i64 m.slot, .int .i64 m.bal.rd, .int .i64 m.bal.nd, .int .i64 m.had.rd, .int .i64 m.had.nd, .string m.text] 78)).heap.size = w.heap.size + 1 := by simp
    have hWS := hid hWS
    go_enter Try.func59, Try.ntmps59
    go_wp2_with fail
    refine hcy.out.mono ?_
    rintro e w2 ⟨rfl, S2, q2, hS2, hu2⟩
    have hWS2 := hWS.out
    by_cases hmaj : d.ans.length = G.nds.length / 2
    · have tt : decide (d.ans.length = G.nds.length / 2) = true := decide_eq_true hmaj
      have hmaj2 : Hid (d2.ans.length = G.nds.length / 2 + 1) := hid (by rw [hl2.out, hmaj])
      have hlen2 : (G.setSl i s { x with bid := some d2 }).nds.length = G.nds.length := Gr.len_set _ _ _
      have hi2 : i < (G.setSl i s { x with bid := some d2 }).nds.length := by omega
      have hx2 : getA s ((G.setSl i s { x with bid := some d2 }).nd i).sl = some { x with bid := some d2 } := by
        unfold Gr.setSl
        rw [Gr.nd_set _ _ _ _ hi, if_pos rfl]
        show getA s (setA s _ (G.nd i).sl) = _
        rw [getA_set, if_pos rfl]
      obtain ⟨kS, hSs, hbd⟩ := q2.sl i hi2 (s, { x with bid := some d2 }) (getA_mem hx2)
      obtain ⟨kD, hSd, hSa, hmp, hon⟩ := hbd d2 rfl
      have s8 : w2.cell? ⟨a.sb i s, 8, none⟩ = some (.pointer (some ⟨a.bb i s, 0, none⟩)) := kS.cell 8
      have d2' : w2.cell? ⟨a.bb i s, 2, none⟩ = some (.string d2.text) := kD.cell 2
      have qs := fun j => kS.frozen j
      have hsl : a.sb i s < w2.heap.size := kS.lt
      have hSs : S2 (a.sb i s) := hSs
      have kb2 := kb.upd hu2 fun hS => by have := hSlt _ hS; omega
      have hzb := kb2.lt
      have hsw : a.sb i s ≠ w.heap.size := fun e => by
        rcases hS2 _ hSs with h | h
        · have := hSlt _ h; omega
        · omega
      have hu3 : Upd (fun k => k = a.sb i s) w2 (w2.setCell ⟨a.sb i s, 8, none⟩ (.pointer none)) := (Upd.refl (fun k => k = a.sb i s) w2).setCell (p := ⟨a.sb i s, 8, none⟩) (fun _ => rfl) _
      have kb3 := kb2.upd hu3 (Ne.symm hsw)
      have q3 : GAt S2 (w2.setCell ⟨a.sb i s, 8, none⟩ (.pointer none)) g (G.setSl i s { x with bid := none }) := by
        have := q2.slot (S' := S2) (x' := { x with bid := none }) (bb' := a.bb i s) (ab' := a.ab i s) hi2 hx2 hu3 (fun k hk => .inl hk) (fun _ => id) (fun k hk => by have := q2.lt k hk; simpa using this) ⟨kS.set_ 8 (.pointer none), hSs, fun d hd => by cases hd⟩ (fun hs => by cases hs)
        rw [setSl_setSl _ _ _ _ _ hi] at this
        exact ⟨_, _, _, _, _, this⟩
      have hz3 : (w2.setCell ⟨a.sb i s, 8, none⟩ (.pointer none)).heap.size = w2.heap.size := by simp
      have hz2 := hu2.size
      have hlen3 : (G.setSl i s { x with bid := none }).nds.length = G.nds.length := Gr.len_set _ _ _
      have hlen3 := hid hlen3
      clear hlen2 hx2 kD hmp hon q2 hmaj e0 e1 e2 e3 e4 e5 e6 e7 e8 kb kb2 kS hbd
      go_upto_region 4 with fail
      generalize w2.setCell ⟨a.sb i s, 8, none⟩ (.pointer none) = w3 at *
      have e0 : w3.cell? ⟨w.heap.size, 0, none⟩ = some (.int .i64 m.kind) := kb3.cell 0
      have e1 : w3.cell? ⟨w.heap.size, 1, none⟩ = some (.int .i64 m.fr) := kb3.cell 1
      have e2 : w3.cell? ⟨w.heap.size, 2, none⟩ = some (.int .i64 m.dst) := kb3.cell 2
      have e3 : w3.cell? ⟨w.heap.size, 3, none⟩ = some (.int .i64 m.slot) := kb3.cell 3
      have e4 : w3.cell? ⟨w.heap.size, 4, none⟩ = some (.int .i64 m.bal.rd) := kb3.cell 4
      have e5 : w3.cell? ⟨w.heap.size, 5, none⟩ = some (.int .i64 m.bal.nd) := kb3.cell 5
      have e6 : w3.cell? ⟨w.heap.size, 6, none⟩ = some (.int .i64 m.had.rd) := kb3.cell 6
      have e7 : w3.cell? ⟨w.heap.size, 7, none⟩ = some (.int .i64 m.had.nd) := kb3.cell 7
      have e8 : w3.cell? ⟨w.heap.size, 8, none⟩ = some (.string m.text) := kb3.cell 8
      clear s8 d2' qs
      go_wp2_with fail
      refine (sendAll_any ⟨5, m.dst, 0, m.slot, m.bal, bal0, d2.text⟩ q3 (by rw [hlen3.out]; exact hn)).mono ?_
      rintro e w4 ⟨rfl, S4, h4, hS4, hu4⟩
      go_wp2_with fail
      go_end0
      refine ⟨rfl, ?_⟩
      rw [hpure.out, if_pos hmaj2.out]
      refine ⟨S4, h4, fun k hk => ?_, ?_⟩
      · rcases hS4 k hk with h | h
        · rcases hS2 k h with h | h
          · exact .inl h
          · exact .inr (by omega)
        · exact .inr (by omega)
      · refine (((Upd.of_below' hB.out S).trans hu2 fun _ _ h => h).trans (hu3.mono (M' := S2) fun k _ h => h ▸ hSs) fun k hk h => ?_).trans hu4 fun k hk h => ?_
        · rcases hS2 k h with h | h
          · exact h
          · omega
        · rcases hS2 k h with h | h
          · exact h
          · omega
    · have tt : decide (d.ans.length = G.nds.length / 2) = false := decide_eq_false hmaj
      have hmaj2 : Hid (¬ d2.ans.length = G.nds.length / 2 + 1) := hid (by rw [hl2.out]; omega)
      have hfin : Hid (GGo S w g (G.setSl i s { x with bid := some d2 }) w2) := hid ⟨S2, ⟨_, _, _, _, _, q2⟩, fun k hk => (hS2 k hk).imp id (by omega), (Upd.of_below' hB.out S).trans hu2 fun _ _ h => h⟩
      clear q2 hu2 hmaj
      go_wp2_with fail
      refine bodyPost_ret (v := .tuple #[]) (by simp [results, Try.results59, go_sem]) rfl ?_
      refine ⟨rfl, ?_⟩
      rw [hpure.out, if_neg hmaj2.out]
      exact hfin.out
end

end Go.Proofs.Ytbgopicpdpkccaa

namespace Go.Proofs.Ytbgopicpdpkccaa
open Go.RowKit
set_option linter.unusedVariables false
set_option linter.unusedSimpArgs false

theorem c3_cases (x y : Int) : (x < y ∧ c3 x y = -1) ∨ (y < x ∧ c3 x y = 1) ∨ (x = y ∧ c3 x y = 0) := by
  unfold c3
  by_cases h1 : x < y
  · exact .inl ⟨h1, by rw [if_pos h1]⟩
  · by_cases h2 : y < x
    · exact .inr (.inl ⟨h2, by rw [if_neg h1, if_pos h2]⟩)
    · exact .inr (.inr ⟨by omega, by rw [if_neg h1, if_neg h2]⟩)
theorem cmpB_le {a b : Bal} : cmpB a b ≤ 0 ↔ a.rd < b.rd ∨ a.rd = b.rd ∧ a.nd ≤ b.nd := by
  unfold cmpB orI
  rcases c3_cases a.rd b.rd with ⟨h, e⟩ | ⟨h, e⟩ | ⟨h, e⟩ <;> rcases c3_cases a.nd b.nd with ⟨h2, e2⟩ | ⟨h2, e2⟩ | ⟨h2, e2⟩ <;> rw [e] <;> simp [e2] <;> omega
theorem cmpB_refl (a : Bal) : cmpB a a ≤ 0 := cmpB_le.2 (.inr ⟨rfl, Int.le_refl _⟩)
theorem cmpB_trans {a b c : Bal} (h1 : cmpB a b ≤ 0) (h2 : ¬ cmpB c b ≤ 0) : cmpB a c ≤ 0 := by
  rw [cmpB_le] at *
  omega
/-- the answer with the greatest ballot, or the bid's own text -/
def IsBest (ans : List (Int × Vt)) (t : ByteArray) (best : Vt) : Prop :=
  (best = ⟨bal0, t⟩ ∨ ∃ p ∈ ans, p.2 = best ∧ 0 < best.bal.rd) ∧ ∀ p ∈ ans, 0 < p.2.bal.rd → cmpB p.2.bal best.bal ≤ 0
def Gr.promised (G : Gr) (i : Nat) (s : Int) (x : Sl) (m : Ml) (d2 : Bd) (best : Vt) : Gr :=
  (G.setSl i s { x with bid := some ⟨d2.bal, best.text, true, []⟩ }).sendAll ⟨3, m.dst, 0, m.slot, d2.bal, bal0, best.text⟩
/-- what promise leaves -/
def Gr.Promise (G : Gr) (i : Nat) (s : Int) (x : Sl) (m : Ml) (G' : Gr) : Prop := match x.cnts m false with
  | none => G' = G
  | some d2 => if d2.ans.length = G.nds.length / 2 + 1 then ∃ best, IsBest d2.ans d2.text best ∧ G' = G.promised i s x m d2 best else G' = G.setSl i s { x with bid := some d2 }
/-- under way in the answers -/
def PRel (W0 : World) (r z ab : Nat) (es : Array MapEntry) (clock : Nat) (ans : List (Int × Vt)) (t : ByteArray) (wr : World) : Prop :=
  ∃ seen c0 best, wr.heap[r]? = some (.mapIter (some ab) clock seen c0) ∧ clock ≤ c0 ∧ Blk wr z 71 #[.int .i64 best.bal.rd, .int .i64 best.bal.nd, .string best.text] ∧ Below W0.heap.size W0 wr ∧ (best = ⟨bal0, t⟩ ∨ ∃ p ∈ ans, p.2 = best ∧ 0 < best.bal.rd) ∧ ∀ e ∈ es.toList, seen.contains e.born = true → ∀ v, e.val = vtV v → 0 < v.bal.rd → cmpB v.bal best.bal ≤ 0
theorem iterSeen_of {w : World} {r : Nat} {m : Option Nat} {n : Nat} {seen : Array Nat} {c : Nat} (h : w.heap[r]? = some (.mapIter m n seen c)) : w.iterSeen r = seen := by
  unfold World.iterSeen; rw [h]
theorem vtV_inj {u v : Vt} (h : vtV u = vtV v) : u = v := by
  unfold vtV at h
  injection h with h
  obtain ⟨⟨a, b⟩, c⟩ := u
  obtain ⟨⟨a', b'⟩, c'⟩ := v
  simp at h
  obtain ⟨h1, h2, h3⟩ := h
  subst h1; subst h2; subst h3; rfl

section
variable {S : Nat → Prop} {w w' : World} {g : Nat} {An Am : Option Addr} {cn cm : Nat} {G : Gr} {a : Ad}
set_option maxRecDepth 100000 in
set_option maxHeartbeats 4000000 in
theorem promise_any (m : Ml) (x : Sl) (i : Nat) (s : Int) (h : GIn S w g An cn Am cm G a) (hi : i < G.nds.length) (hx : getA s (G.nd i).sl = some x) (hn : G.nds.length ≤ 1000) : Calls Try.prog 57 #[.pointer (some ⟨g, 0, none⟩), .pointer (some ⟨a.sb i s, 0, none⟩), .agg #[.int .i64 m.kind, .int .i64 m.fr, .int .i64 m.dst, .int .i64 m.slot, .int .i64 m.bal.rd, .int .i64 m.bal.nd, .int .i64 m.had.rd, .int .i64 m.had.nd, .string m.text]] w fun e w' => e = .returned (.tuple #[]) ∧ ∃ G', G.Promise i s x m G' ∧ GGo S w g G' w' := by
  have hB0 : Below w.heap.size w (w.alloc (.cells #[.int .i64 m.kind, .int .i64 m.fr, .int .i64 m.dst, .int .i64 m.slot, .int .i64 m.bal.rd, .int .i64 m.bal.nd, .int .i64 m.had.rd, .int .i64 m.had.nd, .string m.text] 78)) := (Below.refl _ _).alloc (Nat.le_refl _) _
  have kb := Blk.new w 78 #[.int .i64 m.kind, .int .i64 m.fr, .int .i64 m.dst, .int .i64 m.slot, .int .i64 m.bal.rd, .int .i64 m.bal.nd, .int .i64 m.had.rd, .int .i64 m.had.nd, .string m.text]
  have hSlt := h.lt
  have q := h.below hB0
  have hB := hid hB0
  have hh := hid q
  clear h hB0
  have e0 : (w.alloc (.cells #[.int .i64 m.kind, .int .i64 m.fr, .int .i64 m.dst, .int .i64 m.slot, .int .i64 m.bal.rd, .int .i64 m.bal.nd, .int .i64 m.had.rd, .int .i64 m.had.nd, .string m.text] 78)).cell? ⟨w.heap.size, 0, none⟩ = some (.int .i64 m.kind) := kb.cell 0
  have e1 : (w.alloc (.cells #[.int .i64 m.kind, .int .i64 m.fr, .int .i64 m.dst, .int .i64 m.slot, .int .i64 m.bal.rd, .int .i64 m.bal.nd, .int .i64 m.had.rd, .int .i64 m.had.nd, .string m.text] 78)).cell? ⟨w.heap.size, 1, none⟩ = some (.int .i64 m.fr) := kb.cell 1
  have e2 : (w.alloc (.cells #[.int .i64 m.kind, .int .i64 m.fr, .int .i64 m.dst, .int .i64 m.slot, .int .i64 m.bal.rd, .int .i64 m.bal.nd, .int .i64 m.had.rd, .int .i64 m.had.nd, .string m.text] 78)).cell? ⟨w.heap.size, 2, none⟩ = some (.int .i64 m.dst) := kb.cell 2
  have e3 : (w.alloc (.cells #[.int .i64 m.kind, .int .i64 m.fr, .int .i64 m.dst, .int .i64 m.slot, .int .i64 m.bal.rd, .int .i64 m.bal.nd, .int .i64 m.had.rd, .int .i64 m.had.nd, .string m.text] 78)).cell? ⟨w.heap.size, 3, none⟩ = some (.int .i64 m.slot) := kb.cell 3
  have e4 : (w.alloc (.cells #[.int .i64 m.kind, .int .i64 m.fr, .int .i64 m.dst, .int .i64 m.slot, .int .i64 m.bal.rd, .int .i64 m.bal.nd, .int .i64 m.had.rd, .int .i64 m.had.nd, .string m.text] 78)).cell? ⟨w.heap.size, 4, none⟩ = some (.int .i64 m.bal.rd) := kb.cell 4
  have e5 : (w.alloc (.cells #[.int .i64 m.kind, .int .i64 m.fr, .int .i64 m.dst, .int .i64 m.slot, .int .i64 m.bal.rd, .int .i64 m.bal.nd, .int .i64 m.had.rd, .int .i64 m.had.nd, .string m.text] 78)).cell? ⟨w.heap.size, 5, none⟩ = some (.int .i64 m.bal.nd) := kb.cell 5
  have e6 : (w.alloc (.cells #[.int .i64 m.kind, .int .i64 m.fr, .int .i64 m.dst, .int .i64 m.slot, .int .i64 m.bal.rd, .int .i64 m.bal.nd, .int .i64 m.had.rd, .int .i64 m.had.nd, .string m.text] 78)).cell? ⟨w.heap.size, 6, none⟩ = some (.int .i64 m.had.rd) := kb.cell 6
  have e7 : (w.alloc (.cells #[.int .i64 m.kind, .int .i64 m.fr, .int .i64 m.dst, .int .i64 m.slot, .int .i64 m.bal.rd, .int .i64 m.bal.nd, .int .i64 m.had.rd, .int .i64 m.had.nd, .string m.text] 78)).cell? ⟨w.heap.size, 7, none⟩ = some (.int .i64 m.had.nd) := kb.cell 7
  have e8 : (w.alloc (.cells #[.int .i64 m.kind, .int .i64 m.fr, .int .i64 m.dst, .int .i64 m.slot, .int .i64 m.bal.rd, .int .i64 m.bal.nd, .int .i64 m.had.rd, .int .i64 m.had.nd, .string m.text] 78)).cell? ⟨w.heap.size, 8, none⟩ = some (.string m.text) := kb.cell 8
  cases hc : x.cnts m false with
  | none =>
    have hpure : Hid (G.Promise i s x m G) := hid (by unfold Gr.Promise; rw [hc])
    have hcn := hid (answered_no m x i s false hh.out hi hx (Sl.cnts_none hc))
    have hq := hid q
    clear hc q kb hx
    go_enter Try.func57, Try.ntmps57
    go_wp2_with fail
    refine hcn.out.mono ?_
    rintro e w2 ⟨rfl, hb2⟩
    have hfin : Hid (GGo S w g G w2) := hid ⟨S, ⟨_, _, _, _, _, hq.out.below hb2⟩, fun _ h => .inl h, .of_below' (hB.out.trans (hb2.mono hB.out.size)) _⟩
    clear hb2
    go_wp2_with fail
    refine bodyPost_ret (v := .tuple #[]) (by simp [results, Try.results57, go_sem]) rfl ?_
    exact ⟨rfl, G, hpure.out, hfin.out⟩
  | some d2 =>
    obtain ⟨d, hd, h1, h2, hag, hd2⟩ := Sl.cnts_some hc
    have hcy0 := answered_yes m x i s false hh.out hi hx d hd h1 h2 hag hn
    have hl20 : d2.ans.length = d.ans.length + 1 := by rw [hd2]; exact setA_len hag
    rw [← hd2] at hcy0
    have hcy := hid hcy0
    have hpure : Hid (∀ G', G.Promise i s x m G' ↔ if d2.ans.length = G.nds.length / 2 + 1 then ∃ best, IsBest d2.ans d2.text best ∧ G' = G.promised i s x m d2 best else G' = G.setSl i s { x with bid := some d2 }) := hid (fun G' => by unfold Gr.Promise; rw [hc])
    have hl2 := hid hl20
    clear hc hd h1 h2 hag hd2 hcy0 q hl20
    have hWS0 : (w.alloc (.cells #[.int .i64 m.kind, .int .i64 m.fr, .int .i64 m.dst, .int .i64 m.slot, .int .i64 m.bal.rd, .int .i64 m.bal.nd, .int .i64 m.had.rd, .int .i64 m.had.nd, .string m.text] 78)).heap.size = w.heap.size + 1 := by simp
    have hWS := hid hWS0
    clear hWS0
    go_enter Try.func57, Try.ntmps57
    go_wp2_with fail
    refine hcy.out.mono ?_
    rintro e w2 ⟨rfl, S2, q2, hS2, hu2⟩
    have hWS2 := hWS.out
    by_cases hmaj : d.ans.length = G.nds.length / 2
    · have tt : decide (d.ans.length = G.nds.length / 2) = true := decide_eq_true hmaj
      have hmaj2 : Hid (d2.ans.length = G.nds.length / 2 + 1) := hid (by rw [hl2.out, hmaj])
      have hlen2 : (G.setSl i s { x with bid := some d2 }).nds.length = G.nds.length := Gr.len_set _ _ _
      have hi2 : i < (G.setSl i s { x with bid := some d2 }).nds.length := by omega
      have hx2 : getA s ((G.setSl i s { x with bid := some d2 }).nd i).sl = some { x with bid := some d2 } := by
        unfold Gr.setSl
        rw [Gr.nd_set _ _ _ _ hi, if_pos rfl]
        show getA s (setA s _ (G.nd i).sl) = _
        rw [getA_set, if_pos rfl]
      obtain ⟨kS, hSs, hbd⟩ := q2.sl i hi2 (s, { x with bid := some d2 }) (getA_mem hx2)
      obtain ⟨kD, hSd, hSa, hmp, hon⟩ := hbd d2 rfl
      have s8 : w2.cell? ⟨a.sb i s, 8, none⟩ = some (.pointer (some ⟨a.bb i s, 0, none⟩)) := kS.cell 8
      have d2' : w2.cell? ⟨a.bb i s, 2, none⟩ = some (.string d2.text) := kD.cell 2
      have hsl : a.sb i s < w2.heap.size := kS.lt
      have hdl : a.bb i s < w2.heap.size := kD.lt
      have hal : a.ab i s < w2.heap.size := hmp.lt
      have hSs : S2 (a.sb i s) := hSs
      have hSd : S2 (a.bb i s) := hSd
      have kb2 := kb.upd hu2 fun hS => by have := hSlt _ hS; omega
      obtain ⟨es, clock, hes, hpr, hst⟩ := id hmp
      have hq2 := hid q2
      have hkD := hid kD
      have hB3 : Below w2.heap.size w2 (w2.alloc (.cells #[.int .i64 0, .int .i64 0, .string d2.text] 71)) := (Below.refl _ _).alloc (Nat.le_refl _) _
      have kv3 := Blk.new w2 71 #[.int .i64 0, .int .i64 0, .string d2.text]
      clear hlen2 hx2 hon q2 hmaj e0 e1 e2 e3 e4 e5 e6 e7 e8 kb kS hbd kD
      go_upto_region 4 with fail
      generalize w2.alloc (.cells #[.int .i64 0, .int .i64 0, .string d2.text] 71) = w3 at *
      have d4 : w3.cell? ⟨a.bb i s, 4, none⟩ = some (.map (some (a.ab i s))) := (hkD.out.below_all hB3).cell 4
      have hes3 : w3.heap[a.ab i s]? = some (.map es clock) := (hB3.block _ hal).trans hes
      have hrg := run_range_map (P := Try.prog) w3 81 3 71 (a.ab i s) es clock Try.underlying81 hes3
      have hz3 := hB3.size
      have hvl := kv3.lt
      clear s8 d2'
      go_wp2_with fail
      go_loopw [] (fun wr => PRel w2 w3.heap.size w2.heap.size (a.ab i s) es clock d2.ans d2.text wr) (fun wr => (leftOf es (wr.iterSeen w3.heap.size)).size)
      case atStart => exact ⟨#[], clock, ⟨bal0, d2.text⟩, heap_alloc_new _ _, Nat.le_refl _, kv3.alloc _, hB3.alloc hz3 _, .inl rfl, fun x _ h => by simp at h⟩
      case round =>
        clear hrg kv3 d4
        obtain ⟨seen, c0, best, hr, hc0, kv, hBw, hbest, hmax0⟩ := hrel
        have hmax := hid hmax0
        clear hmax0
        have hesr : wr.heap[a.ab i s]? = some (.map es clock) := (hBw.block _ hal).trans hes
        have law := run_next_at (P := Try.prog) wr 0 w3.heap.size (a.ab i s) clock c0 seen es clock hr hesr hst.1 hc0
        rcases law with ⟨h0, hrun⟩ | ⟨e, he, w1, hw1, hrun⟩
        · have hnx : ∀ ty, (Instr.next (.pointer (some ⟨w3.heap.size, 0, none⟩)) false ty).run Try.prog wr = .ok (.tuple #[.bool false]) wr := fun _ => hrun
          have hbst : Hid (IsBest d2.ans d2.text best) := hid (by
            refine ⟨hbest, fun p hp hpos => ?_⟩
            have hy : (intE.enc p.1, vtV p.2) ∈ pairs es.toList := by rw [hpr]; exact List.mem_map.2 ⟨(p.1, vtV p.2), List.mem_map.2 ⟨p, hp, rfl⟩, rfl⟩
            obtain ⟨e, he, e2⟩ := List.mem_map.1 hy
            injection e2 with _ e3
            exact hmax.out e he (all_seen es seen h0 e he) p.2 e3 hpos)
          have hmm := @run_makeMap Try.prog
          have q3 := hq2.out.below hBw
          have kD3 := hkD.out.below_all hBw
          have kb3 := kb2.below_all hBw
          have b2 : wr.cell? ⟨w2.heap.size, 2, none⟩ = some (.string best.text) := kv.cell 2
          have hzr := hBw.size
          have qd := fun j => (kD3.alloc (.map #[] 0)).frozen j
          have y2 : (wr.alloc (.map #[] 0)).cell? ⟨a.bb i s, 2, none⟩ = some (.string d2.text) := (kD3.alloc (.map #[] 0)).cell 2
          have y3 : (wr.alloc (.map #[] 0)).cell? ⟨a.bb i s, 3, none⟩ = some (.bool d2.acc) := (kD3.alloc (.map #[] 0)).cell 3
          have y4 : (wr.alloc (.map #[] 0)).cell? ⟨a.bb i s, 4, none⟩ = some (.map (some (a.ab i s))) := (kD3.alloc (.map #[] 0)).cell 4
          have hdw : a.bb i s ≠ w.heap.size := fun e => by
            rcases hS2 _ hSd with h | h
            · have := hSlt _ h; omega
            · omega
          have hdr : a.bb i s ≠ wr.heap.size := by omega
          have hu6 : Upd (fun k => k = a.bb i s) wr ((((wr.alloc (.map #[] 0)).setCell ⟨a.bb i s, 2, none⟩ (.string best.text)).setCell ⟨a.bb i s, 3, none⟩ (.bool true)).setCell ⟨a.bb i s, 4, none⟩ (.map (some wr.heap.size))) := ((((Upd.refl (fun k => k = a.bb i s) wr).alloc (.map #[] 0)).setCell (p := ⟨a.bb i s, 2, none⟩) (fun _ => rfl) _).setCell (p := ⟨a.bb i s, 3, none⟩) (fun _ => rfl) _).setCell (p := ⟨a.bb i s, 4, none⟩) (fun _ => rfl) _
          have kD6 : Blk ((((wr.alloc (.map #[] 0)).setCell ⟨a.bb i s, 2, none⟩ (.string best.text)).setCell ⟨a.bb i s, 3, none⟩ (.bool true)).setCell ⟨a.bb i s, 4, none⟩ (.map (some wr.heap.size))) (a.bb i s) 83 #[.int .i64 d2.bal.rd, .int .i64 d2.bal.nd, .string best.text, .bool true, .map (some wr.heap.size)] := (((kD3.alloc (.map #[] 0)).set_ 2 (.string best.text)).set_ 3 (.bool true)).set_ 4 (.map (some wr.heap.size))
          have hm6 : MapIs intE ((((wr.alloc (.map #[] 0)).setCell ⟨a.bb i s, 2, none⟩ (.string best.text)).setCell ⟨a.bb i s, 3, none⟩ (.bool true)).setCell ⟨a.bb i s, 4, none⟩ (.map (some wr.heap.size))) wr.heap.size [] := (((MapIs.new wr).setCell ⟨a.bb i s, 2, none⟩ _ (Ne.symm hdr)).setCell ⟨a.bb i s, 3, none⟩ _ (Ne.symm hdr)).setCell ⟨a.bb i s, 4, none⟩ _ (Ne.symm hdr)
          have hz6 : ((((wr.alloc (.map #[] 0)).setCell ⟨a.bb i s, 2, none⟩ (.string best.text)).setCell ⟨a.bb i s, 3, none⟩ (.bool true)).setCell ⟨a.bb i s, 4, none⟩ (.map (some wr.heap.size))).heap.size = wr.heap.size + 1 := by simp
          clear hr hesr kv
          go_upto_region 10 with fail
          generalize (((wr.alloc (.map #[] 0)).setCell ⟨a.bb i s, 2, none⟩ (.string best.text)).setCell ⟨a.bb i s, 3, none⟩ (.bool true)).setCell ⟨a.bb i s, 4, none⟩ (.map (some wr.heap.size)) = W6 at *
          have kb6 := kb3.upd hu6 (Ne.symm hdw)
          have hlen2 : (G.setSl i s { x with bid := some d2 }).nds.length = G.nds.length := Gr.len_set _ _ _
          have hx2 : getA s ((G.setSl i s { x with bid := some d2 }).nd i).sl = some { x with bid := some d2 } := by
            unfold Gr.setSl
            rw [Gr.nd_set _ _ _ _ hi, if_pos rfl]
            show getA s (setA s _ (G.nd i).sl) = _
            rw [getA_set, if_pos rfl]
          obtain ⟨kS3, _, _⟩ := q3.sl i hi2 (s, { x with bid := some d2 }) (getA_mem hx2)
          have kS3 : Blk wr (a.sb i s) 74 (({ x with bid := some d2 } : Sl).cells (a.bb i s)) := kS3
          have q6 : GAt (fun k => S2 k ∨ k = wr.heap.size) W6 g (G.setSl i s { x with bid := some ⟨d2.bal, best.text, true, []⟩ }) := by
            have := q3.slot (S' := fun k => S2 k ∨ k = wr.heap.size) (x' := { x with bid := some ⟨d2.bal, best.text, true, []⟩ }) (bb' := a.bb i s) (ab' := wr.heap.size) hi2 hx2 hu6 (fun k hk => .inr ⟨rfl, .inl hk⟩) (fun k h => .inl h) (fun k hk => by
              rcases hk with hk | rfl
              · have := q3.lt k hk; omega
              · omega) ⟨kS3.upd hu6 (fun e => kS3.ne_ kD3 (by decide) e), .inl hSs, fun d' hd' => ?_⟩ (fun _ => .inl ⟨rfl, rfl, .inr (Nat.le_refl _)⟩)
            · rw [setSl_setSl _ _ _ _ _ hi] at this
              exact ⟨_, _, _, _, _, this⟩
            · injection hd' with hd'
              subst hd'
              exact ⟨kD6, .inl hSd, .inr rfl, hm6, by simp [Once]⟩
          have hlen3 : (G.setSl i s { x with bid := some ⟨d2.bal, best.text, true, []⟩ }).nds.length = G.nds.length := Gr.len_set _ _ _
          have hlen3 := hid hlen3
          have f0 : W6.cell? ⟨a.bb i s, 0, none⟩ = some (.int .i64 d2.bal.rd) := kD6.cell 0
          have f1 : W6.cell? ⟨a.bb i s, 1, none⟩ = some (.int .i64 d2.bal.nd) := kD6.cell 1
          have f2 : W6.cell? ⟨a.bb i s, 2, none⟩ = some (.string best.text) := kD6.cell 2
          have hz2 := hu2.size
          have hBwr := hid hBw
          clear hlen2 hx2 kS3 q3 kD3 kb3 b2 qd y2 y3 y4 kD6 hm6 hmm
          have e0 : W6.cell? ⟨w.heap.size, 0, none⟩ = some (.int .i64 m.kind) := kb6.cell 0
          have e1 : W6.cell? ⟨w.heap.size, 1, none⟩ = some (.int .i64 m.fr) := kb6.cell 1
          have e2 : W6.cell? ⟨w.heap.size, 2, none⟩ = some (.int .i64 m.dst) := kb6.cell 2
          have e3 : W6.cell? ⟨w.heap.size, 3, none⟩ = some (.int .i64 m.slot) := kb6.cell 3
          have e4 : W6.cell? ⟨w.heap.size, 4, none⟩ = some (.int .i64 m.bal.rd) := kb6.cell 4
          have e5 : W6.cell? ⟨w.heap.size, 5, none⟩ = some (.int .i64 m.bal.nd) := kb6.cell 5
          have e6 : W6.cell? ⟨w.heap.size, 6, none⟩ = some (.int .i64 m.had.rd) := kb6.cell 6
          have e7 : W6.cell? ⟨w.heap.size, 7, none⟩ = some (.int .i64 m.had.nd) := kb6.cell 7
          have e8 : W6.cell? ⟨w.heap.size, 8, none⟩ = some (.string m.text) := kb6.cell 8
          go_still_tail 14, (by kernel_rfl)
          change wpList _ _ _ _ _ W6.drew
          go_wp2_with fail
          refine (sendAll_any ⟨3, m.dst, 0, m.slot, d2.bal, bal0, best.text⟩ (q6.below (Below.refl _ W6).drew) (by rw [hlen3.out]; exact hn)).mono ?_
          rintro e4 w4 ⟨rfl, S4, h4, hS4, hu4⟩
          have hS4 : ∀ k, S4 k → (S2 k ∨ k = wr.heap.size) ∨ W6.heap.size ≤ k := hS4
          have hu4 : Upd (fun k => S2 k ∨ k = wr.heap.size) W6 w4 := (Upd.of_below' (Below.refl _ W6).drew _).trans hu4 fun _ _ h => h
          go_wp2_with fail
          go_end0
          refine ⟨rfl, _, (hpure.out _).2 (by rw [if_pos hmaj2.out]; exact ⟨best, hbst.out, rfl⟩), S4, h4, fun k hk => ?_, ?_⟩
          · rcases hS4 k hk with (h | h) | h
            · rcases hS2 k h with h | h
              · exact .inl h
              · exact .inr (by omega)
            · exact .inr (by omega)
            · exact .inr (by omega)
          · refine ((((Upd.of_below' hB.out S).trans hu2 fun _ _ h => h).trans (Upd.of_below' hBwr.out _) fun _ _ h => h).trans (hu6.mono (M' := S2) fun k _ h => h ▸ hSd) fun k hk h => ?_).trans hu4 fun k hk h => ?_
            · rcases hS2 k h with h | h
              · exact h
              · omega
            · rcases h with h | h
              · rcases hS2 k h with h | h
                · exact h
                · omega
              · omega
        · have hval : ∃ k v, (k, v) ∈ d2.ans ∧ e.val = vtV v := by
            have hy2 : (e.key, e.val) ∈ encs intE (d2.ans.map fun p => (p.1, vtV p.2)) := by rw [← hpr]; exact List.mem_map.2 ⟨e, (mem_left he).1, rfl⟩
            obtain ⟨p, hp, e2⟩ := List.mem_map.1 hy2
            obtain ⟨q, hq, rfl⟩ := List.mem_map.1 hp
            injection e2 with e3 e4
            exact ⟨q.1, q.2, hq, e4.symm⟩
          obtain ⟨kk, v, hkv, hev⟩ := hval
          obtain ⟨wn, hwn⟩ : ∃ wn, wn = Go.ChangeMaps.setBlock w1 w3.heap.size (.mapIter (some (a.ab i s)) clock (seen.push e.born) clock) := ⟨_, rfl⟩
          rw [← hwn, hev] at hrun
          have hrl : w3.heap.size < wr.heap.size := (Array.getElem?_eq_some_iff.1 hr).1
          have hw1h : w1.heap = wr.heap := by rcases hw1 with rfl | rfl <;> rfl
          have hrn : wn.heap[w3.heap.size]? = some (.mapIter (some (a.ab i s)) clock (seen.push e.born) clock) := by rw [hwn]; exact heap_set_eq w1 _ _ (by rw [hw1h]; exact hrl)
          have hBn : Below w2.heap.size w2 wn := by
            have : ∀ w0 : World, (w0 = wr ∨ w0 = wr.drew) → Below w2.heap.size w2 w0 := fun w0 h => by rcases h with rfl | rfl; exact hBw; exact hBw.drew
            have hb := this w1 hw1
            rw [hwn]
            exact hb.grown (grown_set w1 w3.heap.size _) hb.size fun k hk => by injection hk with hk; omega
          have kvn : Blk wn w2.heap.size 71 #[.int .i64 best.bal.rd, .int .i64 best.bal.nd, .string best.text] := by
            rw [hwn]; exact (heap_set_ne w1 _ _ _ (by omega)).trans (by rw [hw1h]; exact kv)
          have hesn : wn.heap[a.ab i s]? = some (.map es clock) := (hBn.block _ hal).trans hes
          have hent0 := run_entry_at (P := Try.prog) wn w3.heap.size (a.ab i s) clock seen es clock e hrn hesn (mem_left he).1 hst.2.1
          rw [hev] at hent0
          have hnx : ∀ ty, (Instr.next (.pointer (some ⟨w3.heap.size, 0, none⟩)) false ty).run Try.prog wr = .ok (.tuple #[.bool true, e.key, .agg #[.int .i64 v.bal.rd, .int .i64 v.bal.nd, .string v.text]]) wn := fun _ => hrun
          have hent : (Instr.entry (.pointer (some ⟨w3.heap.size, 0, none⟩))).run Try.prog wn = .ok (.tuple #[e.key, .agg #[.int .i64 v.bal.rd, .int .i64 v.bal.nd, .string v.text]]) wn := hent0
          have hpush := left_shrinks es seen e he
          have hseen0 := hid (iterSeen_of hr)
          have hev0 := hid hev
          have hm := mem_left he
          clear hr hesr hwn hw1 hw1h kv hBw hent0 hrun
          generalize e.key = ek at *
          go_upto_region 7 with fail
          have hseen := hseen0
          have hBa : Below wn.heap.size wn (wn.alloc (.cells #[.int .i64 v.bal.rd, .int .i64 v.bal.nd, .string v.text] 71)) := (Below.refl _ _).alloc (Nat.le_refl _) _
          have kva := Blk.new wn 71 #[.int .i64 v.bal.rd, .int .i64 v.bal.nd, .string v.text]
          have kvb := kvn.below_all hBa
          have hra := (hBa.block _ ((Array.getElem?_eq_some_iff.1 hrn).1)).trans hrn
          have hB2a := hBn.trans (hBa.mono hBn.size)
          have hrl3 : w3.heap.size < wn.heap.size := (Array.getElem?_eq_some_iff.1 hrn).1
          have hvz := kva.lt
          have hvr : w3.heap.size ≠ wn.heap.size := by omega
          clear hrn hBn hBa kvn hent hnx
          generalize wn.alloc (.cells #[.int .i64 v.bal.rd, .int .i64 v.bal.nd, .string v.text] 71) = wa at *
          have u0 : wa.cell? ⟨wn.heap.size, 0, none⟩ = some (.int .i64 v.bal.rd) := kva.cell 0
          have u1 : wa.cell? ⟨wn.heap.size, 1, none⟩ = some (.int .i64 v.bal.nd) := kva.cell 1
          have b0 : wa.cell? ⟨w2.heap.size, 0, none⟩ = some (.int .i64 best.bal.rd) := kvb.cell 0
          have b1 : wa.cell? ⟨w2.heap.size, 1, none⟩ = some (.int .i64 best.bal.nd) := kvb.cell 1
          have hstep0 : ∀ best' : Vt, (∀ e' ∈ es.toList, seen.contains e'.born = true → ∀ v', e'.val = vtV v' → 0 < v'.bal.rd → cmpB v'.bal best'.bal ≤ 0) → (0 < v.bal.rd → cmpB v.bal best'.bal ≤ 0) → ∀ e' ∈ es.toList, (seen.push e.born).contains e'.born = true → ∀ v', e'.val = vtV v' → 0 < v'.bal.rd → cmpB v'.bal best'.bal ≤ 0 := by
            intro best' h1 h2 e' he' hc v' hv' hp
            rw [contains_push, Bool.or_eq_true] at hc
            rcases hc with hc | hc
            · exact h1 e' he' hc v' hv' hp
            · have e1 : e' = e := born_inj hst.2.1 he' hm.1 (by simpa using hc)
              subst e1
              have : v' = v := vtV_inj (hv'.symm.trans hev0.out)
              subst this
              exact h2 hp
          have hstep := hid hstep0
          clear hstep0
          by_cases hpos : 0 < v.bal.rd
          · have t1 : decide (0 < v.bal.rd) = true := decide_eq_true hpos
            go_wp2_with fail
            refine (compare_any v.bal best.bal wa).mono ?_
            rintro e5 wb ⟨rfl, hbc⟩
            have kvc := kvb.below_all hbc
            have kvd := kva.below_all hbc
            have hrb := (hbc.block _ ((Array.getElem?_eq_some_iff.1 hra).1)).trans hra
            have hB2b := hB2a.trans (hbc.mono hB2a.size)
            clear u0 u1 b0 b1 kvb kva hra hB2a hbc
            by_cases hgt : 0 < cmpB v.bal best.bal
            · have t2 : decide (0 < cmpB v.bal best.bal) = true := decide_eq_true hgt
              have u0 : wb.cell? ⟨wn.heap.size, 0, none⟩ = some (.int .i64 v.bal.rd) := kvd.cell 0
              have u1 : wb.cell? ⟨wn.heap.size, 1, none⟩ = some (.int .i64 v.bal.nd) := kvd.cell 1
              have u2 : wb.cell? ⟨wn.heap.size, 2, none⟩ = some (.string v.text) := kvd.cell 2
              have z0 : wb.cell? ⟨w2.heap.size, 0, none⟩ = some (.int .i64 best.bal.rd) := kvc.cell 0
              have z1 : wb.cell? ⟨w2.heap.size, 1, none⟩ = some (.int .i64 best.bal.nd) := kvc.cell 1
              have z2 : wb.cell? ⟨w2.heap.size, 2, none⟩ = some (.string best.text) := kvc.cell 2
              have qz := fun j => kvc.frozen j
              have hfin : Hid (PRel w2 w3.heap.size w2.heap.size (a.ab i s) es clock d2.ans d2.text (((wb.setCell ⟨w2.heap.size, 0, none⟩ (.int .i64 v.bal.rd)).setCell ⟨w2.heap.size, 1, none⟩ (.int .i64 v.bal.nd)).setCell ⟨w2.heap.size, 2, none⟩ (.string v.text)) ∧ (((wb.setCell ⟨w2.heap.size, 0, none⟩ (.int .i64 v.bal.rd)).setCell ⟨w2.heap.size, 1, none⟩ (.int .i64 v.bal.nd)).setCell ⟨w2.heap.size, 2, none⟩ (.string v.text)).iterSeen w3.heap.size = seen.push e.born) := hid (by
                have hne : w3.heap.size ≠ w2.heap.size := by omega
                have hr5 : (((wb.setCell ⟨w2.heap.size, 0, none⟩ (.int .i64 v.bal.rd)).setCell ⟨w2.heap.size, 1, none⟩ (.int .i64 v.bal.nd)).setCell ⟨w2.heap.size, 2, none⟩ (.string v.text)).heap[w3.heap.size]? = some (.mapIter (some (a.ab i s)) clock (seen.push e.born) clock) := by
                  rw [Below.heap_setCell _ _ _ _ hne, Below.heap_setCell _ _ _ _ hne, Below.heap_setCell _ _ _ _ hne]; exact hrb
                refine ⟨⟨seen.push e.born, clock, v, hr5, Nat.le_refl _, ((kvc.set_ 0 (.int .i64 v.bal.rd)).set_ 1 (.int .i64 v.bal.nd)).set_ 2 (.string v.text), ((hB2b.setCell (Nat.le_refl _) _).setCell (Nat.le_refl _) _).setCell (Nat.le_refl _) _, .inr ⟨_, hkv, rfl, hpos⟩, hstep.out v (fun e' he' hc v' hv' hp => cmpB_trans (hmax.out e' he' hc v' hv' hp) (by omega)) fun _ => cmpB_refl _⟩, iterSeen_of hr5⟩)
              clear kvc kvd hrb hB2b
              go_wp2_with fail
              go_roundw
              case rel => exact hfin.out.1
              case measure => rw [hfin.out.2, hseen.out]; exact hpush
            · have t2 : decide (0 < cmpB v.bal best.bal) = false := decide_eq_false hgt
              have hfin : Hid (PRel w2 w3.heap.size w2.heap.size (a.ab i s) es clock d2.ans d2.text wb) := hid ⟨seen.push e.born, clock, best, hrb, Nat.le_refl _, kvc, hB2b, hbest, hstep.out best hmax.out fun _ => by omega⟩
              have hit := hid (iterSeen_of hrb)
              clear kvc kvd hrb hB2b
              go_wp2_with fail
              go_roundw
              case rel => exact hfin.out
              case measure => rw [hit.out, hseen.out]; exact hpush
          · have t1 : decide (0 < v.bal.rd) = false := decide_eq_false hpos
            have hfin : Hid (PRel w2 w3.heap.size w2.heap.size (a.ab i s) es clock d2.ans d2.text wa) := hid ⟨seen.push e.born, clock, best, hra, Nat.le_refl _, kvb, hB2a, hbest, hstep.out best hmax.out fun h => absurd h hpos⟩
            have hit := hid (iterSeen_of hra)
            clear kvb kva hra hB2a b0 b1
            go_wp2_with fail
            go_roundw
            case rel => exact hfin.out
            case measure => rw [hit.out, hseen.out]; exact hpush
    · have tt : decide (d.ans.length = G.nds.length / 2) = false := decide_eq_false hmaj
      have hmaj2 : Hid (¬ d2.ans.length = G.nds.length / 2 + 1) := hid (by rw [hl2.out]; omega)
      have hfin : Hid (GGo S w g (G.setSl i s { x with bid := some d2 }) w2) := hid ⟨S2, ⟨_, _, _, _, _, q2⟩, fun k hk => (hS2 k hk).imp id (by omega), (Upd.of_below' hB.out S).trans hu2 fun _ _ h => h⟩
      clear q2 hu2 hmaj
      go_wp2_with fail
      refine bodyPost_ret (v := .tuple #[]) (by simp [results, Try.results57, go_sem]) rfl ?_
      exact ⟨rfl, _, (hpure.out _).2 (by rw [if_neg hmaj2.out]), hfin.out⟩
end

end Go.Proofs.Ytbgopicpdpkccaa

