/- quorum: answered, an answer that counts. -/
import Derived.Test.YtbgopicpdpkccaaGAns
namespace Go.Proofs.Ytbgopicpdpkccaa
open Go.RowKit
set_option linter.unusedVariables false
set_option linter.unusedSimpArgs false

section
variable {S : Nat → Prop} {w w' : World} {g : Nat} {An Am : Option Addr} {cn cm : Nat} {G : Gr} {a : Ad}
theorem setA_len {k : Int} {v : Vt} {l : List (Int × Vt)} (h : getA k l = none) : (setA k v l).length = l.length + 1 := by
  rw [setA_fresh (getA_none h)]; simp
set_option maxRecDepth 100000 in
set_option maxHeartbeats 2000000 in
theorem answered_yes (m : Ml) (x : Sl) (i : Nat) (s : Int) (acc : Bool) (h : GIn S w g An cn Am cm G a) (hi : i < G.nds.length) (hx : getA s (G.nd i).sl = some x) (d : Bd) (hd : x.bid = some d) (h1 : d.bal = m.bal) (h2 : d.acc = acc) (hag : getA m.fr d.ans = none) (hn : G.nds.length ≤ 1000) : Calls Try.prog 73 #[.pointer (some ⟨g, 0, none⟩), .pointer (some ⟨a.sb i s, 0, none⟩), .agg #[.int .i64 m.kind, .int .i64 m.fr, .int .i64 m.dst, .int .i64 m.slot, .int .i64 m.bal.rd, .int .i64 m.bal.nd, .int .i64 m.had.rd, .int .i64 m.had.nd, .string m.text], .bool acc] w fun e w' => e = .returned (.bool (decide (d.ans.length = G.nds.length / 2))) ∧ ∃ S', GIn S' w' g An cn Am cm (G.setSl i s { x with bid := some { d with ans := setA m.fr ⟨m.had, m.text⟩ d.ans } }) a ∧ (∀ k, S' k → S k ∨ w.heap.size ≤ k) ∧ Upd S w w' := by
  have hB0 : Below w.heap.size w (w.alloc (.cells #[.int .i64 m.kind, .int .i64 m.fr, .int .i64 m.dst, .int .i64 m.slot, .int .i64 m.bal.rd, .int .i64 m.bal.nd, .int .i64 m.had.rd, .int .i64 m.had.nd, .string m.text] 78)) := (Below.refl _ _).alloc (Nat.le_refl _) _
  have kb := Blk.new w 78 #[.int .i64 m.kind, .int .i64 m.fr, .int .i64 m.dst, .int .i64 m.slot, .int .i64 m.bal.rd, .int .i64 m.bal.nd, .int .i64 m.had.rd, .int .i64 m.had.nd, .string m.text]
  have hSlt := h.lt
  have q := h.below hB0
  have hB := hid hB0
  clear h hB0
  obtain ⟨kS, hSs, hbd⟩ := q.sl i hi (s, x) (getA_mem hx)
  have hbd : ∀ d, x.bid = some d → Blk (w.alloc (.cells #[.int .i64 m.kind, .int .i64 m.fr, .int .i64 m.dst, .int .i64 m.slot, .int .i64 m.bal.rd, .int .i64 m.bal.nd, .int .i64 m.had.rd, .int .i64 m.had.nd, .string m.text] 78)) (a.bb i s) 83 (d.cells (a.ab i s)) ∧ S (a.bb i s) ∧ S (a.ab i s) ∧ MapIs intE (w.alloc (.cells #[.int .i64 m.kind, .int .i64 m.fr, .int .i64 m.dst, .int .i64 m.slot, .int .i64 m.bal.rd, .int .i64 m.bal.nd, .int .i64 m.had.rd, .int .i64 m.had.nd, .string m.text] 78)) (a.ab i s) (d.ans.map fun p => (p.1, vtV p.2)) ∧ Once d.ans := hbd
  have s8 : (w.alloc (.cells #[.int .i64 m.kind, .int .i64 m.fr, .int .i64 m.dst, .int .i64 m.slot, .int .i64 m.bal.rd, .int .i64 m.bal.nd, .int .i64 m.had.rd, .int .i64 m.had.nd, .string m.text] 78)).cell? ⟨a.sb i s, 8, none⟩ = some (.pointer (if x.bid.isSome then some ⟨a.bb i s, 0, none⟩ else none)) := kS.cell 8
  rw [hd] at s8
  have s8 : (w.alloc (.cells #[.int .i64 m.kind, .int .i64 m.fr, .int .i64 m.dst, .int .i64 m.slot, .int .i64 m.bal.rd, .int .i64 m.bal.nd, .int .i64 m.had.rd, .int .i64 m.had.nd, .string m.text] 78)).cell? ⟨a.sb i s, 8, none⟩ = some (.pointer (some ⟨a.bb i s, 0, none⟩)) := s8
  obtain ⟨kD, hSd, hSa, hmp, hon⟩ := hbd d hd
  subst h2
  have e0 : (w.alloc (.cells #[.int .i64 m.kind, .int .i64 m.fr, .int .i64 m.dst, .int .i64 m.slot, .int .i64 m.bal.rd, .int .i64 m.bal.nd, .int .i64 m.had.rd, .int .i64 m.had.nd, .string m.text] 78)).cell? ⟨w.heap.size, 0, none⟩ = some (.int .i64 m.kind) := kb.cell 0
  have e1 : (w.alloc (.cells #[.int .i64 m.kind, .int .i64 m.fr, .int .i64 m.dst, .int .i64 m.slot, .int .i64 m.bal.rd, .int .i64 m.bal.nd, .int .i64 m.had.rd, .int .i64 m.had.nd, .string m.text] 78)).cell? ⟨w.heap.size, 1, none⟩ = some (.int .i64 m.fr) := kb.cell 1
  have e2 : (w.alloc (.cells #[.int .i64 m.kind, .int .i64 m.fr, .int .i64 m.dst, .int .i64 m.slot, .int .i64 m.bal.rd, .int .i64 m.bal.nd, .int .i64 m.had.rd, .int .i64 m.had.nd, .string m.text] 78)).cell? ⟨w.heap.size, 2, none⟩ = some (.int .i64 m.dst) := kb.cell 2
  have e3 : (w.alloc (.cells #[.int .i64 m.kind, .int .i64 m.fr, .int .i64 m.dst, .int .i64 m.slot, .int .i64 m.bal.rd, .int .i64 m.bal.nd, .int .i64 m.had.rd, .int .i64 m.had.nd, .string m.text] 78)).cell? ⟨w.heap.size, 3, none⟩ = some (.int .i64 m.slot) := kb.cell 3
  have e4 : (w.alloc (.cells #[.int .i64 m.kind, .int .i64 m.fr, .int .i64 m.dst, .int .i64 m.slot, .int .i64 m.bal.rd, .int .i64 m.bal.nd, .int .i64 m.had.rd, .int .i64 m.had.nd, .string m.text] 78)).cell? ⟨w.heap.size, 4, none⟩ = some (.int .i64 m.bal.rd) := kb.cell 4
  have e5 : (w.alloc (.cells #[.int .i64 m.kind, .int .i64 m.fr, .int .i64 m.dst, .int .i64 m.slot, .int .i64 m.bal.rd, .int .i64 m.bal.nd, .int .i64 m.had.rd, .int .i64 m.had.nd, .string m.text] 78)).cell? ⟨w.heap.size, 5, none⟩ = some (.int .i64 m.bal.nd) := kb.cell 5
  have e6 : (w.alloc (.cells #[.int .i64 m.kind, .int .i64 m.fr, .int .i64 m.dst, .int .i64 m.slot, .int .i64 m.bal.rd, .int .i64 m.bal.nd, .int .i64 m.had.rd, .int .i64 m.had.nd, .string m.text] 78)).cell? ⟨w.heap.size, 6, none⟩ = some (.int .i64 m.had.rd) := kb.cell 6
  have e7 : (w.alloc (.cells #[.int .i64 m.kind, .int .i64 m.fr, .int .i64 m.dst, .int .i64 m.slot, .int .i64 m.bal.rd, .int .i64 m.bal.nd, .int .i64 m.had.rd, .int .i64 m.had.nd, .string m.text] 78)).cell? ⟨w.heap.size, 7, none⟩ = some (.int .i64 m.had.nd) := kb.cell 7
  have e8 : (w.alloc (.cells #[.int .i64 m.kind, .int .i64 m.fr, .int .i64 m.dst, .int .i64 m.slot, .int .i64 m.bal.rd, .int .i64 m.bal.nd, .int .i64 m.had.rd, .int .i64 m.had.nd, .string m.text] 78)).cell? ⟨w.heap.size, 8, none⟩ = some (.string m.text) := kb.cell 8
  have d0 : (w.alloc (.cells #[.int .i64 m.kind, .int .i64 m.fr, .int .i64 m.dst, .int .i64 m.slot, .int .i64 m.bal.rd, .int .i64 m.bal.nd, .int .i64 m.had.rd, .int .i64 m.had.nd, .string m.text] 78)).cell? ⟨a.bb i s, 0, none⟩ = some (.int .i64 d.bal.rd) := kD.cell 0
  have d1 : (w.alloc (.cells #[.int .i64 m.kind, .int .i64 m.fr, .int .i64 m.dst, .int .i64 m.slot, .int .i64 m.bal.rd, .int .i64 m.bal.nd, .int .i64 m.had.rd, .int .i64 m.had.nd, .string m.text] 78)).cell? ⟨a.bb i s, 1, none⟩ = some (.int .i64 d.bal.nd) := kD.cell 1
  have d2 : (w.alloc (.cells #[.int .i64 m.kind, .int .i64 m.fr, .int .i64 m.dst, .int .i64 m.slot, .int .i64 m.bal.rd, .int .i64 m.bal.nd, .int .i64 m.had.rd, .int .i64 m.had.nd, .string m.text] 78)).cell? ⟨a.bb i s, 2, none⟩ = some (.string d.text) := kD.cell 2
  have d3 : (w.alloc (.cells #[.int .i64 m.kind, .int .i64 m.fr, .int .i64 m.dst, .int .i64 m.slot, .int .i64 m.bal.rd, .int .i64 m.bal.nd, .int .i64 m.had.rd, .int .i64 m.had.nd, .string m.text] 78)).cell? ⟨a.bb i s, 3, none⟩ = some (.bool d.acc) := kD.cell 3
  have d4 : (w.alloc (.cells #[.int .i64 m.kind, .int .i64 m.fr, .int .i64 m.dst, .int .i64 m.slot, .int .i64 m.bal.rd, .int .i64 m.bal.nd, .int .i64 m.had.rd, .int .i64 m.had.nd, .string m.text] 78)).cell? ⟨a.bb i s, 4, none⟩ = some (.map (some (a.ab i s))) := kD.cell 4
  have hgd := guardBal
  have hdl : a.bb i s < w.heap.size := hSlt _ hSd
  have hal : a.ab i s < w.heap.size := hSlt _ hSa
  have hnq : ∀ W', (binOp .neq 35 (.agg #[.int .i64 d.bal.rd, .int .i64 d.bal.nd]) (.agg #[.int .i64 m.bal.rd, .int .i64 m.bal.nd])).run Try.prog W' = .ok (.bool false) W' := fun W' => by rw [run_neqBal, decide_eq_true h1]; rfl
  have tt : (d.acc != d.acc) = false := by simp
  have hlk0 : ∀ W', W'.heap[a.ab i s]? = (w.alloc (.cells #[.int .i64 m.kind, .int .i64 m.fr, .int .i64 m.dst, .int .i64 m.slot, .int .i64 m.bal.rd, .int .i64 m.bal.nd, .int .i64 m.had.rd, .int .i64 m.had.nd, .string m.text] 78)).heap[a.ab i s]? → (Instr.lookup 81 (.map (some (a.ab i s))) (.int .i64 m.fr) true).run Try.prog W' = .ok (.tuple #[.agg #[.int .i64 0, .int .i64 0, .string ⟨#[]⟩], .bool false]) W' := fun W' hW => by
    have := (hmp.keep hW).lookup_ok Try.underlying81 zero_vote m.fr
    rw [getK_mapk (fun _ v => vtV v), hag] at this
    exact this
  have hlk1 := hid hlk0
  have hmlt := hmp.lt
  have hqq := hid q
  have hkS := hid kS
  have hkD := hid kD
  have hmpp := hid hmp
  have c0 := q.cells.1
  have hgl := q.blk.lt
  have hdd := hid hd
  have hxx := hid hx
  have hagg := hid hag
  have honn := hid hon
  clear hlk0 hbd kS hx q hd h1 hag kD hmp hon
  go_enter Try.func73, Try.ntmps73
  go_wp2_with fail
  go_quiet (fail)
  have b4 : ((w.alloc (.cells #[.int .i64 m.kind, .int .i64 m.fr, .int .i64 m.dst, .int .i64 m.slot, .int .i64 m.bal.rd, .int .i64 m.bal.nd, .int .i64 m.had.rd, .int .i64 m.had.nd, .string m.text] 78)).drewN nq).cell? ⟨a.bb i s, 4, none⟩ = some (.map (some (a.ab i s))) := d4
  have f1 : ((w.alloc (.cells #[.int .i64 m.kind, .int .i64 m.fr, .int .i64 m.dst, .int .i64 m.slot, .int .i64 m.bal.rd, .int .i64 m.bal.nd, .int .i64 m.had.rd, .int .i64 m.had.nd, .string m.text] 78)).drewN nq).cell? ⟨w.heap.size, 1, none⟩ = some (.int .i64 m.fr) := e1
  have hlk2 := hlk1.out ((w.alloc (.cells #[.int .i64 m.kind, .int .i64 m.fr, .int .i64 m.dst, .int .i64 m.slot, .int .i64 m.bal.rd, .int .i64 m.bal.nd, .int .i64 m.had.rd, .int .i64 m.had.nd, .string m.text] 78)).drewN nq).drew rfl
  have hml : a.ab i s < (w.alloc (.cells #[.int .i64 m.kind, .int .i64 m.fr, .int .i64 m.dst, .int .i64 m.slot, .int .i64 m.bal.rd, .int .i64 m.bal.nd, .int .i64 m.had.rd, .int .i64 m.had.nd, .string m.text] 78)).heap.size := hmlt
  have hlk3 : (Instr.lookup 81 (.map (some (a.ab i s))) (.int .i64 m.fr) true).run Try.prog (((((w.alloc (.cells #[.int .i64 m.kind, .int .i64 m.fr, .int .i64 m.dst, .int .i64 m.slot, .int .i64 m.bal.rd, .int .i64 m.bal.nd, .int .i64 m.had.rd, .int .i64 m.had.nd, .string m.text] 78)).drewN nq).alloc (.cells #[.int .i64 0, .int .i64 0, .string ⟨#[]⟩] 71)).drew)) = .ok (.tuple #[.agg #[.int .i64 0, .int .i64 0, .string ⟨#[]⟩], .bool false]) (((((w.alloc (.cells #[.int .i64 m.kind, .int .i64 m.fr, .int .i64 m.dst, .int .i64 m.slot, .int .i64 m.bal.rd, .int .i64 m.bal.nd, .int .i64 m.had.rd, .int .i64 m.had.nd, .string m.text] 78)).drewN nq).alloc (.cells #[.int .i64 0, .int .i64 0, .string ⟨#[]⟩] 71)).drew)) := hlk1.out _ (Below.heap_alloc ((w.alloc (.cells #[.int .i64 m.kind, .int .i64 m.fr, .int .i64 m.dst, .int .i64 m.slot, .int .i64 m.bal.rd, .int .i64 m.bal.nd, .int .i64 m.had.rd, .int .i64 m.had.nd, .string m.text] 78)).drewN nq) _ _ hml)
  have hB2 : Below (w.alloc (.cells #[.int .i64 m.kind, .int .i64 m.fr, .int .i64 m.dst, .int .i64 m.slot, .int .i64 m.bal.rd, .int .i64 m.bal.nd, .int .i64 m.had.rd, .int .i64 m.had.nd, .string m.text] 78)).heap.size (w.alloc (.cells #[.int .i64 m.kind, .int .i64 m.fr, .int .i64 m.dst, .int .i64 m.slot, .int .i64 m.bal.rd, .int .i64 m.bal.nd, .int .i64 m.had.rd, .int .i64 m.had.nd, .string m.text] 78)) ((w.alloc (.cells #[.int .i64 m.kind, .int .i64 m.fr, .int .i64 m.dst, .int .i64 m.slot, .int .i64 m.bal.rd, .int .i64 m.bal.nd, .int .i64 m.had.rd, .int .i64 m.had.nd, .string m.text] 78)).drewN nq) := below_drewN (Below.refl _ _) nq
  clear s8 d0 d1 d2 d3 d4 e0 e1 e2 e3 e4 e5 e6 e7 e8 hlk1 tt hnq hgd c0
  generalize ((w.alloc (.cells #[.int .i64 m.kind, .int .i64 m.fr, .int .i64 m.dst, .int .i64 m.slot, .int .i64 m.bal.rd, .int .i64 m.bal.nd, .int .i64 m.had.rd, .int .i64 m.had.nd, .string m.text] 78)).drewN nq) = W2 at *
  have n1 := World.new_ne W2 ⟨a.bb i s, 4, none⟩ b4
  have n2 := World.new_ne W2 ⟨w.heap.size, 1, none⟩ f1
  go_wp2_with fail
  go_cut [11] (fun v wx => v = .bool false ∧ Below W2.heap.size W2 wx)
  case first =>
    go_region_held3 (fun w' => w'.cell? ⟨a.bb i s, 4, none⟩ = some (.map (some (a.ab i s))) ∧ w'.cell? ⟨w.heap.size, 1, none⟩ = some (.int .i64 m.fr)) (go_keep) (fail)
    all_goals
      go_wp2_with fail
      go_meet
      exact ⟨rfl, ((Below.refl _ W2).alloc (Nat.le_refl _) _).drew⟩
  case rest =>
    obtain ⟨rfl, hB3⟩ := hcut
    have hB13 := hB2.trans (hB3.mono hB2.size)
    have hB03 := hB.out.trans (hB13.mono hB.out.size)
    have kb3 := kb.below_all hB13
    have kD3 := hkD.out.below_all hB13
    have kS3 := hkS.out.below_all hB13
    have hm3 := hmpp.out.below hB13
    have q3 := hqq.out.below hB13
    clear hlk2 hlk3 b4 f1 n1 n2 hB2 hB3 kb
    go_wp2_with fail
    have e0 : wc.cell? ⟨w.heap.size, 0, none⟩ = some (.int .i64 m.kind) := kb3.cell 0
    have e1 : wc.cell? ⟨w.heap.size, 1, none⟩ = some (.int .i64 m.fr) := kb3.cell 1
    have e2 : wc.cell? ⟨w.heap.size, 2, none⟩ = some (.int .i64 m.dst) := kb3.cell 2
    have e3 : wc.cell? ⟨w.heap.size, 3, none⟩ = some (.int .i64 m.slot) := kb3.cell 3
    have e4 : wc.cell? ⟨w.heap.size, 4, none⟩ = some (.int .i64 m.bal.rd) := kb3.cell 4
    have e5 : wc.cell? ⟨w.heap.size, 5, none⟩ = some (.int .i64 m.bal.nd) := kb3.cell 5
    have e6 : wc.cell? ⟨w.heap.size, 6, none⟩ = some (.int .i64 m.had.rd) := kb3.cell 6
    have e7 : wc.cell? ⟨w.heap.size, 7, none⟩ = some (.int .i64 m.had.nd) := kb3.cell 7
    have e8 : wc.cell? ⟨w.heap.size, 8, none⟩ = some (.string m.text) := kb3.cell 8
    have d0 : wc.cell? ⟨a.bb i s, 0, none⟩ = some (.int .i64 d.bal.rd) := kD3.cell 0
    have d1 : wc.cell? ⟨a.bb i s, 1, none⟩ = some (.int .i64 d.bal.nd) := kD3.cell 1
    have d2 : wc.cell? ⟨a.bb i s, 2, none⟩ = some (.string d.text) := kD3.cell 2
    have d3 : wc.cell? ⟨a.bb i s, 3, none⟩ = some (.bool d.acc) := kD3.cell 3
    have d4 : wc.cell? ⟨a.bb i s, 4, none⟩ = some (.map (some (a.ab i s))) := kD3.cell 4
    obtain ⟨W4, hrun0, hm4, hg4, hz4⟩ := (hm3.keep (w' := wc.drew) rfl).update Try.underlying81 m.fr (vtV ⟨m.had, m.text⟩)
    have hrun : (Instr.mapUpdate 81 (.map (some (a.ab i s))) (.int .i64 m.fr) (.agg #[.int .i64 m.had.rd, .int .i64 m.had.nd, .string m.text])).run Try.prog wc.drew = .ok () W4 := hrun0
    go_still_tail 11, (by kernel_rfl)
    change wpList _ _ _ _ _ wc.drew
    go_wp2_with fail
    have hu4 : Upd (fun k => k = a.ab i s) wc W4 := (Upd.of_below' (Below.refl _ wc).drew _).trans ((Upd.refl (fun k => k = a.ab i s) wc.drew).grown hg4 fun k hk _ => by injection hk with hk; exact hk.symm) fun _ _ h => h
    have hne1 : a.bb i s ≠ a.ab i s := fun e => hm3.ne_blk kD3 e.symm
    have hne2 : a.sb i s ≠ a.ab i s := fun e => hm3.ne_blk kS3 e.symm
    have kD4 := kD3.upd hu4 hne1
    have kS4 := kS3.upd hu4 hne2
    have hmm : MapIs intE W4 (a.ab i s) ((setA m.fr ⟨m.had, m.text⟩ d.ans).map fun p => (p.1, vtV p.2)) := by
      rw [← setK_map]; exact hm4
    have hq4 : GIn S W4 g An cn Am cm (G.setSl i s { x with bid := some { d with ans := setA m.fr ⟨m.had, m.text⟩ d.ans } }) a := by
      have := q3.slot (S' := S) (x' := { x with bid := some { d with ans := setA m.fr ⟨m.had, m.text⟩ d.ans } }) (bb' := a.bb i s) (ab' := a.ab i s) hi hxx.out hu4 (fun k hk => .inr ⟨by rw [hdd.out]; rfl, .inr hk⟩) (fun _ => id) (fun k hk => Nat.lt_of_lt_of_le (q3.lt k hk) hu4.size) ⟨?_, hSs, fun d' hd' => ?_⟩ (fun _ => .inl ⟨by rw [hdd.out]; rfl, rfl, .inl rfl⟩)
      · rwa [Ad.setB_self] at this
      · have e : ({ x with bid := some { d with ans := setA m.fr ⟨m.had, m.text⟩ d.ans } } : Sl).cells (a.bb i s) = x.cells (a.bb i s) := by unfold Sl.cells; rw [hdd.out]; rfl
        rw [e]; exact kS4
      · injection hd' with hd'
        subst hd'
        exact ⟨kD4, hSd, hSa, hmm, honn.out.set⟩
    have hlen4 : ∀ W', W'.heap[a.ab i s]? = W4.heap[a.ab i s]? → ∀ ty, (Builtin.len_ #[81] ty #[.map (some (a.ab i s))]).run Try.prog W' = .ok (.int .i64 ((d.ans.length : Int) + 1)) W' := fun W' hW ty => by
      have := (hmm.keep hW).len Try.underlying81 ty
      rw [List.length_map, setA_len hagg.out] at this
      exact this
    have hlen := hid hlen4
    have c4 : W4.cell? ⟨g, 0, none⟩ = some (.slice An G.nds.length cn) := by
      have := hq4.cells.1
      rwa [show (G.setSl i s { x with bid := some { d with ans := setA m.fr ⟨m.had, m.text⟩ d.ans } }).nds.length = G.nds.length from Gr.len_set _ _ _] at this
    have d4' : W4.cell? ⟨a.bb i s, 4, none⟩ = some (.map (some (a.ab i s))) := kD4.cell 4
    have hl2 := fun k ty => hlen.out (W4.drewN k) rfl ty
    have hu04 := (Upd.of_below' hB03 S).trans (hu4.mono (M' := S) fun k _ h => h ▸ hSa) fun _ _ h => h
    have hfin : Hid (∀ k, ∃ S', GIn S' (W4.drewN k) g An cn Am cm (G.setSl i s { x with bid := some { d with ans := setA m.fr ⟨m.had, m.text⟩ d.ans } }) a ∧ (∀ k, S' k → S k ∨ w.heap.size ≤ k) ∧ Upd S w (W4.drewN k)) := hid fun k => ⟨S, hq4.below (below_drewN (Below.refl _ _) k), fun _ h => .inl h, hu04.drewN k⟩
    clear hrun hrun0 hm4 hg4 hz4 hm3 kD3 kS3 kD4 kS4 hmm hq4 hlen4 kb3 q3 hqq hkS hkD hmpp
    go_quiet (fail)
    go_wp2_with fail
    go_ret
    refine ⟨?_, hfin.out _⟩
    show Ending.returned (Value.bool ((d.ans.length : Int) + 1 == (G.nds.length : Int) / 2 + 1)) = _
    congr 2
    rw [Bool.eq_iff_iff]
    simp only [beq_iff_eq, decide_eq_true_eq]
    omega
end

end Go.Proofs.Ytbgopicpdpkccaa
