/- quorum: answered. -/
import Derived.Test.YtbgopicpdpkccaaGState
namespace Go.Proofs.Ytbgopicpdpkccaa
open Go.RowKit
set_option linter.unusedVariables false
set_option linter.unusedSimpArgs false

theorem run_eqBal (a b : Bal) (w : World) :
    (Op.equalIn 10000 35 (.agg #[.int .i64 a.rd, .int .i64 a.nd]) (.agg #[.int .i64 b.rd, .int .i64 b.nd])).run Try.prog w = .ok (decide (a = b)) w := by
  have ht : Try.prog.underlying 35 = some (.struct (Try.prog.fieldsOf 35)) := by kernel_rfl
  have hp : Try.prog.stoodInHeld 35 = false := by kernel_rfl
  rw [run_equalIn_agg w 9999 _ _ _ ht hp]
  have e : decide (a = b) = (a.rd == b.rd && a.nd == b.nd) := by
    rw [Bool.eq_iff_iff]
    simp only [decide_eq_true_eq, Bool.and_eq_true, beq_iff_eq]
    exact ⟨fun e => by subst e; simp, fun ⟨h1, h2⟩ => by cases a; cases b; simp_all⟩
  rw [e]
  clear ht hp e
  simp only [Program.fieldsOf, Try.underlying35]
  go_simp
  by_cases h1 : a.rd = b.rd <;> by_cases h2 : a.nd = b.nd <;> simp [h1, h2]
theorem run_neqBal (a b : Bal) (w : World) :
    (binOp .neq 35 (.agg #[.int .i64 a.rd, .int .i64 a.nd]) (.agg #[.int .i64 b.rd, .int .i64 b.nd])).run Try.prog w = .ok (.bool (!decide (a = b))) w := by
  rw [run_neq_struct, run_eqBal]; rfl
theorem guardBal : Try.prog.eqGuardType Try.prog.depth 35 = false := by kernel_rfl
theorem zero_vote (w : World) : (zeroValue 71).run Try.prog w = .ok (vtV vt0) w := by kernel_rfl
theorem Ad.setB_self (a : Ad) (i : Nat) (s : Int) : a.setB i s (a.bb i s) (a.ab i s) = a := by
  unfold Ad.setB
  cases a with
  | mk nb mb sb bb ab =>
    simp only [Ad.mk.injEq, true_and]
    constructor
    · funext j t; by_cases e : j = i ∧ t = s
      · rw [if_pos e, e.1, e.2]
      · rw [if_neg e]
    · funext j t; by_cases e : j = i ∧ t = s
      · rw [if_pos e, e.1, e.2]
      · rw [if_neg e]
section
variable {S : Nat → Prop} {w w' : World} {g : Nat} {An Am : Option Addr} {cn cm : Nat} {G : Gr} {a : Ad}
set_option maxRecDepth 100000 in
set_option maxHeartbeats 2000000 in
theorem answered_no (m : Ml) (x : Sl) (i : Nat) (s : Int) (acc : Bool) (h : GIn S w g An cn Am cm G a) (hi : i < G.nds.length) (hx : getA s (G.nd i).sl = some x) (hno : ∀ d, x.bid = some d → d.bal = m.bal → d.acc = acc → (getA m.fr d.ans).isSome) : Calls Try.prog 73 #[.pointer (some ⟨g, 0, none⟩), .pointer (some ⟨a.sb i s, 0, none⟩), .agg #[.int .i64 m.kind, .int .i64 m.fr, .int .i64 m.dst, .int .i64 m.slot, .int .i64 m.bal.rd, .int .i64 m.bal.nd, .int .i64 m.had.rd, .int .i64 m.had.nd, .string m.text], .bool acc] w fun e w' => e = .returned (.bool false) ∧ Below w.heap.size w w' := by
  have hB0 : Below w.heap.size w (w.alloc (.cells #[.int .i64 m.kind, .int .i64 m.fr, .int .i64 m.dst, .int .i64 m.slot, .int .i64 m.bal.rd, .int .i64 m.bal.nd, .int .i64 m.had.rd, .int .i64 m.had.nd, .string m.text] 78)) := (Below.refl _ _).alloc (Nat.le_refl _) _
  have kb := Blk.new w 78 #[.int .i64 m.kind, .int .i64 m.fr, .int .i64 m.dst, .int .i64 m.slot, .int .i64 m.bal.rd, .int .i64 m.bal.nd, .int .i64 m.had.rd, .int .i64 m.had.nd, .string m.text]
  have hSlt := h.lt
  have q := h.below hB0
  have hB := hid hB0
  clear h hB0
  obtain ⟨kS, hSs, hbd⟩ := q.sl i hi (s, x) (getA_mem hx)
  have hbd : ∀ d, x.bid = some d → Blk (w.alloc (.cells #[.int .i64 m.kind, .int .i64 m.fr, .int .i64 m.dst, .int .i64 m.slot, .int .i64 m.bal.rd, .int .i64 m.bal.nd, .int .i64 m.had.rd, .int .i64 m.had.nd, .string m.text] 78)) (a.bb i s) 83 (d.cells (a.ab i s)) ∧ S (a.bb i s) ∧ S (a.ab i s) ∧ MapIs intE (w.alloc (.cells #[.int .i64 m.kind, .int .i64 m.fr, .int .i64 m.dst, .int .i64 m.slot, .int .i64 m.bal.rd, .int .i64 m.bal.nd, .int .i64 m.had.rd, .int .i64 m.had.nd, .string m.text] 78)) (a.ab i s) (d.ans.map fun p => (p.1, vtV p.2)) ∧ Once d.ans := hbd
  have s8 : (w.alloc (.cells #[.int .i64 m.kind, .int .i64 m.fr, .int .i64 m.dst, .int .i64 m.slot, .int .i64 m.bal.rd, .int .i64 m.bal.nd, .int .i64 m.had.rd, .int .i64 m.had.nd, .string m.text] 78)).cell? ⟨a.sb i s, 8, none⟩ = some (.pointer (if x.bid.isSome then some ⟨a.bb i s, 0, none⟩ else none)) := kS.cell 8
  cases hd : x.bid with
  | none =>
    rw [hd] at s8
    have s8 : (w.alloc (.cells #[.int .i64 m.kind, .int .i64 m.fr, .int .i64 m.dst, .int .i64 m.slot, .int .i64 m.bal.rd, .int .i64 m.bal.nd, .int .i64 m.had.rd, .int .i64 m.had.nd, .string m.text] 78)).cell? ⟨a.sb i s, 8, none⟩ = some (.pointer none) := s8
    clear hbd hno kS hx q hd
    go_enter Try.func73, Try.ntmps73
    go_wp2_with fail
    go_quiet (fail)
    go_wp2_with fail
    go_ret
    exact ⟨rfl, below_drewN hB.out _⟩
  | some d =>
    rw [hd] at s8
    have s8 : (w.alloc (.cells #[.int .i64 m.kind, .int .i64 m.fr, .int .i64 m.dst, .int .i64 m.slot, .int .i64 m.bal.rd, .int .i64 m.bal.nd, .int .i64 m.had.rd, .int .i64 m.had.nd, .string m.text] 78)).cell? ⟨a.sb i s, 8, none⟩ = some (.pointer (some ⟨a.bb i s, 0, none⟩)) := s8
    obtain ⟨kD, hSd, hSa, hmp, hon⟩ := hbd d hd
    have hno := hno d hd
    have e0 : (w.alloc (.cells #[.int .i64 m.kind, .int .i64 m.fr, .int .i64 m.dst, .int .i64 m.slot, .int .i64 m.bal.rd, .int .i64 m.bal.nd, .int .i64 m.had.rd, .int .i64 m.had.nd, .string m.text] 78)).cell? ⟨w.heap.size, 0, none⟩ = some (.int .i64 m.kind) := kb.cell 0
    have e1 : (w.alloc (.cells #[.int .i64 m.kind, .int .i64 m.fr, .int .i64 m.dst, .int .i64 m.slot, .int .i64 m.bal.rd, .int .i64 m.bal.nd, .int .i64 m.had.rd, .int .i64 m.had.nd, .string m.text] 78)).cell? ⟨w.heap.size, 1, none⟩ = some (.int .i64 m.fr) := kb.cell 1
    have e2 : (w.alloc (.cells #[.int .i64 m.kind, .int .i64 m.fr, .int .i64 m.dst, .int .i64 m.slot, .int .i64 m.bal.rd, .int .i64 m.bal.nd, .int .i64 m.had.rd, .int .i64 m.had.nd, .string m.text] 78)).cell? ⟨w.heap.size, 2, none⟩ = some (.int .i64 m.dst) := kb.cell 2
    have e3 : (w.alloc (.cells #[.int .i64 m.kind, .int .i64 m.fr, .int .i64 m.dst, .int .i64 m.slot, .int .i64 m.bal.rd, .int .i64 m.bal.nd, .int .i64 m.had.rd, .int .i64 m.had.nd, .string m.text] 78)).cell? ⟨w.heap.size, 3, none⟩ = some (.int .i64 m.slot) := kb.cell 3
    have e4 : (w.alloc (.cells #[.int .i64 m.kind, .int .i64 m.fr, .int .i64 m.dst, .int .i64 m.slot, .int .i64 m.bal.rd, .int .i64 m.bal.nd, .int .i64 m.had.rd, .int .i64 m.had.nd, .string m.text] 78)).cell? ⟨w.heap.size, 4, none⟩ = some (.int .i64 m.bal.rd) := kb.cell 4
    have e5 : (w.alloc (.cells #[.int .i64 m.kind, .int .i64 m.fr, .int .i64 m.dst, .int .i64 m.slot, .int .i64 m.bal.rd, .int .i64 m.bal.nd, .int .i64 m.had.rd, .int .i64 m.had.nd, .string m.text] 78)).cell? ⟨w.heap.size, 5, none⟩ = some (.int .i64 m.bal.nd) := kb.cell 5
    have e6 : (w.alloc (.cells #[.int .i64 m.kind, .int .i64 m.fr, .int .i64 m.dst, .int .i64 m.slot, .int .i64 m.bal.rd, .int .i64 m.bal.nd, .int .i64 m.had.rd, .int .i64 m.had.nd, .string m.text] 78)).cell? ⟨w.heap.size, 6, none⟩ = some (.int .i64 m.had.rd) := kb.cell 6
    have e7 : (w.alloc (.cells #[.int .i64 m.kind, .int .i64 m.fr, .int .i64 m.dst, .int .i64 m.slot, .int .i64 m.bal.rd, .int .i64 m.bal.nd, .int .i64 m.had.rd, .int .i64 m.had.nd, .string m.text] 78)).cell? ⟨w.heap.size, 7, none⟩ = some (.int .i64 m.had.nd) := kb.cell 7
    have e8 : (w.alloc (.cells #[.int .i64 m.kind, .int .i64 m.fr, .int .i64 m.dst, .int .i64 m.slot, .int .i64 m.bal.rd, .int .i64 m.bal.nd, .int .i64 m.had.rd, .int .i64 m.had.nd, .string m.text] 78)).cell? ⟨w.heap.size, 8, none⟩ = some (.string m.text) := kb.cell 8
    have d0 : (w.alloc (.cells #[.int .i64 m.kind, .int .i64 m.fr, .int .i64 m.dst, .int .i64 m.slot, .int .i64 m.bal.rd, .int .i64 m.bal.nd, .int .i64 m.had.rd, .int .i64 m.had.nd, .string m.text] 78)).cell? ⟨a.bb i s, 0, none⟩ = some (.int .i64 d.bal.rd) := kD.cell 0
    have d1 : (w.alloc (.cells #[.int .i64 m.kind, .int .i64 m.fr, .int .i64 m.dst, .int .i64 m.slot, .int .i64 m.bal.rd, .int .i64 m.bal.nd, .int .i64 m.had.rd, .int .i64 m.had.nd, .string m.text] 78)).cell? ⟨a.bb i s, 1, none⟩ = some (.int .i64 d.bal.nd) := kD.cell 1
    have d2 : (w.alloc (.cells #[.int .i64 m.kind, .int .i64 m.fr, .int .i64 m.dst, .int .i64 m.slot, .int .i64 m.bal.rd, .int .i64 m.bal.nd, .int .i64 m.had.rd, .int .i64 m.had.nd, .string m.text] 78)).cell? ⟨a.bb i s, 2, none⟩ = some (.string d.text) := kD.cell 2
    have d3 : (w.alloc (.cells #[.int .i64 m.kind, .int .i64 m.fr, .int .i64 m.dst, .int .i64 m.slot, .int .i64 m.bal.rd, .int .i64 m.bal.nd, .int .i64 m.had.rd, .int .i64 m.had.nd, .string m.text] 78)).cell? ⟨a.bb i s, 3, none⟩ = some (.bool d.acc) := kD.cell 3
    have d4 : (w.alloc (.cells #[.int .i64 m.kind, .int .i64 m.fr, .int .i64 m.dst, .int .i64 m.slot, .int .i64 m.bal.rd, .int .i64 m.bal.nd, .int .i64 m.had.rd, .int .i64 m.had.nd, .string m.text] 78)).cell? ⟨a.bb i s, 4, none⟩ = some (.map (some (a.ab i s))) := kD.cell 4
    have hgd := guardBal
    have hdl : a.bb i s < w.heap.size := hSlt _ hSd
    by_cases h1 : d.bal = m.bal
    · have hnq : ∀ W', (binOp .neq 35 (.agg #[.int .i64 d.bal.rd, .int .i64 d.bal.nd]) (.agg #[.int .i64 m.bal.rd, .int .i64 m.bal.nd])).run Try.prog W' = .ok (.bool false) W' := fun W' => by rw [run_neqBal, decide_eq_true h1]; rfl
      by_cases h2 : d.acc = acc
      · obtain ⟨v0, hv0⟩ := Option.isSome_iff_exists.1 (hno h1 h2)
        subst h2
        have tt : (d.acc != d.acc) = false := by simp
        have hlk0 : ∀ W', W'.heap[a.ab i s]? = (w.alloc (.cells #[.int .i64 m.kind, .int .i64 m.fr, .int .i64 m.dst, .int .i64 m.slot, .int .i64 m.bal.rd, .int .i64 m.bal.nd, .int .i64 m.had.rd, .int .i64 m.had.nd, .string m.text] 78)).heap[a.ab i s]? → (Instr.lookup 81 (.map (some (a.ab i s))) (.int .i64 m.fr) true).run Try.prog W' = .ok (.tuple #[.agg #[.int .i64 v0.bal.rd, .int .i64 v0.bal.nd, .string v0.text], .bool true]) W' := fun W' hW => by
          have := (hmp.keep hW).lookup_ok Try.underlying81 zero_vote m.fr
          rw [getK_mapk (fun _ v => vtV v), hv0] at this
          exact this
        have hlk1 := hid hlk0
        have hmlt := hmp.lt
        clear hno hlk0 hbd kS hx q hd h1 hv0 kD hmp hon
        go_enter Try.func73, Try.ntmps73
        go_wp2_with fail
        go_quiet (fail)
        have b4 : ((w.alloc (.cells #[.int .i64 m.kind, .int .i64 m.fr, .int .i64 m.dst, .int .i64 m.slot, .int .i64 m.bal.rd, .int .i64 m.bal.nd, .int .i64 m.had.rd, .int .i64 m.had.nd, .string m.text] 78)).drewN nq).cell? ⟨a.bb i s, 4, none⟩ = some (.map (some (a.ab i s))) := d4
        have f1 : ((w.alloc (.cells #[.int .i64 m.kind, .int .i64 m.fr, .int .i64 m.dst, .int .i64 m.slot, .int .i64 m.bal.rd, .int .i64 m.bal.nd, .int .i64 m.had.rd, .int .i64 m.had.nd, .string m.text] 78)).drewN nq).cell? ⟨w.heap.size, 1, none⟩ = some (.int .i64 m.fr) := e1
        have hlk2 := hlk1.out ((w.alloc (.cells #[.int .i64 m.kind, .int .i64 m.fr, .int .i64 m.dst, .int .i64 m.slot, .int .i64 m.bal.rd, .int .i64 m.bal.nd, .int .i64 m.had.rd, .int .i64 m.had.nd, .string m.text] 78)).drewN nq).drew rfl
        have hml : a.ab i s < (w.alloc (.cells #[.int .i64 m.kind, .int .i64 m.fr, .int .i64 m.dst, .int .i64 m.slot, .int .i64 m.bal.rd, .int .i64 m.bal.nd, .int .i64 m.had.rd, .int .i64 m.had.nd, .string m.text] 78)).heap.size := hmlt
        have hlk3 : (Instr.lookup 81 (.map (some (a.ab i s))) (.int .i64 m.fr) true).run Try.prog ((((w.alloc (.cells #[.int .i64 m.kind, .int .i64 m.fr, .int .i64 m.dst, .int .i64 m.slot, .int .i64 m.bal.rd, .int .i64 m.bal.nd, .int .i64 m.had.rd, .int .i64 m.had.nd, .string m.text] 78)).drewN nq).alloc (.cells #[.int .i64 0, .int .i64 0, .string ⟨#[]⟩] 71)).drew) = .ok (.tuple #[.agg #[.int .i64 v0.bal.rd, .int .i64 v0.bal.nd, .string v0.text], .bool true]) ((((w.alloc (.cells #[.int .i64 m.kind, .int .i64 m.fr, .int .i64 m.dst, .int .i64 m.slot, .int .i64 m.bal.rd, .int .i64 m.bal.nd, .int .i64 m.had.rd, .int .i64 m.had.nd, .string m.text] 78)).drewN nq).alloc (.cells #[.int .i64 0, .int .i64 0, .string ⟨#[]⟩] 71)).drew) := hlk1.out _ (Below.heap_alloc ((w.alloc (.cells #[.int .i64 m.kind, .int .i64 m.fr, .int .i64 m.dst, .int .i64 m.slot, .int .i64 m.bal.rd, .int .i64 m.bal.nd, .int .i64 m.had.rd, .int .i64 m.had.nd, .string m.text] 78)).drewN nq) _ _ hml)
        have hB2 := hid (below_drewN hB.out nq)
        clear s8 d0 d1 d2 d3 d4 e0 e1 e2 e3 e4 e5 e6 e7 e8 hlk1 hB tt kb hnq hgd
        generalize (w.alloc (.cells #[.int .i64 m.kind, .int .i64 m.fr, .int .i64 m.dst, .int .i64 m.slot, .int .i64 m.bal.rd, .int .i64 m.bal.nd, .int .i64 m.had.rd, .int .i64 m.had.nd, .string m.text] 78)).drewN nq = W2 at *
        have n1 := World.new_ne W2 ⟨a.bb i s, 4, none⟩ b4
        have n2 := World.new_ne W2 ⟨w.heap.size, 1, none⟩ f1
        go_wp2_with fail
        go_region_held3 (fun w' => w'.cell? ⟨a.bb i s, 4, none⟩ = some (.map (some (a.ab i s))) ∧ w'.cell? ⟨w.heap.size, 1, none⟩ = some (.int .i64 m.fr)) (go_keep) (fail)
        all_goals
          go_wp2_with fail
          go_ret
          exact ⟨rfl, hB2.out.trans ((((Below.refl _ _).alloc (Nat.le_refl _) _).drew).mono hB2.out.size)⟩
      · have tt : (d.acc != acc) = true := by simpa using h2
        have tt2 : (d.acc == acc) = false := by simpa using h2
        clear hno hbd kS hx q hd h1 h2 kD hmp hon
        go_enter Try.func73, Try.ntmps73
        go_wp2_with fail
        go_quiet (fail)
        go_wp2_with fail
        go_ret
        exact ⟨rfl, below_drewN hB.out _⟩
    · have hnq : ∀ W', (binOp .neq 35 (.agg #[.int .i64 d.bal.rd, .int .i64 d.bal.nd]) (.agg #[.int .i64 m.bal.rd, .int .i64 m.bal.nd])).run Try.prog W' = .ok (.bool true) W' := fun W' => by rw [run_neqBal, decide_eq_false h1]; rfl
      clear hno hbd kS hx q hd h1 kD hmp hon
      go_enter Try.func73, Try.ntmps73
      go_wp2_with fail
      go_quiet (fail)
      go_wp2_with fail
      go_ret
      exact ⟨rfl, below_drewN hB.out _⟩
end

end Go.Proofs.Ytbgopicpdpkccaa
