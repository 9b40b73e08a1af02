/- quorum: state, Learned, Promised. -/
import Derived.Test.YtbgopicpdpkccaaGHand
namespace Go.Proofs.Ytbgopicpdpkccaa
open Go.RowKit
set_option linter.unusedVariables false
set_option linter.unusedSimpArgs false

/-- what a node has of a slot -/
def Gr.st (G : Gr) (n s : Int) : Sl := if 0 ≤ n ∧ n < G.nds.length then G.at_ n.toNat s else sl0
section
variable {S : Nat → Prop} {w w' : World} {g : Nat} {G : Gr}
set_option maxRecDepth 100000 in
set_option maxHeartbeats 2000000 in
theorem state_any (n s : Int) (h : GAt S w g G) : Calls Try.prog 36 #[.pointer (some ⟨g, 0, none⟩), .int .i64 n, .int .i64 s] w
    fun e w' => ∃ bp, e = .returned (.agg #[.int .i64 (G.st n s).rd, .int .i64 (G.st n s).prom.rd, .int .i64 (G.st n s).prom.nd, .int .i64 (G.st n s).accd.bal.rd, .int .i64 (G.st n s).accd.bal.nd, .string (G.st n s).accd.text, .bool (G.st n s).is, .string (G.st n s).text, .pointer bp]) ∧ Below w.heap.size w w' := by
  have hB0 : Below w.heap.size w (w.alloc (.cells #[.int .i64 0, .int .i64 0, .int .i64 0, .int .i64 0, .int .i64 0, .string ⟨#[]⟩, .bool false, .string ⟨#[]⟩, .pointer none] 74)) := (Below.refl _ _).alloc (Nat.le_refl _) _
  have hB := hid hB0
  have kr := Blk.new w 74 #[.int .i64 0, .int .i64 0, .int .i64 0, .int .i64 0, .int .i64 0, .string ⟨#[]⟩, .bool false, .string ⟨#[]⟩, .pointer none]
  obtain ⟨An, cn, Am, cm, a, q0⟩ := h
  have hSlt := q0.lt
  have q := q0.below hB0
  have qz := fun j => kr.frozen j
  have z0 := kr.cell 0
  have z1 := kr.cell 1
  have z2 := kr.cell 2
  have z3 := kr.cell 3
  have z4 := kr.cell 4
  have z5 := kr.cell 5
  have z6 := kr.cell 6
  have z7 := kr.cell 7
  have z8 := kr.cell 8
  clear q0 hB0
  simp only [List.getElem?_toArray, List.getElem?_cons_zero, List.getElem?_cons_succ] at z0 z1 z2 z3 z4 z5 z6 z7 z8
  have hrl := kr.lt
  by_cases hn : 0 ≤ n ∧ n < (G.nds.length : Int)
  · obtain ⟨i, rfl⟩ : ∃ i : Nat, n = (i : Int) := ⟨n.toNat, by omega⟩
    have hi : i < G.nds.length := by omega
    obtain ⟨n1, n2, n3, n4, ho⟩ := q.nd i hi
    have hst0 : G.st i s = G.at_ i s := by unfold Gr.st; rw [if_pos hn, Int.toNat_natCast]
    have x1 : (w.alloc (.cells #[.int .i64 0, .int .i64 0, .int .i64 0, .int .i64 0, .int .i64 0, .string ⟨#[]⟩, .bool false, .string ⟨#[]⟩, .pointer none] 74)).cell? ⟨a.nb i, 1, none⟩ = some (.map (some (a.mb i))) := n1.cell 1
    have hny := hid (node_yes i q hi)
    have hnbl := hSlt _ n2
    cases hg : getA s (G.nd i).sl with
    | none =>
      have hst : Hid (G.st i s = sl0) := hid (by rw [hst0]; unfold Gr.at_; rw [hg]; rfl)
      have hlk : (Instr.lookup 65 (.map (some (a.mb i))) (.int .i64 s) false).run Try.prog (w.alloc (.cells #[.int .i64 0, .int .i64 0, .int .i64 0, .int .i64 0, .int .i64 0, .string ⟨#[]⟩, .bool false, .string ⟨#[]⟩, .pointer none] 74)) = .ok (.pointer none) (w.alloc (.cells #[.int .i64 0, .int .i64 0, .int .i64 0, .int .i64 0, .int .i64 0, .string ⟨#[]⟩, .bool false, .string ⟨#[]⟩, .pointer none] 74)) := by
        have := n4.lookup Try.underlying65 zero_sptr s
        rw [getK_mapk (fun t _ => Value.pointer (some ⟨a.sb i t, 0, none⟩)), hg] at this
        exact this
      clear hn hst0 q n1 n4 ho hg kr
      go_enter Try.func36, Try.ntmps36
      go_wp2_with fail
      refine hny.out.mono ?_
      rintro e w' ⟨rfl, rfl⟩
      go_wp2_with fail
      refine bodyPost_ret (v := .agg #[.int .i64 0, .int .i64 0, .int .i64 0, .int .i64 0, .int .i64 0, .string ⟨#[]⟩, .bool false, .string ⟨#[]⟩, .pointer none]) (by simp [results, Try.results36, go_sem, z0, z1, z2, z3, z4, z5, z6, z7, z8]) rfl ⟨none, by rw [hst.out]; rfl, ?_⟩
      exact (Below.refl _ _).alloc (Nat.le_refl _) _
    | some x =>
      have hst : Hid (G.st i s = x) := hid (by rw [hst0]; unfold Gr.at_; rw [hg]; rfl)
      have hlk : (Instr.lookup 65 (.map (some (a.mb i))) (.int .i64 s) false).run Try.prog (w.alloc (.cells #[.int .i64 0, .int .i64 0, .int .i64 0, .int .i64 0, .int .i64 0, .string ⟨#[]⟩, .bool false, .string ⟨#[]⟩, .pointer none] 74)) = .ok (.pointer (some ⟨a.sb i s, 0, none⟩)) (w.alloc (.cells #[.int .i64 0, .int .i64 0, .int .i64 0, .int .i64 0, .int .i64 0, .string ⟨#[]⟩, .bool false, .string ⟨#[]⟩, .pointer none] 74)) := by
        have := n4.lookup Try.underlying65 zero_sptr s
        rw [getK_mapk (fun t _ => Value.pointer (some ⟨a.sb i t, 0, none⟩)), hg] at this
        exact this
      obtain ⟨kS, hSs, _⟩ := q.sl i hi (s, x) (getA_mem hg)
      have hsl : a.sb i s < w.heap.size := hSlt _ hSs
      have hne : a.sb i s ≠ w.heap.size := Nat.ne_of_lt hsl
      obtain ⟨bp, hbp0⟩ : ∃ bp, bp = (if x.bid.isSome then some (⟨a.bb i s, 0, none⟩ : Addr) else none) := ⟨_, rfl⟩
      have hbp := hid hbp0
      have s0 : (w.alloc (.cells #[.int .i64 0, .int .i64 0, .int .i64 0, .int .i64 0, .int .i64 0, .string ⟨#[]⟩, .bool false, .string ⟨#[]⟩, .pointer none] 74)).cell? ⟨a.sb i s, 0, none⟩ = some (.int .i64 x.rd) := kS.cell 0
      have s1 : (w.alloc (.cells #[.int .i64 0, .int .i64 0, .int .i64 0, .int .i64 0, .int .i64 0, .string ⟨#[]⟩, .bool false, .string ⟨#[]⟩, .pointer none] 74)).cell? ⟨a.sb i s, 1, none⟩ = some (.int .i64 x.prom.rd) := kS.cell 1
      have s2 : (w.alloc (.cells #[.int .i64 0, .int .i64 0, .int .i64 0, .int .i64 0, .int .i64 0, .string ⟨#[]⟩, .bool false, .string ⟨#[]⟩, .pointer none] 74)).cell? ⟨a.sb i s, 2, none⟩ = some (.int .i64 x.prom.nd) := kS.cell 2
      have s3 : (w.alloc (.cells #[.int .i64 0, .int .i64 0, .int .i64 0, .int .i64 0, .int .i64 0, .string ⟨#[]⟩, .bool false, .string ⟨#[]⟩, .pointer none] 74)).cell? ⟨a.sb i s, 3, none⟩ = some (.int .i64 x.accd.bal.rd) := kS.cell 3
      have s4 : (w.alloc (.cells #[.int .i64 0, .int .i64 0, .int .i64 0, .int .i64 0, .int .i64 0, .string ⟨#[]⟩, .bool false, .string ⟨#[]⟩, .pointer none] 74)).cell? ⟨a.sb i s, 4, none⟩ = some (.int .i64 x.accd.bal.nd) := kS.cell 4
      have s5 : (w.alloc (.cells #[.int .i64 0, .int .i64 0, .int .i64 0, .int .i64 0, .int .i64 0, .string ⟨#[]⟩, .bool false, .string ⟨#[]⟩, .pointer none] 74)).cell? ⟨a.sb i s, 5, none⟩ = some (.string x.accd.text) := kS.cell 5
      have s6 : (w.alloc (.cells #[.int .i64 0, .int .i64 0, .int .i64 0, .int .i64 0, .int .i64 0, .string ⟨#[]⟩, .bool false, .string ⟨#[]⟩, .pointer none] 74)).cell? ⟨a.sb i s, 6, none⟩ = some (.bool x.is) := kS.cell 6
      have s7 : (w.alloc (.cells #[.int .i64 0, .int .i64 0, .int .i64 0, .int .i64 0, .int .i64 0, .string ⟨#[]⟩, .bool false, .string ⟨#[]⟩, .pointer none] 74)).cell? ⟨a.sb i s, 7, none⟩ = some (.string x.text) := kS.cell 7
      have s8 : (w.alloc (.cells #[.int .i64 0, .int .i64 0, .int .i64 0, .int .i64 0, .int .i64 0, .string ⟨#[]⟩, .bool false, .string ⟨#[]⟩, .pointer none] 74)).cell? ⟨a.sb i s, 8, none⟩ = some (.pointer bp) := by rw [hbp0]; exact kS.cell 8
      clear hn hst0 q n1 n4 ho hg kr kS hbp0
      go_enter Try.func36, Try.ntmps36
      go_wp2_with fail
      refine hny.out.mono ?_
      rintro e w' ⟨rfl, rfl⟩
      go_wp2_with fail
      refine bodyPost_ret (v := .agg #[.int .i64 x.rd, .int .i64 x.prom.rd, .int .i64 x.prom.nd, .int .i64 x.accd.bal.rd, .int .i64 x.accd.bal.nd, .string x.accd.text, .bool x.is, .string x.text, .pointer bp]) (by simp [results, Try.results36, go_sem, z0, z1, z2, z3, z4, z5, z6, z7, z8]) rfl ⟨bp, by rw [hst.out], ?_⟩
      exact (Below.refl _ _).alloc (Nat.le_refl _) _
  · have hst : Hid (G.st n s = sl0) := hid (by unfold Gr.st; rw [if_neg hn])
    have hnn := hid (node_no n q (by omega))
    clear hn q kr
    go_enter Try.func36, Try.ntmps36
    go_wp2_with fail
    refine hnn.out.mono ?_
    rintro e w' ⟨rfl, rfl⟩
    go_wp2_with fail
    refine bodyPost_ret (v := .agg #[.int .i64 0, .int .i64 0, .int .i64 0, .int .i64 0, .int .i64 0, .string ⟨#[]⟩, .bool false, .string ⟨#[]⟩, .pointer none]) (by simp [results, Try.results36, go_sem, z0, z1, z2, z3, z4, z5, z6, z7, z8]) rfl ⟨none, by rw [hst.out]; rfl, ?_⟩
    exact (Below.refl _ _).alloc (Nat.le_refl _) _
set_option maxHeartbeats 1000000 in
theorem learned_any (n s : Int) (h : GAt S w g G) : Calls Try.prog 20 #[.pointer (some ⟨g, 0, none⟩), .int .i64 n, .int .i64 s] w
    fun e w' => e = .returned (.tuple #[.string (G.st n s).text, .bool (G.st n s).is]) ∧ Below w.heap.size w w' := by
  have hs := hid (state_any n s h)
  clear h
  generalize G.st n s = x at *
  go_enter Try.func20, Try.ntmps20
  go_wp2_with fail
  refine hs.out.mono ?_
  rintro e w1 ⟨bp, rfl, hb1⟩
  go_upto_region 2 with fail
  have hY : Below w1.heap.size w1 (w1.alloc (.cells #[.int .i64 x.rd, .int .i64 x.prom.rd, .int .i64 x.prom.nd, .int .i64 x.accd.bal.rd, .int .i64 x.accd.bal.nd, .string x.accd.text, .bool x.is, .string x.text, .pointer bp] 74)) := (Below.refl _ _).alloc (Nat.le_refl _) _
  have kb := Blk.new w1 74 #[.int .i64 x.rd, .int .i64 x.prom.rd, .int .i64 x.prom.nd, .int .i64 x.accd.bal.rd, .int .i64 x.accd.bal.nd, .string x.accd.text, .bool x.is, .string x.text, .pointer bp]
  generalize w1.alloc (.cells #[.int .i64 x.rd, .int .i64 x.prom.rd, .int .i64 x.prom.nd, .int .i64 x.accd.bal.rd, .int .i64 x.accd.bal.nd, .string x.accd.text, .bool x.is, .string x.text, .pointer bp] 74) = w2 at *
  have s6 : w2.cell? ⟨w1.heap.size, 6, none⟩ = some (.bool x.is) := kb.cell 6
  have s7 : w2.cell? ⟨w1.heap.size, 7, none⟩ = some (.string x.text) := kb.cell 7
  have hB2 := hb1.trans (hY.mono hb1.size)
  clear hb1 hY kb
  go_quiet (fail)
  go_wp2_with fail
  go_ret2
  exact ⟨rfl, below_drewN hB2 _⟩
end

end Go.Proofs.Ytbgopicpdpkccaa
