/- Batches compared. -/
import Derived.Test.YtlnlffpkdeaimaaPlans
import Derived.StillTailTactics
namespace Go.Proofs.Ytlnlffpkdeaimaa
open Go.RowKit

theorem below_two {w : World} (o o' : Obj) : Below w.heap.size w ((w.alloc o).alloc o') := ((Below.refl _ _).alloc (Nat.le_refl _) o).alloc (by simp) o'
def eqB (e e' : Int) (l m : List Pl) : Bool := decide (e = e' ∧ l = m)
theorem eqB_epoch {e e' : Int} {l m : List Pl} (h : e ≠ e') : eqB e e' l m = false := by unfold eqB; simp [h]
theorem eqB_len {e e' : Int} {l m : List RP} (h : l.length ≠ m.length) : eqB e e' (plans l) (plans m) = false := by
  have := eqPs_len h; unfold eqL at this; unfold eqB; simp_all
theorem eqB_eq {e : Int} {l m : List RP} {b : Bool} (h : eqL (plans l) (plans m) = b) : eqB e e (plans l) (plans m) = b := by
  rw [← h]; unfold eqL eqB; simp

set_option maxHeartbeats 1000000 in
set_option maxRecDepth 100000 in
theorem batches_any (S S' : Nat → Prop) (A B : Option Addr) (l m : List RP) (x y : Int) (c d : Nat) (w : World) (ha : PlansOk S w A l) (hb : PlansOk S' w B m)
    (hl : l.length ≤ 1000000000) (hm : m.length ≤ 1000000000) (hfl : ∀ r ∈ l, r.p.fits) (hfm : ∀ r ∈ m, r.p.fits) :
    Calls Try.prog 21 #[.agg #[.int .i64 x, .slice A l.length c], .agg #[.int .i64 y, .slice B m.length d]] w
      fun e w' => e = .returned (.bool (eqB x y (plans l) (plans m))) ∧ Below w.heap.size w w' := by
  by_cases hxy : x = y
  · subst hxy
    by_cases hlen0 : l.length = m.length
    · have hlen := hid hlen0
      have hle : l.length ≤ m.length := by omega
      have h : ((l.length : Int) != (m.length : Int)) = false := by simp [hlen0]
      clear hlen0
      go_enter Try.func21, Try.ntmps21
      go_wp2_with fail
      have hBx := below_two (w := w) (.cells #[.int .i64 x, .slice A l.length c] 34) (.cells #[.int .i64 x, .slice B m.length d] 34)
      go_loopw [5] (fun i wr => ∃ k : Nat, k ≤ l.length ∧ i = .int .i64 k ∧ Below (w.heap.size + 2) ((w.alloc (.cells #[.int .i64 x, .slice A l.length c] 34)).alloc (.cells #[.int .i64 x, .slice B m.length d] 34)) wr ∧ ∀ j (h1 : j < l.length) (h2 : j < m.length), j < k → l[j].p = m[j].p) (fun i _ => l.length - (intOf i).toNat)
      case atStart => exact ⟨0, by omega, rfl, Below.refl _ _, fun j _ _ hj => absurd hj (by omega)⟩
      case round =>
        obtain ⟨k, hk, rfl, hR, hall0⟩ := hrel
        have hall := hid hall0
        clear hall0
        have hsz : w.heap.size + 2 ≤ wr.heap.size := by have := hR.size; simpa using this
        have hB : Below w.heap.size w wr := hBx.trans (hR.mono (by omega))
        have c1 : wr.cell? ⟨w.heap.size, 0, none⟩ = some (.int .i64 x) := (hR.cell (p := ⟨w.heap.size, 0, none⟩) (by simp)).trans (by simp [go_sem])
        have c2 : wr.cell? ⟨w.heap.size, 1, none⟩ = some (.slice A l.length c) := (hR.cell (p := ⟨w.heap.size, 1, none⟩) (by simp)).trans (by simp [go_sem])
        have c3 : wr.cell? ⟨w.heap.size + 1, 1, none⟩ = some (.slice B m.length d) := (hR.cell (p := ⟨w.heap.size + 1, 1, none⟩) (by simp)).trans (by simp [go_sem])
        clear hBx
        by_cases hlt : k < l.length
        · have hlt2 : k < m.length := by omega
          obtain ⟨b1, o1, rfl, _, hb1, r1, a0, a1, a2, a3, a4, a5, a6⟩ := (ha.below hB).at_ hlt
          obtain ⟨b2, o2, rfl, _, hb2, r2, e0, e1, e2, e3, e4, e5, e6⟩ := (hb.below hB).at_ hlt2
          have f1 := hfl _ (List.getElem_mem hlt)
          have f2 := hfm _ (List.getElem_mem hlt2)
          have i1 : (k : Int) < (l.length : Int) := by omega
          have i2 : (k : Int) < (m.length : Int) := by omega
          clear ha hb hfl hfm
          go_wp2_with fail
          go_still_tail 10, (by kernel_rfl)
          change wpList _ _ _ _ _ wr.drew
          go_wp2_with fail
          refine (esame_any S S' l[k] m[k] _ r1.drew r2.drew f1 f2).mono ?_
          rintro e w1 ⟨rfl, hbw⟩
          have hR1 := hR.drew.trans (hbw.mono hsz)
          have hB1 := hB.drew.trans (hbw.mono hB.size)
          go_wp2_with fail
          · go_ret
            exact ⟨by rw [eqB_eq (eqPs_at hlt hlt2 (by simpa using (by assumption : (!eqP l[k].p m[k].p) = true)))]; rfl, hB1⟩
          · go_roundw
            case rel =>
              have hfin := allP_step hall.out hlt hlt2 (by simpa using (by assumption : (!eqP l[k].p m[k].p) = false))
              exact ⟨k + 1, by omega, by go_num, hR1, hfin⟩
            case measure => simp [intOf]; omega
        · obtain rfl : k = l.length := by omega
          go_wp2_with fail
          go_ret
          exact ⟨by rw [eqB_eq (eqPs_all hlen.out hall.out)]; rfl, hB⟩
    · have h : ((l.length : Int) != (m.length : Int)) = true := by simp; omega
      go_enter Try.func21, Try.ntmps21
      go_wp2_with fail
      go_ret
      exact ⟨by rw [eqB_len hlen0]; rfl, below_two _ _⟩
  · have hx : (x != y) = true := by simp [hxy]
    go_enter Try.func21, Try.ntmps21
    go_wp2_with fail
    go_ret
    exact ⟨by rw [eqB_epoch hxy]; rfl, below_two _ _⟩

end Go.Proofs.Ytlnlffpkdeaimaa
