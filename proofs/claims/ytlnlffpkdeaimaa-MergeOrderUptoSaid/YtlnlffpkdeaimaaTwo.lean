/- Two merges side by side. -/
import Derived.Test.YtlnlffpkdeaimaaOrd
namespace Go.Proofs.Ytlnlffpkdeaimaa
open Go.RowKit
set_option linter.unusedVariables false
set_option linter.unusedSimpArgs false

structure Two (W : World) (n : Int) (gA mA gB mB : Nat) (HA HB : List ((Int × Int) × HV)) (wr : World) : Prop where
  a : MergeAt wr gA mA n 0 0 HA
  b : MergeAt wr gB mB n 0 0 HB
  below : Below W.heap.size W wr
  newA : W.heap.size ≤ gA ∧ W.heap.size ≤ mA
  newB : W.heap.size ≤ gB ∧ W.heap.size ≤ mB
  ne : gA ≠ gB ∧ gA ≠ mB ∧ mA ≠ gB ∧ mA ≠ mB
  hA : ∀ h ∈ HA, ∀ k, h.2.S k → W.heap.size ≤ k ∧ k ≠ gB ∧ k ≠ mB
  hB : ∀ h ∈ HB, ∀ k, h.2.S k → W.heap.size ≤ k ∧ k ≠ gA ∧ k ≠ mA
section
variable {W wr w' : World} {n : Int} {gA mA gB mB : Nat} {HA HB H' : List ((Int × Int) × HV)}
theorem Two.swap (h : Two W n gA mA gB mB HA HB wr) : Two W n gB mB gA mA HB HA wr :=
  ⟨h.b, h.a, h.below, h.newB, h.newA, ⟨h.ne.1.symm, h.ne.2.2.1.symm, h.ne.2.1.symm, h.ne.2.2.2.symm⟩, h.hB, h.hA⟩
theorem Two.step (h : Two W n gA mA gB mB HA HB wr) (hb : Below wr.heap.size wr w') : Two W n gA mA gB mB HA HB w' :=
  { h with a := h.a.below hb, b := h.b.below hb, below := h.below.trans (hb.mono h.below.size) }
theorem Two.arr (h : Two W n gA mA gB mB HA HB wr) (hM : MergeAt w' gA mA n 0 0 H') (hn : ∀ h ∈ H', h ∈ HA ∨ ∀ k, h.2.S k → wr.heap.size ≤ k) (hu : Upd (fun k => k = mA) wr w') : Two W n gA mA gB mB H' HB w' := by
  have hgB := h.b.blk.lt
  have hmB := h.b.map.lt
  have hz := h.below.size
  refine ⟨hM, h.b.upd hu (fun e => h.ne.2.2.1 e.symm) (fun e => h.ne.2.2.2 e.symm) (fun x hx k hk e => (h.hB x hx k hk).2.2 e), h.below.trans (hu.below hz fun k hk e => by have := h.newA.2; omega), h.newA, h.newB, h.ne, fun x hx k hk => ?_, h.hB⟩
  rcases hn x hx with h1 | h1
  · exact h.hA x h1 k hk
  · have := h1 k hk
    exact ⟨by omega, by omega, by omega⟩
end
theorem arrive_as {ps : List Pl} {rs : List RP} (hp : plans rs = ps) (S : Nat → Prop) (g mb : Nat) (n e s x t : Int) (H : List ((Int × Int) × HV)) (A : Option Addr) (c : Nat) (w : World) (h : MergeAt w g mb n e s H) (he : 0 ≤ e) (hx9 : x ≤ 9223372036854775807)
    (ha : PlansOk S w A rs) (hl : rs.length ≤ 1000000000) (hfit : ∀ r ∈ rs, r.p.fits) :
    Calls Try.prog 11 #[.pointer (some ⟨g, 0, none⟩), .int .i64 t, .agg #[.int .i64 x, .slice A rs.length c]] w (ArrM w g mb n e s x t H ps) := hp ▸ arrive_all S g mb n e s x t H A c rs w h he hx9 ha hl hfit

/-- the acts' batches by their places -/
def actsD (us : List AR) : Held := us.map fun a => ((a.x, a.s), plans a.rs)
theorem actsD_take {us : List AR} {i : Nat} (h : i < us.length) : actsD (us.take (i + 1)) = actsD (us.take i) ++ [((us[i].x, us[i].s), plans us[i].rs)] := by
  unfold actsD
  rw [List.take_succ_eq_append_getElem h, List.map_append]; rfl
theorem actsD_mem {us : List AR} {i : Nat} (h : i < us.length) : ((us[i].x, us[i].s), plans us[i].rs) ∈ actsD us := List.mem_map.2 ⟨us[i], List.getElem_mem h, rfl⟩

theorem turn_at (t : Int) (len : Nat) (h : 0 < len) (h2 : len ≤ 1000000) : ∃ kk : Nat, kk < len ∧ (wrap64 (t.tmod (len : Int) + (len : Int))).tmod (len : Int) = (kk : Int) := by
  have h1 : t.tmod (len : Int) < (len : Int) := Int.tmod_lt_of_pos _ (by omega)
  have h3 : -(len : Int) < t.tmod (len : Int) := Int.lt_tmod_of_pos _ (by omega)
  have hw : wrap64 (t.tmod (len : Int) + (len : Int)) = t.tmod (len : Int) + (len : Int) := by first | exact IntWalk.i64_in _ (by omega) | exact IntWalk.wrap64_in _ (by omega)
  rw [hw, Int.tmod_eq_emod_of_nonneg (by omega)]
  have h4 := Int.emod_nonneg (t.tmod (len : Int) + (len : Int)) (b := (len : Int)) (by omega)
  have h5 := Int.emod_lt_of_pos (t.tmod (len : Int) + (len : Int)) (b := (len : Int)) (by omega)
  exact ⟨((t.tmod (len : Int) + (len : Int)) % (len : Int)).toNat, by omega, by omega⟩

def OrdA (W : World) (n : Int) (gA mA gB mB : Nat) (us : List AR) (v : Value) (wr : World) : Prop :=
  ∃ (i : Nat) (HA : List ((Int × Int) × HV)), v = .int .i64 i ∧ i ≤ us.length ∧ Two W n gA mA gB mB HA [] wr ∧ Holds n (held HA) (actsD (us.take i))
def OrdB (W : World) (n : Int) (gA mA gB mB : Nat) (us : List AR) (HA : List ((Int × Int) × HV)) (m : Nat) (v : Value) (wr : World) : Prop :=
  ∃ (i : Nat) (HB : List ((Int × Int) × HV)), v = .int .i64 i ∧ i ≤ m ∧ Two W n gA mA gB mB HA HB wr ∧ PartOf (held HB) (actsD us)
def OrdC (W : World) (n : Int) (gA mA gB mB : Nat) (us : List AR) (HA : List ((Int × Int) × HV)) (v : Value) (wr : World) : Prop :=
  ∃ (i : Nat) (HB : List ((Int × Int) × HV)), v = .int .i64 ((i : Int) - 1) ∧ i ≤ us.length ∧ Two W n gA mA gB mB HA HB wr ∧ PartOf (held HB) (actsD us) ∧
    ∀ j (h : j < us.length), i ≤ j → getA (us[j].x, us[j].s) (held HB) = some (plans us[j].rs)

end Go.Proofs.Ytlnlffpkdeaimaa
