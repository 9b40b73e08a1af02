/- What arguments read us, taken to lists of rows; and the bound on their bulk. -/
import Derived.Test.YtnbbdjbjbjlcpaaDoorSActs
import Derived.Deep.Slices
import Derived.Lib.SmallJoins
namespace Go.Proofs.YtnbbdjbjbjlcpaaDoor
open Go.RowKit Go.Deep Go.ChangeShapes
set_option linter.unusedVariables false

theorem bulk_app {H : Type} (l r : List (DataW H)) : Rows.uptoBulkAll (l ++ r) = Rows.uptoBulkAll l + Rows.uptoBulkAll r := by
  induction l with
  | nil => simp [Rows.uptoBulkAll]
  | cons x l ih => simp only [List.cons_append, Rows.uptoBulkAll, ih]; omega
theorem cell_lt {w : World} {a : Addr} {v : Value} (h : w.cell? a = some v) : a.block < w.heap.size := by
  by_cases hl : a.block < w.heap.size
  · exact hl
  · exfalso
    have : w.heap[a.block]? = none := by simp; omega
    unfold World.cell? at h
    split at h <;> simp_all
theorem add_plain (b o j : Nat) : (⟨b, o, none⟩ : Addr).add j = ⟨b, o + j, none⟩ := by
  unfold Addr.add; split <;> simp_all
theorem flat_len {α : Type} (f : α → List Value) (sz : Nat) (hf : ∀ a, (f a).length = sz) (us : List α) : (us.flatMap f).length = us.length * sz := by
  induction us with
  | nil => simp
  | cons r l ih => rw [List.flatMap_cons, List.length_append, hf, ih, List.length_cons, Nat.succ_mul]; omega
/-- rows chosen one by one -/
theorem pick {α H : Type} (D : Nat → DataW H) (μ : α → Nat) (R : Nat → α → Prop) : ∀ len : Nat, (∀ i, i < len → ∃ a, R i a ∧ μ a ≤ Rows.uptoBulk (D i)) →
    ∃ us : List α, us.length = len ∧ (∀ i (h : i < us.length), R i us[i]) ∧ (us.map μ).sum ≤ Rows.uptoBulkAll ((List.range len).map D) := by
  intro len
  induction len with
  | zero => intro _; exact ⟨[], rfl, fun i h => absurd h (by simp), by simp⟩
  | succ n ih =>
    intro h
    obtain ⟨us, hl, hR, hs⟩ := ih fun i hi => h i (by omega)
    obtain ⟨a, ha, hm⟩ := h n (by omega)
    refine ⟨us ++ [a], by simp [hl], fun i hi => ?_, ?_⟩
    · by_cases hin : i < us.length
      · rw [List.getElem_append_left hin]; exact hR i hin
      · have : i = us.length := by simp at hi; omega
        subst this
        rw [List.getElem_append_right (by omega)]
        simpa [hl] using ha
    · rw [List.range_succ, List.map_append (f := D), bulk_app]
      simp only [List.map_append, List.sum_append, List.map_cons, List.map_nil, List.sum_cons, List.sum_nil, Rows.uptoBulkAll]
      omega

/-- a slice's cells, element by element -/
theorem open_rows {α H : Type} {enc : TypeId × Value → H} {w : World} {base : Nat} {spare : Nat → Bool} {held : Bool} {t e : TypeId} {fuel : Nat} {cs : List Value} {x : DataW H × List MemPlace}
    (cf : α → List Value) (μ : α → Nat) (ok : α → Prop) (sz : Nat) (hsz : 0 < sz) (hcf : ∀ a, (cf a).length = sz) (ht : Tryd.prog.underlying t = some (.slice e)) (hce : Tryd.prog.cellsOf e = sz)
    (hE : ∀ n cs' y, DataW.trod enc Tryd.prog w base spare held n e cs' = some y → ∃ a, cs' = cf a ∧ ok a ∧ μ a ≤ Rows.uptoBulk y.1)
    (h : DataW.trod enc Tryd.prog w base spare held fuel t cs = some x) :
    ∃ (A : Option Addr) (us : List α) (c : Nat), cs = [.slice A us.length c] ∧ Rd (fun b => b < w.heap.size) w sz A us.length (us.flatMap cf) ∧ (∀ a ∈ us, ok a) ∧ (us.map μ).sum + 1 ≤ Rows.uptoBulk x.1 := by
  rcases open_slice ht h with ⟨rfl, rfl⟩ | ⟨a, len, cap, m, n, D, Pl, rfl, hb, hl, hm, hmm, rfl, hx⟩
  · exact ⟨none, [], 0, rfl, Rd.nil_, by simp, by simp [Rows.uptoBulk]⟩
  · have hlm : len ≤ m := by rw [hmm]; split <;> omega
    obtain ⟨us, hal, hR, hs⟩ := pick D μ (fun i r => ok r ∧ ∃ cs', cs' = cf r ∧ w.cells? base (a.add (i * sz)) sz = some cs') len (fun i hi => by
      obtain ⟨cs', h1, h2⟩ := hx i (by omega)
      rw [hce] at h1
      obtain ⟨r, e1, e2, e3⟩ := hE _ _ _ h2
      exact ⟨r, ⟨e2, cs', e1, h1⟩, e3⟩)
    refine ⟨some a, us, cap, by rw [hal], ⟨?_, fun h0 => ?_⟩, fun r hr => ?_, ?_⟩
    · exact flat_len cf sz hcf us
    · obtain ⟨_, cs0, e1, e2⟩ := hR 0 h0
      obtain ⟨_, h3, h4⟩ := World.cells?_some e2
      have h5 := h4 0 hsz
      rw [List.getElem?_eq_getElem (by omega)] at h5
      simp at h5
      obtain ⟨b, o, sp⟩ := a
      have h8 : sp = none := by have := World.cell?_spot h5; simpa [Addr.add] using this
      have h9 : b < w.heap.size := by have := cell_lt h5; simpa [Addr.add] using this
      subst h8
      refine ⟨b, o, rfl, h9, h9, fun j u hu => ?_⟩
      have hj : j / sz < us.length := by
        have h1 := (List.getElem?_eq_some_iff.1 hu).1
        rw [flat_len cf sz hcf] at h1
        exact Nat.div_lt_of_lt_mul (by rw [Nat.mul_comm]; exact h1)
      have hjm := Nat.mod_lt j hsz
      have hdm : j / sz * sz + j % sz = j := by rw [Nat.mul_comm]; exact Nat.div_add_mod j sz
      obtain ⟨_, cs1, f1, f2⟩ := hR _ hj
      obtain ⟨_, f3, f4⟩ := World.cells?_some f2
      have f5 := f4 _ hjm
      rw [add_plain, add_plain, Nat.add_assoc, hdm] at f5
      rw [← hdm, aflat_at cf sz hcf us _ _ hj hjm, ← f1, ← f5] at hu
      exact hu
    · obtain ⟨i, hi, rfl⟩ := List.mem_iff_getElem.1 hr
      exact (hR i hi).1
    · simp only [Rows.uptoBulk]; omega

end Go.Proofs.YtnbbdjbjbjlcpaaDoor
