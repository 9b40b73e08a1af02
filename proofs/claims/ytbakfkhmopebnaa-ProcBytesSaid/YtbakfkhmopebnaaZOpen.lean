/- proc: a program as it is read from the arguments: its cells, its ranges, the sizes that a machine can hold. -/
import Derived.Test.YtbakfkhmopebnaaJ13
import Derived.Deep.Slices
import Derived.Lib.SmallJoins
import Derived.SizedLaws
namespace Go.Proofs.Ytbakfkhmopebnaa
open Go.RowKit Go.Deep Go.ChangeShapes
set_option linter.unusedVariables false
set_option linter.unusedSimpArgs false
set_option maxRecDepth 10000

theorem list3 {α : Type} {l : List α} (h : l.length = 3) : ∃ a b c, l = [a, b, c] := by
  match l, h with
  | [a, b, c], _ => exact ⟨a, b, c, rfl⟩
theorem list2 {α : Type} {l : List α} (h : l.length = 2) : ∃ a b, l = [a, b] := by
  match l, h with
  | [a, b], _ => exact ⟨a, b, rfl⟩
def big : Nat := 140737488351232
def WB (l : List Nat) : Prop := ∀ n ∈ l, n ≤ big
theorem WB.app {l m : List Nat} (h : WB (l ++ m)) : WB l ∧ WB m := ⟨fun n hn => h n (List.mem_append_left _ hn), fun n hn => h n (List.mem_append_right _ hn)⟩
theorem WB.cons {a : Nat} {m : List Nat} (h : WB (a :: m)) : a ≤ big ∧ WB m := ⟨h a List.mem_cons_self, fun n hn => h n (List.mem_cons_of_mem _ hn)⟩
theorem WB.of_all {l : List Nat} (h : l.all (· ≤ reachBytes) = true) : WB l := fun n hn => by
  exact (of_decide_eq_true (List.all_eq_true.1 h n hn) : n ≤ reachBytes)
theorem cell_lt {w : World} {a : Addr} {v : Value} (h : w.cell? a = some v) : a.block < w.heap.size := by
  by_cases hl : a.block < w.heap.size
  · exact hl
  · exfalso
    have : w.heap[a.block]? = none := by simp; omega
    unfold World.cell? at h
    split at h <;> simp_all
theorem add_plain (b o j : Nat) : (⟨b, o, none⟩ : Addr).add j = ⟨b, o + j, none⟩ := by
  unfold Addr.add; split <;> simp_all
theorem pickS {α : Type} (R : Nat → α → Prop) : ∀ len : Nat, (∀ i, i < len → ∃ a, R i a) → ∃ us : List α, us.length = len ∧ ∀ i (h : i < us.length), R i us[i] := by
  intro len
  induction len with
  | zero => intro _; exact ⟨[], rfl, fun i h => absurd h (by simp)⟩
  | succ n ih =>
    intro h
    obtain ⟨us, hl, hR⟩ := ih fun i hi => h i (by omega)
    obtain ⟨a, ha⟩ := h n (by omega)
    refine ⟨us ++ [a], by simp [hl], fun i hi => ?_⟩
    by_cases hin : i < us.length
    · rw [List.getElem_append_left hin]; exact hR i hin
    · have : i = us.length := by simp at hi; omega
      subst this
      rw [List.getElem_append_right (by omega)]
      simpa [hl] using ha
theorem weightsAll_mem {H : Type} {P : Program} {e : TypeId} {d : DataW H} : ∀ {l : List (DataW H)}, d ∈ l → ∀ n ∈ d.weights P e, n ∈ DataW.weightsAll P e l := by
  intro l
  induction l with
  | nil => intro h; cases h
  | cons x l ih =>
    intro h n hn
    simp only [DataW.weightsAll, List.mem_append]
    rcases List.mem_cons.1 h with rfl | h
    · exact .inl hn
    · exact .inr (ih h n hn)
/-- a slice's cells, element by element; no part is greater than a machine can hold -/
theorem open_rowsS {α H : Type} {enc : TypeId × Value → H} {w : World} {base : Nat} {spare : Nat → Bool} {held : Bool} {t e : TypeId} {fuel : Nat} {cs : List Value} {x : DataW H × List MemPlace}
    (cf : α → List Value) (ok : α → Prop) (sz : Nat) (hsz : 0 < sz) (hcf : ∀ a, (cf a).length = sz) (ht : Try.prog.underlying t = some (.slice e)) (hce : Try.prog.cellsOf e = sz)
    (hE : ∀ n cs' y, DataW.trod enc Try.prog w base spare held n e cs' = some y → WB (y.1.weights Try.prog e) → ∃ a, cs' = cf a ∧ ok a)
    (h : DataW.trod enc Try.prog w base spare held fuel t cs = some x) (hw : WB (x.1.weights Try.prog t)) :
    ∃ (A : Option Addr) (us : List α) (c : Nat), cs = [.slice A us.length c] ∧ Rd (fun b => b < w.heap.size) w sz A us.length (us.flatMap cf) ∧ (∀ a ∈ us, ok a) ∧ us.length * Try.prog.bytesOf e ≤ big := by
  rcases open_slice ht h with ⟨rfl, rfl⟩ | ⟨a, len, cap, m, n, D, Pl, rfl, hb, hl, hm, hmm, rfl, hx⟩
  · exact ⟨none, [], 0, rfl, Rd.nil_, by simp, by simp⟩
  · have hlm : len ≤ m := by rw [hmm]; split <;> omega
    simp only [DataW.weights, ht] at hw
    obtain ⟨hw1, hw2⟩ := hw.cons
    obtain ⟨hw3, _⟩ := hw2.app
    obtain ⟨us, hal, hR⟩ := pickS (fun i r => ok r ∧ ∃ cs', cs' = cf r ∧ w.cells? base (a.add (i * sz)) sz = some cs') len (fun i hi => by
      obtain ⟨cs', h1, h2⟩ := hx i (by omega)
      rw [hce] at h1
      obtain ⟨r, e1, e2⟩ := hE _ _ _ h2 (fun u hu => hw3 u (weightsAll_mem (List.mem_map.2 ⟨i, List.mem_range.2 hi, rfl⟩) u hu))
      exact ⟨r, e2, cs', e1, h1⟩)
    refine ⟨some a, us, cap, by rw [hal], ⟨?_, fun h0 => ?_⟩, fun r hr => ?_, ?_⟩
    · exact flat_length cf sz hcf us
    · obtain ⟨_, cs0, e1, e2⟩ := hR 0 h0
      obtain ⟨_, h3, h4⟩ := World.cells?_some e2
      have h5 := h4 0 hsz
      rw [List.getElem?_eq_getElem (by omega)] at h5
      simp at h5
      obtain ⟨b, o, sp⟩ := a
      have h8 : sp = none := by have := World.cell?_spot h5; simpa [Addr.add] using this
      have h9 : b < w.heap.size := by have := cell_lt h5; simpa [Addr.add] using this
      subst h8
      refine ⟨b, o, rfl, h9, h9, fun j u hu => ?_⟩
      have hj : j / sz < us.length := by
        have h1 := (List.getElem?_eq_some_iff.1 hu).1
        rw [flat_length cf sz hcf] at h1
        exact Nat.div_lt_of_lt_mul (by rw [Nat.mul_comm]; exact h1)
      have hjm := Nat.mod_lt j hsz
      have hdm : j / sz * sz + j % sz = j := by rw [Nat.mul_comm]; exact Nat.div_add_mod j sz
      obtain ⟨_, cs1, f1, f2⟩ := hR _ hj
      obtain ⟨_, f3, f4⟩ := World.cells?_some f2
      have f5 := f4 _ hjm
      rw [add_plain, add_plain, Nat.add_assoc, hdm] at f5
      rw [← hdm, flat_at cf sz hcf us _ _ hj hjm, ← f1, ← f5] at hu
      exact hu
    · obtain ⟨i, hi, rfl⟩ := List.mem_iff_getElem.1 hr
      exact (hR i hi).1
    · simp only [List.length_map, List.length_range] at hw1
      rw [hal]
      exact Nat.le_trans (Nat.mul_le_mul_right _ (Nat.le_add_right _ _)) hw1
section
variable {H : Type} {enc : TypeId × Value → H} {w : World} {base : Nat} {spare : Nat → Bool} {held : Bool} {fuel : Nat} {cs : List Value} {x : DataW H × List MemPlace}
theorem fieldAt {fs : Array Field} {xs : List (DataW H × List MemPlace)} {n : Nat} (hf : ∀ (i : Nat) (f : Field), fs[i]? = some f → DataW.trod enc Try.prog w base spare held n f.type ((cs.drop f.offset).take (Try.prog.cellsOf f.type)) = xs[i]?) (i : Nat) {f : Field} (T : TypeId) (o k : Nat) {y : DataW H × List MemPlace}
    (hi : fs[i]? = some f) (hT : f.type = T) (ho : f.offset = o) (hc : Try.prog.cellsOf T = k) (hx : xs[i]? = some y) : DataW.trod enc Try.prog w base spare held n T ((cs.drop o).take k) = some y := by
  have := hf i f hi
  rw [hT, ho, hc, hx] at this
  exact this
theorem cof_int : Try.prog.cellsOf 3 = 1 := by kernel_rfl
theorem cof_i64 : Try.prog.cellsOf 2 = 1 := by kernel_rfl
theorem cof_str : Try.prog.cellsOf 9 = 1 := by kernel_rfl
theorem cof_val : Try.prog.cellsOf 51 = 3 := by kernel_rfl
theorem cof_ins : Try.prog.cellsOf 49 = 2 := by kernel_rfl
theorem cof_vals : Try.prog.cellsOf 26 = 1 := by kernel_rfl
theorem cof_inss : Try.prog.cellsOf 27 = 1 := by kernel_rfl
theorem cof_prc : Try.prog.cellsOf 29 = 3 := by kernel_rfl
theorem byt_val : Try.prog.bytesOf 51 = 32 := by kernel_rfl
theorem byt_ins : Try.prog.bytesOf 49 = 16 := by kernel_rfl
theorem wf_i64 {n : Int} (h : (Lit.int .i64 n).wf = true) : -9223372036854775808 ≤ n ∧ n ≤ 9223372036854775807 := by
  simpa [Lit.wf, IntKind.min, IntKind.max, IntKind.bits, IntKind.signed] using h
theorem str_len (s : ByteArray) : s.data.toList.length = s.size := by rw [Array.length_toList]; rfl
theorem open_vl (h : DataW.trod enc Try.prog w base spare held fuel 51 cs = some x) (hw : WB (x.1.weights Try.prog 51)) : ∃ v : Vl, cs = v.cells ∧ v.rng ∧ v.s.size ≤ big := by
  obtain ⟨xs, n, _, rfl, hl, hlen, hf⟩ := DataW.trod_struct Try.underlying51 h
  rw [cof_val] at hl
  obtain ⟨c0, c1, c2, rfl⟩ := list3 hl
  obtain ⟨y0, y1, y2, rfl⟩ := list3 hlen
  have h0 := fieldAt hf 0 3 0 1 (y := y0) rfl rfl rfl cof_int rfl
  have h1 := fieldAt hf 1 2 1 1 (y := y1) rfl rfl rfl cof_i64 rfl
  have h2 := fieldAt hf 2 9 2 1 (y := y2) rfl rfl rfl cof_str rfl
  obtain ⟨k, e0, r0, _⟩ := DataW.trod_int Try.underlying3 (x := y0) h0
  obtain ⟨i, e1, r1, w1⟩ := DataW.trod_int Try.underlying2 (x := y1) h1
  obtain ⟨s, e2, r2, _⟩ := DataW.trod_string Try.underlying9 (x := y2) h2
  simp at e0 e1 e2
  subst e0 e1 e2 r0 r1 r2
  refine ⟨⟨k, i, s⟩, rfl, wf_i64 w1, ?_⟩
  have := hw s.data.toList.length (by simp [DataW.weights, DataW.weightsEach, Try.underlying51])
  rw [str_len] at this
  exact this
theorem open_is (h : DataW.trod enc Try.prog w base spare held fuel 49 cs = some x) : ∃ v : Is, cs = v.cells ∧ True := by
  obtain ⟨xs, n, _, rfl, hl, hlen, hf⟩ := DataW.trod_struct Try.underlying49 h
  rw [cof_ins] at hl
  obtain ⟨c0, c1, rfl⟩ := list2 hl
  obtain ⟨y0, y1, rfl⟩ := list2 hlen
  have h0 := fieldAt hf 0 3 0 1 (y := y0) rfl rfl rfl cof_int rfl
  have h1 := fieldAt hf 1 3 1 1 (y := y1) rfl rfl rfl cof_int rfl
  obtain ⟨k, e0, r0, _⟩ := DataW.trod_int Try.underlying3 (x := y0) h0
  obtain ⟨i, e1, r1, w1⟩ := DataW.trod_int Try.underlying3 (x := y1) h1
  simp at e0 e1
  subst e0 e1 r0 r1
  exact ⟨⟨k, i⟩, rfl, trivial⟩
/-- a program of the arguments -/
structure PrArg (w : World) (A1 A2 : Option Addr) (p : Pr) : Prop where
  c : Rd (fun b => b < w.heap.size) w 3 A1 p.cs.length (vcells p.cs)
  i : Rd (fun b => b < w.heap.size) w 2 A2 p.code.length (icells p.code)
  v : ∀ v ∈ p.cs, v.rng ∧ v.s.size ≤ big
  n : p.cs.length ≤ 1000000000000000 ∧ p.code.length ≤ 1000000000000000
theorem PrArg.prIn {w : World} {A1 A2 : Option Addr} {p : Pr} (h : PrArg w A1 A2 p) (hl : p.code.length + p.cs.length ≤ 2000) : PrIn (fun b => b < w.heap.size) w A1 A2 p :=
  ⟨h.c, h.i, fun v hv => by have := (h.v v hv).2; unfold big at this; omega, by omega⟩
theorem open_pr (h : DataW.trod enc Try.prog w base spare held fuel 29 cs = some x) (hw : WB (x.1.weights Try.prog 29)) :
    ∃ (p : Pr) (A1 A2 : Option Addr) (c1 c2 : Nat), cs = [.int .i64 p.args, .slice A1 p.cs.length c1, .slice A2 p.code.length c2] ∧ PrArg w A1 A2 p := by
  obtain ⟨xs, n, _, rfl, hl, hlen, hf⟩ := DataW.trod_struct Try.underlying29 h
  rw [cof_prc] at hl
  obtain ⟨c0, c1, c2, rfl⟩ := list3 hl
  obtain ⟨y0, y1, y2, rfl⟩ := list3 hlen
  have h0 := fieldAt hf 0 3 0 1 (y := y0) rfl rfl rfl cof_int rfl
  have h1 := fieldAt hf 1 26 1 1 (y := y1) rfl rfl rfl cof_vals rfl
  have h2 := fieldAt hf 2 27 2 1 (y := y2) rfl rfl rfl cof_inss rfl
  have hw1 : WB (y1.1.weights Try.prog 26) := fun u hu => hw u (by simp [DataW.weights, DataW.weightsEach, Try.underlying29, hu])
  have hw2 : WB (y2.1.weights Try.prog 27) := fun u hu => hw u (by simp [DataW.weights, DataW.weightsEach, Try.underlying29, hu])
  obtain ⟨k, e0, r0, _⟩ := DataW.trod_int Try.underlying3 (x := y0) h0
  obtain ⟨A1, vs, d1, e1, hr1, ho1, hb1⟩ := open_rowsS Vl.cells (fun v => v.rng ∧ v.s.size ≤ big) 3 (by omega) (fun _ => rfl) Try.underlying26 cof_val (fun n cs' y hy hw => open_vl hy hw) h1 hw1
  obtain ⟨A2, is_, d2, e2, hr2, ho2, hb2⟩ := open_rowsS Is.cells (fun _ => True) 2 (by omega) (fun _ => rfl) Try.underlying27 cof_ins (fun n cs' y hy _ => open_is hy) h2 hw2
  rw [byt_val] at hb1
  rw [byt_ins] at hb2
  simp at e0 e1 e2
  subst e0 e1 e2
  exact ⟨⟨k, vs, is_⟩, A1, A2, d1, d2, rfl, hr1, hr2, ho1, by unfold big at hb1 hb2; simp only; omega⟩
end
end Go.Proofs.Ytbakfkhmopebnaa
