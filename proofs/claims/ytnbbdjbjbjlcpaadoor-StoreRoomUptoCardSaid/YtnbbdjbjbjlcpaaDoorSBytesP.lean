/- store: a store's bytes: plain law. -/
import Derived.Test.YtnbbdjbjbjlcpaaDoorSVal
import Derived.Test.YtnbbdjbjbjlcpaaDoorSPl
import Derived.Lib.ItoaLen
namespace Go.Proofs.YtnbbdjbjbjlcpaaDoor
open Go.RowKit
set_option linter.unusedVariables false
set_option linter.unusedSimpArgs false

def lineL (x : Kv) : List UInt8 := x.1.data.toList ++ (32 :: (printL x.2 ++ [10]))
def headL (s : St) : List UInt8 := Lib.itoa s.parts ++ (10 :: (Lib.itoa s.room ++ [10]))
def bytesTo (s : St) (i : Nat) : List UInt8 := headL s ++ (s.L.take i).flatMap lineL
def bytesS (s : St) : List UInt8 := headL s ++ s.L.flatMap lineL
theorem bytesTo_zero (s : St) : bytesTo s 0 = headL s := by simp [bytesTo]
theorem bytesTo_all (s : St) : bytesTo s s.L.length = bytesS s := by unfold bytesTo bytesS; rw [List.take_length]
theorem bytesTo_step (s : St) {i : Nat} (h : i < s.L.length) : bytesTo s (i + 1) = bytesTo s i ++ lineL s.L[i] := by
  unfold bytesTo
  rw [List.take_succ_eq_append_getElem h, List.flatMap_append, List.append_assoc]
  simp
theorem escL_len : ∀ l : List UInt8, (escL l).length ≤ 2 * l.length
  | [] => Nat.le_refl _
  | c :: l => by
    have := escL_len l
    unfold escL at *
    rw [List.flatMap_cons, List.length_append, List.length_cons]
    split <;> simp only [List.length_cons, List.length_nil] <;> omega
theorem print_len {v : Vl} (hok : v.ok = true) (hr : v.rng) : (printL v).length ≤ 200 := by
  unfold printL litL
  rw [if_pos hok]
  split
  · have := Lib.itoa_length_le v.n hr.1 hr.2
    omega
  · split
    · decide
    · have h := ok_forms hok
      have h2 : v.s.size ≤ 64 := by
        rcases h with rfl | ⟨h1, h2⟩ | ⟨h1, h2, h3, h4⟩
        · decide
        · rw [h2]; decide
        · exact h3
      have := escL_len v.s.data.toList
      have e : v.s.data.toList.length = v.s.size := Array.length_toList
      simp
      omega
theorem line_len {x : Kv} (hk : validK x.1 = true) (hok : x.2.ok = true) (hr : x.2.rng) : (lineL x).length ≤ 300 := by
  have h1 := print_len hok hr
  have h2 : x.1.size ≤ 32 := by unfold validK at hk; simp at hk; omega
  have e : x.1.data.toList.length = x.1.size := Array.length_toList
  unfold lineL
  simp only [List.length_append, List.length_cons, List.length_nil]
  omega
theorem flat_le : ∀ {l : List Kv}, (∀ x ∈ l, (lineL x).length ≤ 300) → (l.flatMap lineL).length ≤ 300 * l.length
  | [], _ => Nat.le_refl _
  | x :: l, h => by
    have h1 := h x (List.mem_cons_self ..)
    have h2 := flat_le (l := l) fun y hy => h y (List.mem_cons_of_mem _ hy)
    rw [List.flatMap_cons, List.length_append, List.length_cons]
    omega
theorem bytesTo_len {s : St} (h : ∀ x ∈ s.L, (lineL x).length ≤ 300) (hh : (headL s).length ≤ 60) (hn : s.L.length ≤ 262144) (i : Nat) : (bytesTo s i).length ≤ 100000000 := by
  unfold bytesTo
  have h1 := flat_le (l := s.L.take i) fun x hx => h x (List.mem_of_mem_take hx)
  have h2 : (s.L.take i).length ≤ s.L.length := by rw [List.length_take]; omega
  rw [List.length_append]
  omega
theorem head_len {s : St} (h1 : s.parts ≤ 64) (h2 : s.room ≤ 4096) : (headL s).length ≤ 60 := by
  have a := Lib.itoa_length_le (s.parts : Int) (by omega) (by omega)
  have b := Lib.itoa_length_le (s.room : Int) (by omega) (by omega)
  unfold headL
  simp only [List.length_append, List.length_cons, List.length_nil]
  omega
end Go.Proofs.YtnbbdjbjbjlcpaaDoor
