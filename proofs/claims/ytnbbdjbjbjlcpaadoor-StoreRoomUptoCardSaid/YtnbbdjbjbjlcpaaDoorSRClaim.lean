/- The document's store: Claim. -/
import Derived.Test.YtnbbdjbjbjlcpaaDoorSRAt
import Derived.Test.YtnbbdjbjbjlcpaaDoorSClaim
import Derived.Test.YtnbbdjbjbjlcpaaDoorSDump
import Derived.Test.YtnbbdjbjbjlcpaaDoorSHeldE
namespace Go.Proofs.YtnbbdjbjbjlcpaaDoor
open Go.RowKit
set_option linter.unusedVariables false
set_option linter.unusedSimpArgs false

theorem below_al {w W : World} (h : Below w.heap.size w W) (o : Obj) : Below w.heap.size w (W.alloc o) := h.alloc h.size o
theorem below_sz {w W : World} (h : Below w.heap.size w W) : w.heap.size ≤ W.heap.size := h.size
theorem below_gr {w W w' : World} {row : Option Nat} (h : Below w.heap.size w W) (hg : W.grownBy w' row) (hr : ∀ k, row = some k → w.heap.size ≤ k) : Below w.heap.size w w' := h.grown hg h.size hr
theorem Rd.grown_ {S : Nat → Prop} {w w' : World} {size n : Nat} {A : Option Addr} {xs : List Value} {row : Option Nat} (h : Rd S w size A n xs) (hg : w.grownBy w' row) (hr : ∀ b, S b → some b ≠ row) : Rd S w' size A n xs := h.keep fun b hb hl => hg.block b hl (hr b hb)
theorem kvCells_take (L : List Kv) (m : Nat) : (kvCells L).take (m * 4) = kvCells (L.take m) := by
  induction L generalizing m with
  | nil => simp [kvCells]
  | cons p l ih =>
    cases m with
    | zero => simp [kvCells]
    | succ m =>
      have := ih m
      simp only [kvCells, List.flatMap_cons, List.take_succ_cons] at this ⊢
      rw [show (m + 1) * 4 = (encI p).length + m * 4 by simp [encI]; omega]
      show List.take _ (encI p ++ _) = _
      rw [List.take_length_add_append, this]; rfl
theorem kvCells_drop (L : List Kv) (m : Nat) : (kvCells L).drop (m * 4) = kvCells (L.drop m) := by
  induction L generalizing m with
  | nil => simp [kvCells]
  | cons p l ih =>
    cases m with
    | zero => simp
    | succ m =>
      have := ih m
      simp only [kvCells, List.flatMap_cons, List.drop_succ_cons] at this ⊢
      rw [show (m + 1) * 4 = (encI p).length + m * 4 by simp [encI]; omega]
      show List.drop _ (encI p ++ _) = _
      rw [List.drop_length_add_append, this]
theorem Rd.preK {S : Nat → Prop} {w : World} {b o n : Nat} {L : List Kv} (h : Rd S w 4 (some ⟨b, o, none⟩) n (kvCells L)) (hn : n = L.length) (m : Nat) (hm : m ≤ n) : Rd S w 4 (some ⟨b, o, none⟩) m (kvCells (L.take m)) := by
  rw [← kvCells_take]
  refine ⟨by rw [List.length_take, h.1]; omega, fun h0 => ?_⟩
  obtain ⟨b', o', e, hS, hl, hc⟩ := h.2 (by omega)
  refine ⟨b', o', e, hS, hl, fun j u hu => hc j u ?_⟩
  rw [List.getElem?_take] at hu
  split at hu
  · exact hu
  · cases hu
theorem Rd.sufK {S : Nat → Prop} {w : World} {b o n : Nat} {L : List Kv} (h : Rd S w 4 (some ⟨b, o, none⟩) n (kvCells L)) (hn : n = L.length) (m : Nat) : Rd S w 4 (some ⟨b, o + m * 4, none⟩) (n - m) (kvCells (L.drop m)) := by
  rw [← kvCells_drop]
  refine ⟨by rw [List.length_drop, h.1, Nat.sub_mul], fun h0 => ?_⟩
  obtain ⟨b', o', e, hS, hl, hcc⟩ := h.2 (by omega)
  injection e with e
  injection e with e1 e2 _
  subst e1; subst e2
  refine ⟨b, o + m * 4, rfl, hS, hl, fun j u hu => ?_⟩
  rw [List.getElem?_drop] at hu
  have := hcc _ u hu
  rwa [← Nat.add_assoc] at this
theorem claimE_full' {s : St} {ks : List ByteArray} (hok : s.Ok) (h : (ks.any fun k => !validK k) = false) (h2 : riseB ks = true) {p : Nat} (hp : p < s.parts) (h4 : s.room < cntP s.parts p s.L + moreK s ks p) : claimE s ks = 5 :=
  claimE_full h h2 hp (by have := hok.cnt p hp; omega) h4
section
variable {S : Nat → Prop} {w w' : World} {r : Nat} {s : St}
end
end Go.Proofs.YtnbbdjbjbjlcpaaDoor
