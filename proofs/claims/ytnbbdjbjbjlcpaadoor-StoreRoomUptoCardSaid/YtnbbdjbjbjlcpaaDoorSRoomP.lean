/- store: StoreRoom: plain law; Claims. -/
import Derived.Test.YtnbbdjbjbjlcpaaDoorSBytes
import Derived.Test.YtnbbdjbjbjlcpaaDoorSClaim
import Derived.Test.YtnbbdjbjbjlcpaaDoorSApply
namespace Go.Proofs.YtnbbdjbjbjlcpaaDoor
open Go.RowKit
set_option linter.unusedVariables false
set_option linter.unusedSimpArgs false

def RngL (L : List Kv) : Prop := ∀ x ∈ L, x.2.rng
theorem rng_vl0 : vl0.rng := by unfold Vl.rng vl0; constructor <;> decide
theorem rng_claim {s : St} {ks : List ByteArray} (h : RngL s.L) : RngL (claimS s ks).L := by
  unfold claimS
  split
  · intro x hx
    rcases insAll_mem hx with ⟨_, e⟩ | hx
    · rw [e]; exact rng_vl0
    · exact h x hx
  · exact h
theorem rng_upAll : ∀ {ws : List Wr} {L : List Kv}, RngL L → (∀ x ∈ ws, x.v.rng) → RngL (upAll L ws)
  | [], L, h, _ => h
  | x :: ws, L, h, hw => rng_upAll (ws := ws) (L := upK x.key x.v L) (fun y hy => by
      rcases up_mem hy with ⟨_, e⟩ | hy
      · rw [e]; exact hw x (List.mem_cons_self ..)
      · exact h y hy) fun y hy => hw y (List.mem_cons_of_mem _ hy)
theorem rng_apply {s : St} {ws : List Wr} (h : RngL s.L) (hw : ∀ x ∈ ws, x.v.rng) : RngL (applyS s ws).L := by
  unfold applyS
  split
  · exact rng_upAll h hw
  · exact h
theorem wrE_ne5 (s : St) (ws : List Wr) (i : Nat) : wrE s ws i ≠ 5 := by
  unfold wrE
  simp only
  split
  · decide
  · split
    · decide
    · split
      · decide
      · split
        · decide
        · split <;> decide
theorem claim_has {s : St} {ks : List ByteArray} (h : claimE s ks = 0) {k : ByteArray} (hk : k ∈ ks) : hasK k (claimS s ks).L = true := by
  unfold claimS
  rw [if_pos h]
  show hasK k (insAll s.L ks) = true
  rw [insAll_has]
  have : ks.any (fun j => decide (j = k)) = true := List.any_eq_true.2 ⟨k, hk, by simp⟩
  rw [this]; rfl
section
variable {S : Nat → Prop} {w : World} {g : Nat} {s : St}
set_option maxRecDepth 100000 in
theorem claims_any (h : PAt S w g s) (p : Nat) (hp : p < s.parts) : Calls Tryd.prog 14 #[.pointer (some ⟨g, 0, none⟩), .int .i64 p] w fun e w' => e = .returned (.int .i64 (cntP s.parts p s.L)) ∧ w' = w := by
  have hpt := hid (parts_any h)
  obtain ⟨cb, cc, mb, vb, h⟩ := h
  have c1 := h.cells.2.1
  have y0 := h.rowc p hp
  have hsz := fun ty => h.size p hp ty
  have t1 : decide ((p : Int) < 0) = false := decide_eq_false (by omega)
  have t2 : decide ((s.parts : Int) ≤ (p : Int)) = false := decide_eq_false (by omega)
  have t3 : decide (s.parts ≤ p) = false := decide_eq_false (by omega)
  have i1 : (p : Int) < (s.parts : Int) := by omega
  clear h hp
  go_enter Tryd.func14, Tryd.ntmps14
  go_wp2_with fail
  refine hpt.out.mono ?_
  rintro e wq ⟨rfl, hwq⟩
  obtain rfl := hwq.symm
  go_wp2_with fail
  go_ret
  exact ⟨rfl, rfl⟩
end
end Go.Proofs.YtnbbdjbjbjlcpaaDoor
