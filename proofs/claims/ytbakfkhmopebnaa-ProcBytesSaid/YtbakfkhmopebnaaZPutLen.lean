/- proc: how many bytes a program has; each is below 256; a row of instructions with one of them changed: plain. -/
import Derived.Test.YtbakfkhmopebnaaZOpen
namespace Go.Proofs.Ytbakfkhmopebnaa
open Go.RowKit
set_option linter.unusedVariables false
set_option linter.unusedSimpArgs false

theorem flat_le {α : Type} (f : α → List Nat) (c : Nat) : ∀ l : List α, (∀ a ∈ l, (f a).length ≤ c) → (l.flatMap f).length ≤ l.length * c := by
  intro l
  induction l with
  | nil => intro _; simp
  | cons a l ih =>
    intro h
    rw [List.flatMap_cons, List.length_append, List.length_cons, Nat.succ_mul]
    have h1 := h a List.mem_cons_self
    have h2 := ih fun b hb => h b (List.mem_cons_of_mem _ hb)
    omega
theorem putU_le (n : Nat) : (putU n).length ≤ 10 := (putF_len 9 n).2
theorem putU_byte {n : Nat} (h : n < 18446744073709551616) : ∀ x ∈ putU n, x < 256 := putF_lt 9 n (by
  have : 128 ^ 9 * 2 = 18446744073709551616 := by decide
  omega)
theorem put_le {p : Pr} (hc : p.check.1 = 0) : p.put.length ≤ 100000 := by
  obtain ⟨ha0, ha8, hcs, hcv, hk0, hk8, hiv⟩ := form_ok (form_of_check hc)
  have h1 := flat_le vput 100 p.cs fun v _ => vput_most v
  have h2 := flat_le iput 11 p.code fun i _ => by have := putU_le i.n.toNat; unfold iput; simp; omega
  have h3 := putU_le p.args.toNat
  have h4 := putU_le p.cs.length
  have h5 := putU_le p.code.length
  unfold Pr.put
  simp only [List.length_append]
  omega
theorem put_lt {p : Pr} (hc : p.check.1 = 0) (hr : ∀ v ∈ p.cs, v.rng) : ∀ x ∈ p.put, x < 256 := by
  have hf := form_of_check hc
  obtain ⟨ha0, ha8, hcs, hcv, hk0, hk8, hiv⟩ := form_ok hf
  intro x hx
  unfold Pr.put at hx
  simp only [List.mem_append, List.mem_flatMap] at hx
  rcases hx with hx | hx | ⟨v, hv, hx⟩ | hx | ⟨i, hi, hx⟩
  · exact putU_byte (by omega) x hx
  · exact putU_byte (by omega) x hx
  · have hz := zig_lt (hr v hv).1 (hr v hv).2
    unfold vput at hx
    rw [if_pos (hcv v hv).1] at hx
    rcases ok_forms (hcv v hv).1 with h | ⟨h1, _⟩ | ⟨h1, _, h3, _⟩
    · exact absurd (by rw [h]; rfl) (hcv v hv).2
    · rw [if_pos h1] at hx
      rcases List.mem_cons.1 hx with rfl | hx
      · omega
      · exact putU_byte hz x hx
    · rw [if_neg (by omega), if_pos h1] at hx
      rcases List.mem_cons.1 hx with rfl | hx
      · omega
      · rcases List.mem_append.1 hx with hx | hx
        · exact putU_byte (by omega) x hx
        · unfold tb at hx
          obtain ⟨b, _, rfl⟩ := List.mem_map.1 hx
          exact UInt8.toNat_lt b
  · exact putU_byte (by omega) x hx
  · obtain ⟨h1, h2, h3⟩ := hiv i hi
    have := most_le hf i.op
    unfold isOp at h1
    simp only [Bool.and_eq_true, decide_eq_true_eq] at h1
    unfold iput at hx
    rcases List.mem_cons.1 hx with rfl | hx
    · omega
    · exact putU_byte (by omega) x hx
theorem icells_set (x : Is) : ∀ (l : List Is) (k : Nat), icells (l.set k x) = ((icells l).set (k * 2) (.int .i64 x.op)).set (k * 2 + 1) (.int .i64 x.n) := by
  intro l
  induction l with
  | nil => intro k; simp [icells]
  | cons a l ih =>
    intro k
    cases k with
    | zero => simp [icells, Is.cells]
    | succ k =>
      have e : (k + 1) * 2 = k * 2 + 2 := by omega
      rw [List.set_cons_succ]
      have h1 : icells (a :: l.set k x) = .int .i64 a.op :: .int .i64 a.n :: icells (l.set k x) := by simp [icells, Is.cells]
      have h2 : icells (a :: l) = .int .i64 a.op :: .int .i64 a.n :: icells l := by simp [icells, Is.cells]
      rw [h1, h2, e, ih k]
      simp
theorem own_set {w : World} {base : Nat} {e : TypeId} {size n c g : Nat} {xs : List Value} (h : w.ownsRow base e size (.slice (some ⟨g, 0, none⟩) n c) n xs) (j : Nat) (hj : j < n * size) (u : Value) : (w.setCell ⟨g, j, none⟩ u).ownsRow base e size (.slice (some ⟨g, 0, none⟩) n c) n (xs.set j u) := by
  refine ⟨by rw [List.length_set]; exact h.1, ?_⟩
  rcases h.2 with ⟨h0, _⟩ | ⟨g', cap, cur, hv, hb, hh, hc, hm, hs, ht⟩
  · cases h0
  · have hg : g' = g := by injection hv with h1; injection h1 with h1; injection h1 with h1; exact h1.symm
    subst hg
    refine .inr ⟨g', cap, cur.setIfInBounds j u, hv, hb, Blk.set_ (t := e) hh j u, hc, hm, by rw [Array.size_setIfInBounds]; exact hs, ?_⟩
    rw [← ht]
    rw [Array.toList_setIfInBounds, List.take_set]
end Go.Proofs.Ytbakfkhmopebnaa
