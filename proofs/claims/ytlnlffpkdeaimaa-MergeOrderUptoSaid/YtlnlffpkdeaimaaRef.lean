/- The document's Merge in memory: New, at, Missing. -/
import Derived.Test.YtlnlffpkdeaimaaTake
import Derived.StillTailTactics
namespace Go.Proofs.Ytlnlffpkdeaimaa
open Go.RowKit
set_option linter.unusedVariables false

theorem flat_len {α : Type} (f : α → List Value) (sz : Nat) (hf : ∀ a, (f a).length = sz) (l : List α) : (l.flatMap f).length = l.length * sz := by
  induction l with
  | nil => simp
  | cons x l ih => simp only [List.flatMap_cons, List.length_append, List.length_cons, ih, hf, Nat.succ_mul]; omega
theorem flat_at {α : Type} (f : α → List Value) (sz : Nat) (hf : ∀ a, (f a).length = sz) (l : List α) (k j : Nat) (h : k < l.length) (hj : j < sz) : (l.flatMap f)[k * sz + j]? = (f l[k])[j]? := by
  induction l generalizing k with
  | nil => simp at h
  | cons x l ih =>
    rw [List.flatMap_cons]
    cases k with
    | zero => rw [List.getElem?_append_left (by rw [hf]; omega)]; simp
    | succ k =>
      rw [List.getElem?_append_right (by rw [hf, Nat.succ_mul]; omega), hf, show (k + 1) * sz + j - sz = k * sz + j by rw [Nat.succ_mul]; omega, ih k (by simpa using h)]
      simp

def hcell (h : (Int × Int) × HV) : List Value := [.int .i64 h.1.2, .int .i64 h.1.1, .slice h.2.A h.2.rs.length h.2.c]
def hcells (L : List ((Int × Int) × HV)) : List Value := L.flatMap hcell
theorem hcells_one (L : List ((Int × Int) × HV)) : ∀ u ∈ hcells L, u.oneCell' = true := by
  intro u hu
  obtain ⟨r, _, hr⟩ := List.mem_flatMap.1 hu
  simp only [hcell, List.mem_cons, List.not_mem_nil, or_false] at hr
  rcases hr with h | h | h <;> subst h <;> rfl
theorem hcells_app (L M : List ((Int × Int) × HV)) : hcells (L ++ M) = hcells L ++ hcells M := by simp [hcells]

structure RAt (S : Nat → Prop) (w : World) (g : Nat) (n e s : Int) (A : Option Addr) (c : Nat) (L : List ((Int × Int) × HV)) : Prop where
  blk : Blk w g 57 #[.int .i64 n, .int .i64 e, .int .i64 s, .slice A L.length c]
  row : OwnS S w 86 3 (.slice A L.length c) L.length (hcells L)
  plans : ∀ h ∈ L, PlansS S w h.2.A h.2.c h.2.rs
  out : ∀ k, S k → k ≠ g ∧ k < w.heap.size
  fits : ∀ h ∈ L, h.2.rs.length ≤ 1000000000 ∧ ∀ r ∈ h.2.rs, r.p.fits
theorem RAt.upd {S : Nat → Prop} {w w' : World} {g : Nat} {n e s : Int} {A : Option Addr} {c : Nat} {L : List ((Int × Int) × HV)} {M : Nat → Prop} (h : RAt S w g n e s A c L) (hu : Upd M w w') (hg : ¬ M g) (hS : ∀ k, S k → ¬ M k) : RAt S w' g n e s A c L where
  blk := h.blk.upd hu hg
  row := h.row.keep fun b hb hl => hu.block b hl (hS b hb)
  plans := fun x hx => (h.plans x hx).keep fun b hb hl => hu.block b hl (hS b hb)
  out := fun k hk => ⟨(h.out k hk).1, Nat.lt_of_lt_of_le (h.out k hk).2 hu.size⟩
  fits := h.fits
theorem RAt.below {S : Nat → Prop} {w w' : World} {g : Nat} {n e s : Int} {A : Option Addr} {c : Nat} {L : List ((Int × Int) × HV)} (h : RAt S w g n e s A c L) (hb : Below w.heap.size w w') : RAt S w' g n e s A c L :=
  h.upd (M := Nil) (.of_below' hb _) id fun _ _ => id
theorem RAt.cells {S : Nat → Prop} {w : World} {g : Nat} {n e s : Int} {A : Option Addr} {c : Nat} {L : List ((Int × Int) × HV)} (h : RAt S w g n e s A c L) : w.cell? ⟨g, 0, none⟩ = some (.int .i64 n) ∧ w.cell? ⟨g, 1, none⟩ = some (.int .i64 e) ∧ w.cell? ⟨g, 2, none⟩ = some (.int .i64 s) ∧ w.cell? ⟨g, 3, none⟩ = some (.slice A L.length c) :=
  ⟨h.blk.cell 0, h.blk.cell 1, h.blk.cell 2, h.blk.cell 3⟩
theorem hrow_at {S : Nat → Prop} {w : World} {A : Option Addr} {L : List ((Int × Int) × HV)} (h : Rd S w 3 A L.length (hcells L)) {k : Nat} (hk : k < L.length) : ∃ b o, A = some ⟨b, o, none⟩ ∧ S b ∧ b < w.heap.size ∧
    w.cell? ⟨b, o + k * 3, none⟩ = some (.int .i64 L[k].1.2) ∧ w.cell? ⟨b, o + k * 3 + 1, none⟩ = some (.int .i64 L[k].1.1) ∧ w.cell? ⟨b, o + k * 3 + 2, none⟩ = some (.slice L[k].2.A L[k].2.rs.length L[k].2.c) := by
  obtain ⟨b, o, e, hS, hl, hc⟩ := h.at_ hk
  have g := fun j (hj : j < 3) u (hu : (hcell L[k])[j]? = some u) => hc (k * 3 + j) u (by rw [hcells, flat_at hcell 3 (fun _ => rfl) L k j hk hj]; exact hu)
  simp only [← Nat.add_assoc] at g
  exact ⟨b, o, e, hS, hl, g 0 (by omega) _ rfl, g 1 (by omega) _ rfl, g 2 (by omega) _ rfl⟩

/-- the place of a key; -1: it is not there -/
def idxA {κ α : Type} [DecidableEq κ] (k : κ) : List (κ × α) → Nat → Int
  | [], _ => -1
  | p :: l, i => if k = p.1 then (i : Int) else idxA k l (i + 1)
theorem idxA_none {κ α : Type} [DecidableEq κ] {k : κ} : ∀ {l : List (κ × α)} {i : Nat}, (∀ j (h : j < l.length), l[j].1 ≠ k) → idxA k l i = -1 := by
  intro l
  induction l with
  | nil => intro i _; rfl
  | cons p l ih =>
    intro i h
    have h0 : k ≠ p.1 := fun e => h 0 (by simp) (by simp [e])
    simp only [idxA, if_neg h0]
    exact ih fun j hj => h (j + 1) (by simpa using hj)
theorem idxA_some {κ α : Type} [DecidableEq κ] {k : κ} : ∀ {l : List (κ × α)} {i m : Nat} (hm : m < l.length), (∀ j (h : j < l.length), j < m → l[j].1 ≠ k) → l[m].1 = k → idxA k l i = (i + m : Nat) := by
  intro l
  induction l with
  | nil => intro i m hm; simp at hm
  | cons p l ih =>
    intro i m hm h he
    cases m with
    | zero => simp at he; simp [idxA, he]
    | succ m =>
      have h0 : k ≠ p.1 := fun e => h 0 (by simp) (by omega) (by simp [e])
      simp only [idxA, if_neg h0]
      rw [ih (m := m) (by simpa using hm) (fun j hj hjm => h (j + 1) (by simpa using hj) (by omega)) (by simpa using he)]
      congr 1; omega
/-- where a key stands: what is there, what it is to take it out -/
theorem idxA_getA {κ α : Type} [DecidableEq κ] (k : κ) : ∀ (l : List (κ × α)) (i : Nat), (getA k l = none ∧ idxA k l i = -1) ∨ ∃ m v, ∃ h : m < l.length, getA k l = some v ∧ idxA k l i = (i + m : Nat) ∧ l[m] = (k, v) ∧ delA k l = l.take m ++ l.drop (m + 1) := by
  intro l
  induction l with
  | nil => intro i; exact .inl ⟨rfl, rfl⟩
  | cons p l ih =>
    intro i
    by_cases h : k = p.1
    · exact .inr ⟨0, p.2, by simp, by simp [getA, h], by simp [idxA, h], by simp [h], by simp [delA, h]⟩
    · rcases ih (i + 1) with ⟨h1, h2⟩ | ⟨m, v, hm, h1, h2, h3, h4⟩
      · exact .inl ⟨by simp [getA, h, h1], by simp [idxA, h, h2]⟩
      · refine .inr ⟨m + 1, v, by simpa using hm, by simp [getA, h, h1], ?_, by simpa using h3, by simp [delA, h, h4]⟩
        simp only [idxA, if_neg h, h2]; congr 1; omega

set_option maxHeartbeats 400000 in
theorem rnew_bad (n : Int) (w : World) (h : n < 1 ∨ 16 < n) :
    Calls Try.prog 16 #[.int .i64 n] w fun e w' => e = .returned (.tuple #[.pointer none, .int .i64 2]) ∧ w = w' := by
  rcases h with h | h
  · go_enter Try.func16, Try.ntmps16
    go_wp2
    go_ret2
    exact ⟨rfl, rfl⟩
  · have h' : ¬ n < 1 := by omega
    go_enter Try.func16, Try.ntmps16
    go_wp2
    go_ret2
    exact ⟨rfl, rfl⟩
set_option maxHeartbeats 400000 in
theorem rnew_ok (n : Int) (w : World) (h1 : 1 ≤ n) (h2 : n ≤ 16) :
    Calls Try.prog 16 #[.int .i64 n] w fun e w' => e = .returned (.tuple #[.pointer (some ⟨w.heap.size, 0, none⟩), .int .i64 0]) ∧ RAt Nil w' w.heap.size n 0 0 none 0 [] ∧ Below w.heap.size w w' := by
  go_enter Try.func16, Try.ntmps16
  go_wp2
  go_ret2
  exact ⟨rfl, ⟨Blk.new _ _ _, ⟨World.ownsRow_nil _ _ _ _, by simp [Value.ownBlock]⟩, by simp, fun k hk => hk.elim, by simp⟩, (Below.refl _ _).alloc (Nat.le_refl _) _⟩

set_option maxHeartbeats 1000000 in
theorem at_any (S : Nat → Prop) (g : Nat) (A : Option Addr) (c : Nat) (L : List ((Int × Int) × HV)) (x t : Int) (w : World) (c3 : w.cell? ⟨g, 3, none⟩ = some (.slice A L.length c)) (hr : Rd S w 3 A L.length (hcells L)) (hl : L.length ≤ 1000000000) :
    Calls Try.prog 33 #[.pointer (some ⟨g, 0, none⟩), .int .i64 x, .int .i64 t] w fun e w' => e = .returned (.int .i64 (idxA (x, t) L 0)) ∧ w = w' := by
  go_enter Try.func33, Try.ntmps33
  go_wp2_with fail
  go_loop [7] (fun i => ∃ k : Nat, i = .int .i64 k ∧ k ≤ L.length ∧ ∀ j (h : j < L.length), j < k → L[j].1 ≠ (x, t)) (fun i => L.length - (intOf i).toNat)
  case atStart => exact ⟨0, rfl, by omega, fun j _ hj => absurd hj (by omega)⟩
  case round =>
    obtain ⟨k, rfl, hk, hall0⟩ := hrel
    have hall := hid hall0
    clear hall0
    by_cases hlt : k < L.length
    · obtain ⟨b, o, rfl, _, hb, a0, a1, _⟩ := hrow_at hr hlt
      have i1 : (k : Int) < (L.length : Int) := by omega
      have step : Hid (L[k].1 ≠ (x, t) → ∀ j (h : j < L.length), j < k + 1 → L[j].1 ≠ (x, t)) := fun hne j h hj => by
        rcases Nat.lt_or_ge j k with g | g
        · exact hall.out j h g
        · obtain rfl : j = k := by omega
          exact hne
      have found : Hid (L[k].1 = (x, t) → idxA (x, t) L 0 = (k : Int)) := fun he => by simpa using idxA_some (i := 0) hlt hall.out he
      clear hr
      by_cases h1 : L[k].1.2 = t
      · have d1 : (L[k].1.2 == t) = true := by simpa using h1
        by_cases h2 : L[k].1.1 = x
        · have d2 : (L[k].1.1 == x) = true := by simpa using h2
          have he : Hid (idxA (x, t) L 0 = (k : Int)) := found.out (by rw [← h1, ← h2])
          clear h1 h2
          go_wp2_with fail
          go_ret
          exact ⟨by rw [he.out]; rfl, rfl⟩
        · have d2 : (L[k].1.1 == x) = false := by simpa using h2
          have hne := hid (step.out fun e => h2 (by rw [e]))
          clear h1 h2
          go_wp2_with fail
          go_round
          case rel => exact ⟨k + 1, by go_num, by omega, hne.out⟩
          case measure => simp [intOf]; omega
      · have d1 : (L[k].1.2 == t) = false := by simpa using h1
        have hne := hid (step.out fun e => h1 (by rw [e]))
        clear h1
        go_wp2_with fail
        go_round
        case rel => exact ⟨k + 1, by go_num, by omega, hne.out⟩
        case measure => simp [intOf]; omega
    · obtain rfl : k = L.length := by omega
      go_wp2_with fail
      go_ret
      exact ⟨by rw [idxA_none (i := 0) fun j h => hall.out j h h]; rfl, rfl⟩

end Go.Proofs.Ytlnlffpkdeaimaa
