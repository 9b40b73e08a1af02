/- Texts of the proof, joined: GList. -/
import Derived.Test.YtbgopicpdpkccaaJ11
namespace Go.Proofs.Ytbgopicpdpkccaa
open Go.RowKit
set_option linter.unusedVariables false
set_option linter.unusedSimpArgs false

def gcells (a : GA) : List Value := [.int .i64 a.kind, .int .i64 a.n, .int .i64 a.slot, .string a.text]
def GActs (w : World) (A : Option Addr) (us : List GA) : Prop := Rd (fun b => b < w.heap.size) w 4 A us.length (us.flatMap gcells)
theorem GActs.below {w w' : World} {A : Option Addr} {us : List GA} (h : GActs w A us) (hb : Below w.heap.size w w') : GActs w' A us :=
  (Rd.keep h fun b _ hl => hb.block b hl).more fun b hb' _ => Nat.lt_of_lt_of_le hb' hb.size
theorem aflat_at {α : Type} (f : α → List Value) (sz : Nat) (hf : ∀ a, (f a).length = sz) (l : List α) (k j : Nat) (h : k < l.length) (hj : j < sz) : (l.flatMap f)[k * sz + j]? = (f l[k])[j]? := by
  induction l generalizing k with
  | nil => simp at h
  | cons x l ih =>
    rw [List.flatMap_cons]
    cases k with
    | zero => rw [List.getElem?_append_left (by rw [hf]; omega)]; simp
    | succ k =>
      rw [List.getElem?_append_right (by rw [hf, Nat.succ_mul]; omega), hf, show (k + 1) * sz + j - sz = k * sz + j by rw [Nat.succ_mul]; omega, ih k (by simpa using h)]
      simp
theorem GActs.at_ {w : World} {A : Option Addr} {us : List GA} {k : Nat} (h : GActs w A us) (hk : k < us.length) : ∃ b o, A = some ⟨b, o, none⟩ ∧ b < w.heap.size ∧
    w.cell? ⟨b, o + k * 4, none⟩ = some (.int .i64 us[k].kind) ∧ w.cell? ⟨b, o + k * 4 + 1, none⟩ = some (.int .i64 us[k].n) ∧ w.cell? ⟨b, o + k * 4 + 2, none⟩ = some (.int .i64 us[k].slot) ∧ w.cell? ⟨b, o + k * 4 + 3, none⟩ = some (.string us[k].text) := by
  obtain ⟨b, o, e, hS, hl, hc⟩ := Rd.at_ h hk
  have g := fun j (hj : j < 4) u (hu : (gcells us[k])[j]? = some u) => hc (k * 4 + j) u (by rw [aflat_at gcells 4 (fun _ => rfl) us k j hk hj]; exact hu)
  simp only [← Nat.add_assoc] at g
  exact ⟨b, o, e, hl, g 0 (by omega) _ rfl, g 1 (by omega) _ rfl, g 2 (by omega) _ rfl, g 3 (by omega) _ rfl⟩
instance decLt (a b : Bal) : Decidable (Bal.lt a b) := by unfold Bal.lt; infer_instance
set_option maxRecDepth 100000 in
theorem below_any (a b : Bal) (w : World) : Calls Try.prog 22 #[.agg #[.int .i64 a.rd, .int .i64 a.nd], .agg #[.int .i64 b.rd, .int .i64 b.nd]] w fun e w' => e = .returned (.bool (decide (Bal.lt a b))) ∧ Below w.heap.size w w' := by
  have hB : Hid (Below w.heap.size w ((w.alloc (.cells #[.int .i64 a.rd, .int .i64 a.nd] 35)).alloc (.cells #[.int .i64 b.rd, .int .i64 b.nd] 35))) := hid (below_two _ _)
  by_cases h1 : a.rd < b.rd
  · have hf : Hid (decide (Bal.lt a b) = true) := hid (decide_eq_true (.inl h1))
    have t1 : decide (a.rd < b.rd) = true := decide_eq_true h1
    go_enter Try.func22, Try.ntmps22
    go_wp2_with fail
    go_ret
    exact ⟨by rw [hf.out]; rfl, hB.out⟩
  · have t1 : decide (a.rd < b.rd) = false := decide_eq_false h1
    by_cases h2 : a.rd = b.rd
    · clear hB
      obtain ⟨ar, an⟩ := a
      obtain ⟨br, bn⟩ := b
      simp only at h1 h2 t1
      subst h2
      have hB : Hid (Below w.heap.size w ((w.alloc (.cells #[.int .i64 ar, .int .i64 an] 35)).alloc (.cells #[.int .i64 ar, .int .i64 bn] 35))) := hid (below_two _ _)
      have hf : Hid (decide (Bal.lt ⟨ar, an⟩ ⟨ar, bn⟩) = decide (an < bn)) := hid (by
        by_cases h3 : an < bn
        · rw [decide_eq_true h3]; exact decide_eq_true (.inr ⟨rfl, h3⟩)
        · rw [decide_eq_false h3]; exact decide_eq_false (by unfold Bal.lt; simp only; omega))
      go_enter Try.func22, Try.ntmps22
      go_wp2_with fail
      go_ret
      exact ⟨by rw [hf.out]; rfl, hB.out⟩
    · have t2 : decide (a.rd = b.rd) = false := decide_eq_false h2
      have hf : Hid (decide (Bal.lt a b) = false) := hid (decide_eq_false (by unfold Bal.lt; omega))
      go_enter Try.func22, Try.ntmps22
      go_wp2_with fail
      go_ret
      exact ⟨by rw [hf.out]; rfl, hB.out⟩
def txts (us : List GA) : Nat := (us.map fun a => a.text.size).sum
/-- what long answers -/
def LongPost (us : List GA) (e : Ending) : Prop := ∃ b, e = .returned (.bool b) ∧ (b = false → us.length ≤ 600)
theorem txts_take (us : List GA) (k : Nat) (h : k < us.length) : txts (us.take (k + 1)) = txts (us.take k) + us[k].text.size := by
  unfold txts
  rw [List.take_succ_eq_append_getElem h, List.map_append, List.sum_append, List.map_cons, List.map_nil, List.sum_cons, List.sum_nil]
  omega
theorem txts_le (us : List GA) (k : Nat) : txts (us.take k) ≤ txts us := by
  unfold txts
  have : ∀ (l : List Nat) (k : Nat), (l.take k).sum ≤ l.sum := by
    intro l
    induction l with
    | nil => intro k; simp
    | cons a l ih =>
      intro k
      cases k with
      | zero => simp
      | succ k => have := ih k; simp; omega
  have h := this (us.map fun a => a.text.size) k
  rwa [← List.map_take] at h
set_option maxRecDepth 100000 in
set_option maxHeartbeats 1000000 in
theorem long_any (A : Option Addr) (c : Nat) (us : List GA) (w : World) (ha : GActs w A us) (hl : us.length ≤ 1048576) (ht : txts us ≤ 1048576) : Calls Try.prog 12 #[.slice A us.length c] w fun e w' => LongPost us e ∧ w' = w := by
  have HL := hid hl
  have HT := hid ht
  have hll : (us.length : Int) ≤ 1048576 := by omega
  clear hl ht
  go_enter Try.func12, Try.ntmps12
  go_wp2_with fail
  go_loopw [3, 4] (fun n' i wr => ∃ k : Nat, k ≤ us.length ∧ (k : Int) ≤ 601 ∧ i = .int .i64 k ∧ n' = .int .i64 (txts (us.take k) : Nat) ∧ wr = w) (fun _ i _ => us.length - (intOf i).toNat)
  case atStart => exact ⟨0, Nat.zero_le _, by omega, rfl, by simp [txts], rfl⟩
  case round =>
    obtain ⟨k, hk, hk6, rfl, rfl, rfl⟩ := hrel
    have hle := txts_le us k
    have j1 : ((txts (us.take k) : Nat) : Int) ≤ 1048576 := by have := HT.out; omega
    clear hle
    by_cases hlt : k < us.length
    · have i1 : (k : Int) < (us.length : Int) := by omega
      by_cases h6 : (k : Int) ≤ 600
      · have t6 : decide ((k : Int) ≤ 600) = true := decide_eq_true h6
        obtain ⟨b, o, rfl, hbl, a0, a1, a2, a3⟩ := ha.at_ hlt
        have hs := hid (txts_take us k hlt)
        have j2 : ((us[k].text.size : Nat) : Int) ≤ 1048576 := by have h1 := hs.out; have h2 := txts_le us (k + 1); have := HT.out; omega
        clear ha
        go_wp2_with fail
        go_roundw
        case rel => exact ⟨k + 1, by omega, by omega, by go_num, by rw [hs.out]; go_num, by first | rfl | trivial⟩
        case measure => simp [intOf]; omega
      · have t6 : decide ((k : Int) ≤ 600) = false := decide_eq_false h6
        have t7 : decide (600 < (us.length : Int)) = true := decide_eq_true (by omega)
        have hno : Hid (600 < us.length) := hid (by omega)
        clear ha
        go_wp2_with fail
        go_ret
        exact ⟨⟨_, rfl, fun h => by cases h⟩, by first | rfl | trivial⟩
    · obtain rfl : k = us.length := by omega
      have hno : Hid (us.length ≤ 601) := hid (by omega)
      clear ha hlt hk
      by_cases t7 : 600 < (us.length : Int)
      · have t8 : decide (600 < (us.length : Int)) = true := decide_eq_true t7
        go_wp2_with fail
        go_ret
        exact ⟨⟨_, rfl, fun h => by cases h⟩, by first | rfl | trivial⟩
      · have t8 : decide (600 < (us.length : Int)) = false := decide_eq_false t7
        have h60 : Hid (us.length ≤ 600) := hid (by omega)
        go_wp2_with fail
        go_ret
        exact ⟨⟨_, rfl, fun _ => h60.out⟩, by first | rfl | trivial⟩

end Go.Proofs.Ytbgopicpdpkccaa

