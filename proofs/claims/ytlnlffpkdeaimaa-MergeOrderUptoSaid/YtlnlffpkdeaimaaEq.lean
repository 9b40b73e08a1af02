/- Slices compared element by element. -/
import Derived.Test.YtlnlffpkdeaimaaBase
import Derived.Test.YtlnlffpkdeaimaaRows
import Derived.Laws.StructEq
namespace Go.Proofs.Ytlnlffpkdeaimaa
open Go.RowKit

/-- are two lists one? (closed to the walk) -/
def eqL {α : Type} [DecidableEq α] (l m : List α) : Bool := decide (l = m)

theorem eqL_len {α : Type} [DecidableEq α] {l m : List α} (h : l.length ≠ m.length) : eqL l m = false := by
  unfold eqL; exact decide_eq_false fun e => h (by rw [e])
theorem eqL_at {α : Type} [DecidableEq α] {l m : List α} {k : Nat} (h1 : k < l.length) (h2 : k < m.length) (h : l[k] ≠ m[k]) : eqL l m = false := by
  unfold eqL; exact decide_eq_false fun e => h (by subst e; rfl)
theorem eqL_all {α : Type} [DecidableEq α] {l m : List α} (hl : l.length = m.length) (h : ∀ j (h1 : j < l.length) (h2 : j < m.length), j < l.length → l[j] = m[j]) : eqL l m = true := by
  unfold eqL; exact decide_eq_true (List.ext_getElem hl fun j h1 h2 => h j h1 h2 h1)
theorem all_step {α : Type} {l m : List α} {k : Nat} (h : ∀ j (h1 : j < l.length) (h2 : j < m.length), j < k → l[j] = m[j]) (h1 : k < l.length) (h2 : k < m.length) (e : l[k] = m[k]) :
    ∀ j (h1 : j < l.length) (h2 : j < m.length), j < k + 1 → l[j] = m[j] := by
  intro j a b hj
  rcases Nat.lt_or_ge j k with g | g
  · exact h j a b g
  · obtain rfl : j = k := by omega
    exact e

/-- a value's three cells -/
structure Val where
  kind : Int
  int : Int
  text : ByteArray
deriving DecidableEq
def Val.cells (v : Val) : List Value := [.int .i64 v.kind, .int .i64 v.int, .string v.text]
def vcells (l : List Val) : List Value := l.flatMap Val.cells
theorem vcells_len (l : List Val) : (vcells l).length = l.length * 3 := by
  induction l with
  | nil => rfl
  | cons x l ih => simp only [vcells, List.flatMap_cons, List.length_append, List.length_cons] at *; rw [ih]; simp [Val.cells]; omega
theorem vcells_at (l : List Val) (k : Nat) (h : k < l.length) : (vcells l)[k * 3]? = some (.int .i64 l[k].kind) ∧ (vcells l)[k * 3 + 1]? = some (.int .i64 l[k].int) ∧ (vcells l)[k * 3 + 2]? = some (.string l[k].text) := by
  induction l generalizing k with
  | nil => simp at h
  | cons x l ih =>
    cases k with
    | zero => simp [vcells, Val.cells]
    | succ k =>
      have := ih k (by simpa using h)
      have e : vcells (x :: l) = .int .i64 x.kind :: .int .i64 x.int :: .string x.text :: vcells l := rfl
      rw [e, show (k + 1) * 3 = k * 3 + 3 by omega]
      simpa [Nat.add_assoc] using this
theorem val_ne {a b : Val} (h : a.kind ≠ b.kind ∨ a.int ≠ b.int ∨ a.text ≠ b.text) : a ≠ b := by
  rintro rfl; simp at h
theorem val_eq {a b : Val} (h1 : a.kind = b.kind) (h2 : a.int = b.int) (h3 : a.text = b.text) : a = b := by
  cases a; cases b; simp_all

def eqV (a b : Val) : Bool := decide (a = b)
theorem eqV_no {a b : Val} (h : (!eqV a b) = true) : a ≠ b := by unfold eqV at h; simpa using h
theorem eqV_yes {a b : Val} (h : (!eqV a b) = false) : a = b := by unfold eqV at h; simpa using h
theorem eqV_mk (a b : Val) : eqV a b = (a.kind == b.kind && a.int == b.int && a.text.toList == b.text.toList) := by
  unfold eqV
  rw [Bool.eq_iff_iff]
  simp only [decide_eq_true_eq, Bool.and_eq_true, beq_iff_eq]
  exact ⟨fun e => by subst e; simp, fun ⟨⟨h1, h2⟩, h3⟩ => val_eq h1 h2 (ba_inj h3)⟩

theorem run_eqVal (a b : Val) (w : World) :
    (Op.equalIn 10000 88 (.agg #[.int .i64 a.kind, .int .i64 a.int, .string a.text]) (.agg #[.int .i64 b.kind, .int .i64 b.int, .string b.text])).run Try.prog w = .ok (eqV a b) w := by
  have ht : Try.prog.underlying 88 = some (.struct (Try.prog.fieldsOf 88)) := by kernel_rfl
  have hp : Try.prog.stoodInHeld 88 = false := by kernel_rfl
  rw [run_equalIn_agg w 9999 _ _ _ ht hp, eqV_mk]
  clear ht hp
  simp only [Program.fieldsOf, Try.underlying88]
  go_simp
  by_cases h1 : a.kind = b.kind <;> by_cases h2 : a.int = b.int <;> by_cases h3 : a.text.toList = b.text.toList <;> simp [h1, h2, h3]
theorem run_neqV (a b : Val) (w : World) :
    (binOp .neq 88 (.agg #[.int .i64 a.kind, .int .i64 a.int, .string a.text]) (.agg #[.int .i64 b.kind, .int .i64 b.int, .string b.text])).run Try.prog w = .ok (.bool (!eqV a b)) w := by
  rw [run_neq_struct, run_eqVal]; rfl
theorem guardV : Try.prog.eqGuardType Try.prog.depth 88 = false := by kernel_rfl

set_option maxHeartbeats 400000 in
theorem texts_any (S S' : Nat → Prop) (A B : Option Addr) (l m : List ByteArray) (c d : Nat) (w : World) (ha : Rd S w 1 A l.length (l.map .string)) (hb : Rd S' w 1 B m.length (m.map .string))
    (hl : l.length ≤ maxLen) (hm : m.length ≤ maxLen) :
    Calls Try.prog 41 #[.slice A l.length c, .slice B m.length d] w fun e w' => e = .returned (.bool (eqL l m)) ∧ ∃ k, w' = w.drewN k := by
  unfold maxLen at hl hm
  go_enter Try.func41, Try.ntmps41
  go_wp2
  · have h : ((l.length : Int) != (m.length : Int)) = true := by assumption
    go_ret
    exact ⟨by rw [eqL_len (by intro e; rw [e] at h; simp at h)]; rfl, 0, rfl⟩
  · have h : ((l.length : Int) != (m.length : Int)) = false := by assumption
    have hlen : Hid (l.length = m.length) := by
      have : (l.length : Int) = m.length := by simpa using h
      exact hid (by omega)
    have hle : l.length ≤ m.length := by have := hlen.out; omega
    go_loopw [5] (fun i wr => ∃ k q : Nat, k ≤ l.length ∧ i = .int .i64 k ∧ wr = w.drewN q ∧ ∀ j (h1 : j < l.length) (h2 : j < m.length), j < k → l[j] = m[j]) (fun i _ => l.length - (intOf i).toNat)
    case atStart => exact ⟨0, 0, by omega, rfl, rfl, fun j _ _ hj => absurd hj (by omega)⟩
    case round =>
      obtain ⟨k, q, hk, rfl, rfl, hall0⟩ := hrel
      have hall := hid hall0
      clear hall0
      by_cases hlt : k < l.length
      · have hlt2 : k < m.length := by omega
        obtain ⟨b1, o1, rfl, _, hb1, hc1⟩ := ha.at_ hlt
        obtain ⟨b2, o2, rfl, _, hb2, hc2⟩ := hb.at_ hlt2
        have e1 := hc1 k (.string l[k]) (by simp [hlt])
        have e2 := hc2 k (.string m[k]) (by simp [hlt2])
        have i1 : (k : Int) < (l.length : Int) := by omega
        have i2 : (k : Int) < (m.length : Int) := by omega
        clear hc1 hc2 ha hb
        go_wp2_with fail
        go_quiet (fail)
        go_wp2
        · have hne : l[k] ≠ m[k] := ba_ne (by assumption)
          go_ret
          exact ⟨by rw [eqL_at hlt hlt2 hne]; rfl, _, World.drewN_drewN _ _ _⟩
        · have he : l[k] = m[k] := ba_eq (by assumption)
          go_roundw
          case rel => exact ⟨k + 1, _, by omega, by go_num, rfl, all_step hall.out hlt hlt2 he⟩
          case measure => simp [intOf]; omega
      · obtain rfl : k = l.length := by omega
        go_wp2
        go_ret
        exact ⟨by rw [eqL_all hlen.out hall.out]; rfl, q, rfl⟩

set_option maxHeartbeats 400000 in
theorem eqS_any (S S' : Nat → Prop) (A B : Option Addr) (l m : List ByteArray) (c d : Nat) (w : World) (ha : Rd S w 1 A l.length (l.map .string)) (hb : Rd S' w 1 B m.length (m.map .string))
    (hl : l.length ≤ maxLen) (hm : m.length ≤ maxLen) :
    Calls Try.prog 36 #[.slice A l.length c, .slice B m.length d] w fun e w' => e = .returned (.bool (eqL l m)) ∧ ∃ k, w' = w.drewN k := by
  unfold maxLen at hl hm
  go_enter Try.func36, Try.ntmps36
  go_wp2
  · have h : ((l.length : Int) != (m.length : Int)) = true := by assumption
    go_ret
    exact ⟨by rw [eqL_len (by intro e; rw [e] at h; simp at h)]; rfl, 0, rfl⟩
  · have h : ((l.length : Int) != (m.length : Int)) = false := by assumption
    have hlen : Hid (l.length = m.length) := by
      have : (l.length : Int) = m.length := by simpa using h
      exact hid (by omega)
    have hle : l.length ≤ m.length := by have := hlen.out; omega
    go_loopw [13] (fun i wr => ∃ k q : Nat, k ≤ l.length ∧ i = .int .i64 k ∧ wr = w.drewN q ∧ ∀ j (h1 : j < l.length) (h2 : j < m.length), j < k → l[j] = m[j]) (fun i _ => l.length - (intOf i).toNat)
    case atStart => exact ⟨0, 0, by omega, rfl, rfl, fun j _ _ hj => absurd hj (by omega)⟩
    case round =>
      obtain ⟨k, q, hk, rfl, rfl, hall0⟩ := hrel
      have hall := hid hall0
      clear hall0
      by_cases hlt : k < l.length
      · have hlt2 : k < m.length := by omega
        obtain ⟨b1, o1, rfl, _, hb1, hc1⟩ := ha.at_ hlt
        obtain ⟨b2, o2, rfl, _, hb2, hc2⟩ := hb.at_ hlt2
        have e1 := hc1 k (.string l[k]) (by simp [hlt])
        have e2 := hc2 k (.string m[k]) (by simp [hlt2])
        have i1 : (k : Int) < (l.length : Int) := by omega
        have i2 : (k : Int) < (m.length : Int) := by omega
        clear hc1 hc2 ha hb
        go_wp2_with fail
        go_quiet (fail)
        go_wp2
        · have hne : l[k] ≠ m[k] := ba_ne (by assumption)
          go_ret
          exact ⟨by rw [eqL_at hlt hlt2 hne]; rfl, _, World.drewN_drewN _ _ _⟩
        · have he : l[k] = m[k] := ba_eq (by assumption)
          go_roundw
          case rel => exact ⟨k + 1, _, by omega, by go_num, rfl, all_step hall.out hlt hlt2 he⟩
          case measure => simp [intOf]; omega
      · obtain rfl : k = l.length := by omega
        go_wp2
        go_ret
        exact ⟨by rw [eqL_all hlen.out hall.out]; rfl, q, rfl⟩

set_option maxHeartbeats 400000 in
theorem values_any (S S' : Nat → Prop) (A B : Option Addr) (l m : List Val) (c d : Nat) (w : World) (ha : Rd S w 3 A l.length (vcells l)) (hb : Rd S' w 3 B m.length (vcells m))
    (hl : l.length ≤ maxLen) (hm : m.length ≤ maxLen) :
    Calls Try.prog 40 #[.slice A l.length c, .slice B m.length d] w fun e w' => e = .returned (.bool (eqL l m)) ∧ ∃ k, w' = w.drewN k := by
  unfold maxLen at hl hm
  go_enter Try.func40, Try.ntmps40
  go_wp2
  · have h : ((l.length : Int) != (m.length : Int)) = true := by assumption
    go_ret
    exact ⟨by rw [eqL_len (by intro e; rw [e] at h; simp at h)]; rfl, 0, rfl⟩
  · have h : ((l.length : Int) != (m.length : Int)) = false := by assumption
    have hlen : Hid (l.length = m.length) := by
      have : (l.length : Int) = m.length := by simpa using h
      exact hid (by omega)
    have hle : l.length ≤ m.length := by have := hlen.out; omega
    go_loopw [5] (fun i wr => ∃ k q : Nat, k ≤ l.length ∧ i = .int .i64 k ∧ wr = w.drewN q ∧ ∀ j (h1 : j < l.length) (h2 : j < m.length), j < k → l[j] = m[j]) (fun i _ => l.length - (intOf i).toNat)
    case atStart => exact ⟨0, 0, by omega, rfl, rfl, fun j _ _ hj => absurd hj (by omega)⟩
    case round =>
      obtain ⟨k, q, hk, rfl, rfl, hall0⟩ := hrel
      have hall := hid hall0
      clear hall0
      by_cases hlt : k < l.length
      · have hlt2 : k < m.length := by omega
        obtain ⟨b1, o1, rfl, _, hb1, hc1⟩ := ha.at_ hlt
        obtain ⟨b2, o2, rfl, _, hb2, hc2⟩ := hb.at_ hlt2
        obtain ⟨x0, x1, x2⟩ := vcells_at l k hlt
        obtain ⟨y0, y1, y2⟩ := vcells_at m k hlt2
        have e10 := hc1 _ _ x0
        have e11 := hc1 _ _ x1
        have e12 := hc1 _ _ x2
        have e20 := hc2 _ _ y0
        have e21 := hc2 _ _ y1
        have e22 := hc2 _ _ y2
        simp only [← Nat.add_assoc] at e11 e12 e21 e22
        clear x0 x1 x2 y0 y1 y2
        have i1 : (k : Int) < (l.length : Int) := by omega
        have i2 : (k : Int) < (m.length : Int) := by omega
        clear hc1 hc2 ha hb
        have hneq := fun w => run_neqV l[k] m[k] w
        have hgd := guardV
        go_wp2_with fail
        go_quiet (fail)
        go_wp2
        · have hne : l[k] ≠ m[k] := eqV_no (by assumption)
          go_ret
          exact ⟨by rw [eqL_at hlt hlt2 hne]; rfl, _, World.drewN_drewN _ _ _⟩
        · have he : l[k] = m[k] := eqV_yes (by assumption)
          go_roundw
          case rel => exact ⟨k + 1, _, by omega, by go_num, rfl, all_step hall.out hlt hlt2 he⟩
          case measure => simp [intOf]; omega
      · obtain rfl : k = l.length := by omega
        go_wp2
        go_ret
        exact ⟨by rw [eqL_all hlen.out hall.out]; rfl, q, rfl⟩

set_option maxHeartbeats 400000 in
theorem eqV_any (S S' : Nat → Prop) (A B : Option Addr) (l m : List Val) (c d : Nat) (w : World) (ha : Rd S w 3 A l.length (vcells l)) (hb : Rd S' w 3 B m.length (vcells m))
    (hl : l.length ≤ maxLen) (hm : m.length ≤ maxLen) :
    Calls Try.prog 42 #[.slice A l.length c, .slice B m.length d] w fun e w' => e = .returned (.bool (eqL l m)) ∧ ∃ k, w' = w.drewN k := by
  unfold maxLen at hl hm
  go_enter Try.func42, Try.ntmps42
  go_wp2
  · have h : ((l.length : Int) != (m.length : Int)) = true := by assumption
    go_ret
    exact ⟨by rw [eqL_len (by intro e; rw [e] at h; simp at h)]; rfl, 0, rfl⟩
  · have h : ((l.length : Int) != (m.length : Int)) = false := by assumption
    have hlen : Hid (l.length = m.length) := by
      have : (l.length : Int) = m.length := by simpa using h
      exact hid (by omega)
    have hle : l.length ≤ m.length := by have := hlen.out; omega
    go_loopw [13] (fun i wr => ∃ k q : Nat, k ≤ l.length ∧ i = .int .i64 k ∧ wr = w.drewN q ∧ ∀ j (h1 : j < l.length) (h2 : j < m.length), j < k → l[j] = m[j]) (fun i _ => l.length - (intOf i).toNat)
    case atStart => exact ⟨0, 0, by omega, rfl, rfl, fun j _ _ hj => absurd hj (by omega)⟩
    case round =>
      obtain ⟨k, q, hk, rfl, rfl, hall0⟩ := hrel
      have hall := hid hall0
      clear hall0
      by_cases hlt : k < l.length
      · have hlt2 : k < m.length := by omega
        obtain ⟨b1, o1, rfl, _, hb1, hc1⟩ := ha.at_ hlt
        obtain ⟨b2, o2, rfl, _, hb2, hc2⟩ := hb.at_ hlt2
        obtain ⟨x0, x1, x2⟩ := vcells_at l k hlt
        obtain ⟨y0, y1, y2⟩ := vcells_at m k hlt2
        have e10 := hc1 _ _ x0
        have e11 := hc1 _ _ x1
        have e12 := hc1 _ _ x2
        have e20 := hc2 _ _ y0
        have e21 := hc2 _ _ y1
        have e22 := hc2 _ _ y2
        simp only [← Nat.add_assoc] at e11 e12 e21 e22
        clear x0 x1 x2 y0 y1 y2
        have i1 : (k : Int) < (l.length : Int) := by omega
        have i2 : (k : Int) < (m.length : Int) := by omega
        clear hc1 hc2 ha hb
        have hneq := fun w => run_neqV l[k] m[k] w
        have hgd := guardV
        go_wp2_with fail
        go_quiet (fail)
        go_wp2
        · have hne : l[k] ≠ m[k] := eqV_no (by assumption)
          go_ret
          exact ⟨by rw [eqL_at hlt hlt2 hne]; rfl, _, World.drewN_drewN _ _ _⟩
        · have he : l[k] = m[k] := eqV_yes (by assumption)
          go_roundw
          case rel => exact ⟨k + 1, _, by omega, by go_num, rfl, all_step hall.out hlt hlt2 he⟩
          case measure => simp [intOf]; omega
      · obtain rfl : k = l.length := by omega
        go_wp2
        go_ret
        exact ⟨by rw [eqL_all hlen.out hall.out]; rfl, q, rfl⟩

end Go.Proofs.Ytlnlffpkdeaimaa
