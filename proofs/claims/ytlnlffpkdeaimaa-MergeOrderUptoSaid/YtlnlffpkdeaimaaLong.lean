/- Acts in memory; parts, long. -/
import Derived.Test.YtlnlffpkdeaimaaSpoil
namespace Go.Proofs.Ytlnlffpkdeaimaa
open Go.RowKit
set_option linter.unusedVariables false

structure AR where
  take : Bool
  s : Int
  x : Int
  A : Option Addr
  c : Nat
  rs : List RP
def acells (a : AR) : List Value := [.bool a.take, .int .i64 a.s, .int .i64 a.x, .slice a.A a.rs.length a.c]
structure ActsOk (S : Nat → Prop) (w : World) (A : Option Addr) (us : List AR) : Prop where
  row : Rd S w 4 A us.length (us.flatMap acells)
  ok : ∀ a ∈ us, PlansOk S w a.A a.rs
theorem ActsOk.keep {S : Nat → Prop} {w w' : World} {A : Option Addr} {us : List AR} (h : ActsOk S w A us) (hk : ∀ b, S b → b < w.heap.size → w'.heap[b]? = w.heap[b]?) : ActsOk S w' A us := ⟨h.row.keep hk, fun a ha => (h.ok a ha).keep hk⟩
theorem ActsOk.below {S : Nat → Prop} {w w' : World} {A : Option Addr} {us : List AR} (h : ActsOk S w A us) (hb : Below w.heap.size w w') : ActsOk S w' A us := h.keep fun b _ hl => hb.block b hl
theorem aflat_len {α : Type} (f : α → List Value) (sz : Nat) (hf : ∀ a, (f a).length = sz) (l : List α) (k j : Nat) (h : k < l.length) (hj : j < sz) : (l.flatMap f)[k * sz + j]? = (f l[k])[j]? := by
  induction l generalizing k with
  | nil => simp at h
  | cons x l ih =>
    rw [List.flatMap_cons]
    cases k with
    | zero => rw [List.getElem?_append_left (by rw [hf]; omega)]; simp
    | succ k =>
      rw [List.getElem?_append_right (by rw [hf, Nat.succ_mul]; omega), hf, show (k + 1) * sz + j - sz = k * sz + j by rw [Nat.succ_mul]; omega, ih k (by simpa using h)]
      simp
theorem ActsOk.at_ {S : Nat → Prop} {w : World} {A : Option Addr} {us : List AR} {k : Nat} (h : ActsOk S w A us) (hk : k < us.length) : ∃ b o, A = some ⟨b, o, none⟩ ∧ S b ∧ b < w.heap.size ∧ PlansOk S w us[k].A us[k].rs ∧
    w.cell? ⟨b, o + k * 4, none⟩ = some (.bool us[k].take) ∧ w.cell? ⟨b, o + k * 4 + 1, none⟩ = some (.int .i64 us[k].s) ∧ w.cell? ⟨b, o + k * 4 + 2, none⟩ = some (.int .i64 us[k].x) ∧ w.cell? ⟨b, o + k * 4 + 3, none⟩ = some (.slice us[k].A us[k].rs.length us[k].c) := by
  obtain ⟨b, o, e, hS, hl, hc⟩ := h.row.at_ hk
  have g := fun j (hj : j < 4) u (hu : (acells us[k])[j]? = some u) => hc (k * 4 + j) u (by rw [aflat_len acells 4 (fun _ => rfl) us k j hk hj]; exact hu)
  simp only [← Nat.add_assoc] at g
  exact ⟨b, o, e, hS, hl, h.ok _ (List.getElem_mem hk), g 0 (by omega) _ rfl, g 1 (by omega) _ rfl, g 2 (by omega) _ rfl, g 3 (by omega) _ rfl⟩

def partN (r : RP) : Nat := 1 + r.p.args.length + r.p.rd.length + r.p.wr.length
def partsL (rs : List RP) : Nat := 1 + (rs.map partN).sum
theorem partsL_take (rs : List RP) (k : Nat) (h : k < rs.length) : partsL (rs.take (k + 1)) = partsL (rs.take k) + partN rs[k] := by
  unfold partsL
  rw [List.take_succ_eq_append_getElem h, List.map_append, List.sum_append, List.map_cons, List.map_nil, List.sum_cons, List.sum_nil]
  omega
theorem sum_take_le (l : List Nat) (k : Nat) : (l.take k).sum ≤ l.sum := by
  induction l generalizing k with
  | nil => simp
  | cons a l ih =>
    cases k with
    | zero => simp
    | succ k => have := ih k; simp; omega
theorem partsL_le (rs : List RP) (k : Nat) : partsL (rs.take k) ≤ partsL rs := by
  unfold partsL
  have := sum_take_le (rs.map partN) k
  rw [← List.map_take] at this
  omega

set_option maxRecDepth 100000 in
set_option maxHeartbeats 1000000 in
theorem parts_any (S : Nat → Prop) (A : Option Addr) (x : Int) (c : Nat) (rs : List RP) (w : World) (ha : PlansOk S w A rs) (hl : rs.length ≤ 1000000000) (hp : partsL rs ≤ 100000000) :
    Calls Try.prog 27 #[.agg #[.int .i64 x, .slice A rs.length c]] w fun e w' => e = .returned (.int .i64 (partsL rs)) ∧ Below w.heap.size w w' := by
  have hp := hid hp
  go_enter Try.func27, Try.ntmps27
  go_wp2_with fail
  go_loopw [3, 4] (fun n i wr => ∃ k : Nat, k ≤ rs.length ∧ i = .int .i64 k ∧ n = .int .i64 (partsL (rs.take k)) ∧ Below w.heap.size w wr ∧ Blk wr w.heap.size 34 #[.int .i64 x, .slice A rs.length c]) (fun _ i _ => rs.length - (intOf i).toNat)
  case atStart => exact ⟨0, Nat.zero_le _, rfl, by simp [partsL], (Below.refl _ _).alloc (Nat.le_refl _) _, Blk.new _ _ _⟩
  case round =>
    obtain ⟨k, hk, rfl, rfl, hB, kb⟩ := hrel
    have b1 : wr.cell? ⟨w.heap.size, 1, none⟩ = some (.slice A rs.length c) := kb.cell 1
    have hz := kb.lt
    by_cases hlt : k < rs.length
    · obtain ⟨b, o, rfl, _, hb1, r1, a0, a1, a2, a3, a4, a5, a6⟩ := (ha.below hB).at_ hlt
      have i1 : (k : Int) < (rs.length : Int) := by omega
      have hs := partsL_take rs k hlt
      have hle := partsL_le rs (k + 1)
      have hle2 := partsL_le rs k
      have hp' := hp.out
      have hpn : partN rs[k] = 1 + rs[k].p.args.length + rs[k].p.rd.length + rs[k].p.wr.length := rfl
      have j1 : ((partsL (rs.take k) : Nat) : Int) ≤ 100000000 := by omega
      have j2 : (rs[k].p.args.length : Int) ≤ 100000000 := by omega
      have j3 : (rs[k].p.rd.length : Int) ≤ 100000000 := by omega
      have j4 : (rs[k].p.wr.length : Int) ≤ 100000000 := by omega
      have hfin : Hid (((partsL (rs.take (k + 1)) : Nat) : Int) = (partsL (rs.take k) : Int) + 1 + rs[k].p.args.length + rs[k].p.rd.length + rs[k].p.wr.length) := by
        have : ((partsL (rs.take (k + 1)) : Nat) : Int) = (partsL (rs.take k) : Int) + 1 + rs[k].p.args.length + rs[k].p.rd.length + rs[k].p.wr.length := by rw [hs, hpn]; omega
        exact hid this
      clear ha hs hle hle2 hp' hpn
      go_wp2_with fail
      go_roundw
      case rel => exact ⟨k + 1, by omega, by go_num, by rw [hfin.out], hB.alloc hB.size _, kb.alloc _⟩
      case measure => simp [intOf]; omega
    · obtain rfl : k = rs.length := by omega
      go_wp2_with fail
      go_ret
      exact ⟨by rw [List.take_length]; rfl, hB⟩

def partsAll (us : List AR) : Nat := (us.map fun a => partsL a.rs).sum
theorem partsAll_take (us : List AR) (k : Nat) (h : k < us.length) : partsAll (us.take (k + 1)) = partsAll (us.take k) + partsL us[k].rs := by
  unfold partsAll
  rw [List.take_succ_eq_append_getElem h, List.map_append, List.sum_append, List.map_cons, List.map_nil, List.sum_cons, List.sum_nil]
  omega
theorem partsAll_le (us : List AR) (k : Nat) : partsAll (us.take k) ≤ partsAll us := by
  unfold partsAll
  have := sum_take_le (us.map fun a => partsL a.rs) k
  rwa [← List.map_take] at this
/-- some bool; nothing that was there has turned -/
def SomeBool (w : World) (e : Ending) (w' : World) : Prop := ∃ b : Bool, e = .returned (.bool b) ∧ Below w.heap.size w w'

set_option maxRecDepth 100000 in
set_option maxHeartbeats 1000000 in
theorem long_any (S : Nat → Prop) (A : Option Addr) (c : Nat) (us : List AR) (w : World) (ha : ActsOk S w A us) (hl : us.length ≤ 100000000) (hp : partsAll us ≤ 100000000) (hr : ∀ a ∈ us, a.rs.length ≤ 1000000000) :
    Calls Try.prog 9 #[.slice A us.length c] w (SomeBool w) := by
  have hp := hid hp
  go_enter Try.func9, Try.ntmps9
  go_wp2_with fail
  go_loopw [3, 4] (fun n i wr => ∃ k : Nat, k ≤ us.length ∧ i = .int .i64 k ∧ n = .int .i64 (partsAll (us.take k)) ∧ Below w.heap.size w wr) (fun _ i _ => us.length - (intOf i).toNat)
  case atStart => exact ⟨0, Nat.zero_le _, rfl, by simp [partsAll], Below.refl _ _⟩
  case round =>
    obtain ⟨k, hk, rfl, rfl, hB⟩ := hrel
    have hle2 := partsAll_le us k
    have hp' := hp.out
    have j1 : ((partsAll (us.take k) : Nat) : Int) ≤ 100000000 := by omega
    have fin : ∀ b : Bool, SomeBool w (.returned (.bool b)) wr := fun b => ⟨b, rfl, hB⟩
    have fin := hid fin
    clear hle2 hp'
    by_cases hlt : k < us.length
    · by_cases hn : ((partsAll (us.take k) : Nat) : Int) ≤ 20000
      · obtain ⟨b, o, rfl, _, hb1, r1, a0, a1, a2, a3⟩ := (ha.below hB).at_ hlt
        have i1 : (k : Int) < (us.length : Int) := by omega
        have hs := partsAll_take us k hlt
        have hle := partsAll_le us (k + 1)
        have hp' := hp.out
        have j2 : ((partsL us[k].rs : Nat) : Int) ≤ 100000000 := by omega
        have j3 : partsL us[k].rs ≤ 100000000 := by omega
        have hfin : Hid (((partsAll (us.take (k + 1)) : Nat) : Int) = (partsAll (us.take k) : Int) + (partsL us[k].rs : Int)) := by
          have : ((partsAll (us.take (k + 1)) : Nat) : Int) = (partsAll (us.take k) : Int) + (partsL us[k].rs : Int) := by rw [hs]; omega
          exact hid this
        have hrl := hr _ (List.getElem_mem hlt)
        clear ha hs hle hp' hr
        go_wp2_with (go_at_call 27; refine (parts_any S _ _ _ us[k].rs _ r1 hrl j3).mono ?_; rintro e w1 ⟨rfl, hb2⟩)
        go_roundw
        case rel => exact ⟨k + 1, by omega, by go_num, by rw [hfin.out], hB.trans (hb2.mono hB.size)⟩
        case measure => simp [intOf]; omega
      · have i1 : (k : Int) < (us.length : Int) := by omega
        have hd : decide (((partsAll (us.take k) : Nat) : Int) ≤ 20000) = false := by simpa using hn
        go_wp2_with fail
        all_goals go_ret
        all_goals exact fin.out _
    · obtain rfl : k = us.length := by omega
      go_wp2_with fail
      all_goals go_ret
      all_goals exact fin.out _

end Go.Proofs.Ytlnlffpkdeaimaa
