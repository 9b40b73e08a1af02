/- A story's acts in memory; long. -/
import Derived.Test.YtnbbdjbjbjlcpaaDoorSApply
namespace Go.Proofs.YtnbbdjbjbjlcpaaDoor
open Go.RowKit
set_option linter.unusedVariables false
set_option linter.unusedSimpArgs false

/-- an act -/
structure SA where
  kind : Int
  ks : List ByteArray
  ws : List Wr
  A1 : Option Addr
  c1 : Nat
  A2 : Option Addr
  c2 : Nat
def scells (a : SA) : List Value := [.int .i64 a.kind, .slice a.A1 a.ks.length a.c1, .slice a.A2 a.ws.length a.c2]
def SA.ok (S : Nat → Prop) (w : World) (a : SA) : Prop := Rd S w 1 a.A1 a.ks.length (strs a.ks) ∧ Rd S w 5 a.A2 a.ws.length (wrCells a.ws)
structure SActs (S : Nat → Prop) (w : World) (A : Option Addr) (us : List SA) : Prop where
  row : Rd S w 3 A us.length (us.flatMap scells)
  ok : ∀ a ∈ us, a.ok S w
theorem SActs.keep {S : Nat → Prop} {w w' : World} {A : Option Addr} {us : List SA} (h : SActs S w A us) (hk : ∀ b, S b → b < w.heap.size → w'.heap[b]? = w.heap[b]?) : SActs S w' A us := ⟨h.row.keep hk, fun a ha => ⟨(h.ok a ha).1.keep hk, (h.ok a ha).2.keep hk⟩⟩
theorem SActs.below {S : Nat → Prop} {w w' : World} {A : Option Addr} {us : List SA} (h : SActs S w A us) (hb : Below w.heap.size w w') : SActs S w' A us := h.keep fun b _ hl => hb.block b hl
theorem aflat_at {α : Type} (f : α → List Value) (sz : Nat) (hf : ∀ a, (f a).length = sz) (l : List α) (k j : Nat) (h : k < l.length) (hj : j < sz) : (l.flatMap f)[k * sz + j]? = (f l[k])[j]? := by
  induction l generalizing k with
  | nil => simp at h
  | cons x l ih =>
    rw [List.flatMap_cons]
    cases k with
    | zero => rw [List.getElem?_append_left (by rw [hf]; omega)]; simp
    | succ k =>
      rw [List.getElem?_append_right (by rw [hf, Nat.succ_mul]; omega), hf, show (k + 1) * sz + j - sz = k * sz + j by rw [Nat.succ_mul]; omega, ih k (by simpa using h)]
      simp
theorem SActs.at_ {S : Nat → Prop} {w : World} {A : Option Addr} {us : List SA} {k : Nat} (h : SActs S w A us) (hk : k < us.length) : ∃ b o, A = some ⟨b, o, none⟩ ∧ S b ∧ b < w.heap.size ∧ us[k].ok S w ∧
    w.cell? ⟨b, o + k * 3, none⟩ = some (.int .i64 us[k].kind) ∧ w.cell? ⟨b, o + k * 3 + 1, none⟩ = some (.slice us[k].A1 us[k].ks.length us[k].c1) ∧ w.cell? ⟨b, o + k * 3 + 2, none⟩ = some (.slice us[k].A2 us[k].ws.length us[k].c2) := by
  obtain ⟨b, o, e, hS, hl, hc⟩ := h.row.at_ hk
  have g := fun j (hj : j < 3) u (hu : (scells us[k])[j]? = some u) => hc (k * 3 + j) u (by rw [aflat_at scells 3 (fun _ => rfl) us k j hk hj]; exact hu)
  simp only [← Nat.add_assoc] at g
  exact ⟨b, o, e, hS, hl, h.ok _ (List.getElem_mem hk), g 0 (by omega) _ rfl, g 1 (by omega) _ rfl, g 2 (by omega) _ rfl⟩
def partA (a : SA) : Nat := a.ks.length + a.ws.length
def partsA (us : List SA) : Nat := (us.map partA).sum
theorem partsA_take (us : List SA) (k : Nat) (h : k < us.length) : partsA (us.take (k + 1)) = partsA (us.take k) + partA us[k] := by
  unfold partsA
  rw [List.take_succ_eq_append_getElem h, List.map_append, List.sum_append, List.map_cons, List.map_nil, List.sum_cons, List.sum_nil]
  omega
theorem sum_take_le (l : List Nat) (k : Nat) : (l.take k).sum ≤ l.sum := by
  induction l generalizing k with
  | nil => simp
  | cons a l ih =>
    cases k with
    | zero => simp
    | succ k => have := ih k; simp; omega
theorem partsA_le (us : List SA) (k : Nat) : partsA (us.take k) ≤ partsA us := by
  unfold partsA
  have := sum_take_le (us.map partA) k
  rwa [← List.map_take] at this
theorem partsA_mem {us : List SA} {a : SA} (h : a ∈ us) : partA a ≤ partsA us := by
  unfold partsA
  induction us with
  | nil => cases h
  | cons x l ih =>
    rw [List.map_cons, List.sum_cons]
    rcases List.mem_cons.1 h with rfl | h
    · omega
    · have := ih h; omega
def longB (us : List SA) : Bool := decide (200 < us.length) || decide (6000 < partsA us)
set_option maxRecDepth 100000 in
set_option maxHeartbeats 1000000 in
theorem long_any {S : Nat → Prop} (p r : Int) {A : Option Addr} {c : Nat} {us : List SA} {w : World} (h : SActs S w A us) (hn : us.length ≤ 1048576) (hp : partsA us ≤ 1048576) : Calls Tryd.prog 5 #[.agg #[.int .i64 p, .int .i64 r, .slice A us.length c]] w fun e w' => e = .returned (.bool (longB us)) ∧ Below w.heap.size w w' := by
  have hB0 : Below w.heap.size w (w.alloc (.cells #[.int .i64 p, .int .i64 r, .slice A us.length c] 24)) := (Below.refl _ _).alloc (Nat.le_refl _) _
  have kb := hid (Blk.new w 24 #[.int .i64 p, .int .i64 r, .slice A us.length c])
  have hs := hid (h.below hB0)
  have hB := hid hB0
  have hN : (us.length : Int) ≤ 1048576 := by omega
  have hP := hid hp
  clear h hB0 hn hp
  go_enter Tryd.func5, Tryd.ntmps5
  go_upto_region 1 with fail
  generalize w.alloc (.cells #[.int .i64 p, .int .i64 r, .slice A us.length c] 24) = w1 at *
  generalize hm : w.heap.size = m at *
  go_wp2_with fail
  go_loopw [3, 4] (fun u v wr => ∃ k : Nat, u = .int .i64 (partsA (us.take k) : Nat) ∧ v = .int .i64 k ∧ k ≤ us.length ∧ Below w1.heap.size w1 wr) (fun u v _ => us.length - (intOf v).toNat)
  case atStart => exact ⟨0, rfl, rfl, Nat.zero_le _, Below.refl _ _⟩
  case round =>
    obtain ⟨k, rfl, rfl, hk, hb0⟩ := hrel
    have hb := hid hb0
    have kw := kb.out.below_all hb0
    have x2 : wr.cell? ⟨m, 2, none⟩ = some (.slice A us.length c) := kw.cell 2
    clear hb0 kw
    by_cases hlt : k < us.length
    · have i1 : (k : Int) < (us.length : Int) := by omega
      obtain ⟨b, o, rfl, _, _, _, _, y1, y2⟩ := (hs.out.below hb.out).at_ hlt
      have htk := partsA_take us k hlt
      have hle := partsA_le us (k + 1)
      have hP9 := hP.out
      obtain ⟨q, hq⟩ : ∃ q, q = partsA (us.take k) := ⟨_, rfl⟩
      have hpa : partA us[k] = us[k].ks.length + us[k].ws.length := rfl
      obtain ⟨n1, hn1⟩ : ∃ n, n = us[k].ks.length := ⟨_, rfl⟩
      obtain ⟨n2, hn2⟩ : ∃ n, n = us[k].ws.length := ⟨_, rfl⟩
      rw [← hn1] at y1 hpa
      rw [← hn2] at y2 hpa
      rw [← hq] at htk ⊢
      have z1 : IntKind.i64.wrap ((q : Int) + (n1 : Int)) = (q : Int) + (n1 : Int) := by rw [IntKind.wrap_i64]; omega
      have z2 : IntKind.i64.wrap ((q : Int) + (n1 : Int) + (n2 : Int)) = (q : Int) + (n1 : Int) + (n2 : Int) := by rw [IntKind.wrap_i64]; omega
      have hfin : Hid (((partsA (us.take (k + 1)) : Nat) : Int) = (q : Int) + (n1 : Int) + (n2 : Int)) := hid (by omega)
      clear htk hle hP9 hq hpa hn1 hn2
      go_wp2_with fail
      go_quiet (fail)
      go_wp2_with fail
      go_roundw
      case rel => exact ⟨k + 1, by rw [hfin.out], by go_num, hlt, below_drewN hb.out _⟩
      case measure => simp [intOf]; omega
    · obtain rfl : k = us.length := by omega
      rw [List.take_length]
      have hfb : Hid (Below w.heap.size w wr) := hid (by rw [hm]; exact hB.out.trans (hb.out.mono (by have := hB.out.size; omega)))
      obtain ⟨n, hn⟩ : ∃ n, n = us.length := ⟨_, rfl⟩
      obtain ⟨q, hq⟩ : ∃ q, q = partsA us := ⟨_, rfl⟩
      rw [← hn] at x2
      rw [← hn, ← hq]
      have hfin : Hid (longB us = (decide (200 < n) || decide (6000 < q))) := hid (by rw [hn, hq]; rfl)
      have hq9 : Hid (q ≤ 1048576) := hid (by rw [hq]; exact hP.out)
      clear hq hn hlt
      by_cases h1 : 200 < n
      · have t1 : decide ((200 : Int) < (n : Int)) = true := decide_eq_true (by omega)
        have t1n : decide (200 < n) = true := decide_eq_true h1
        have hf : Hid (longB us = true) := hid (by rw [hfin.out, t1n]; rfl)
        clear h1
        go_wp2_with fail
        go_ret
        exact ⟨by rw [hf.out]; rfl, hfb.out⟩
      · have t1 : decide ((200 : Int) < (n : Int)) = false := decide_eq_false (by omega)
        have t1n : decide (200 < n) = false := decide_eq_false h1
        have hf : Hid (longB us = decide ((6000 : Int) < (q : Int))) := hid (by rw [hfin.out, t1n, Bool.false_or]; exact decide_eq_decide.2 (by omega))
        clear h1
        go_wp2_with fail
        go_ret
        exact ⟨by rw [hf.out]; first | rfl | simp, hfb.out⟩
end Go.Proofs.YtnbbdjbjbjlcpaaDoor
