/- Texts of the proof, joined: YActs, YLive, YLiveL, YNil, LawOf, SLaid, SLaidE. -/
import Derived.Test.YtefigpmkiemfhaaDoorN09
import Derived.Test.YtefigpmkiemfhaaDoorN05
import Derived.Test.YtefigpmkiemfhaaDoorN01
import Derived.ProofKit
import Derived.OpenShut
import Derived.JoinedCond
import Derived.Lib.SmallJoins
import Derived.Test.YtefigpmkiemfhaaDoorRows
import Derived.Stop.LaidErr
import Derived.Lib.LaidTab
import Derived.Lib.ItoaNum
import Derived.LaidLaws
import Derived.Deep.DeepHandedRow
namespace Go.Proofs.YtefigpmkiemfhaaDoor
open Go.RowKit
set_option linter.unusedVariables false
set_option linter.unusedSimpArgs false

/-- an act -/
structure ZA where
  kind : Int
  ks : List ByteArray
  ws : List Wr
  A1 : Option Addr
  c1 : Nat
  A2 : Option Addr
  c2 : Nat
  mark : Int
  n : Int
def zcells (a : ZA) : List Value := [.int .i64 a.kind, .slice a.A1 a.ks.length a.c1, .slice a.A2 a.ws.length a.c2, .int .i64 a.mark, .int .i64 a.n]
def ZA.ok (S : Nat → Prop) (w : World) (a : ZA) : Prop := Rd S w 1 a.A1 a.ks.length (strs a.ks) ∧ Rd S w 5 a.A2 a.ws.length (wrCells a.ws)
structure ZActs (S : Nat → Prop) (w : World) (A : Option Addr) (us : List ZA) : Prop where
  row : Rd S w 5 A us.length (us.flatMap zcells)
  ok : ∀ a ∈ us, a.ok S w
theorem ZActs.keep {S : Nat → Prop} {w w' : World} {A : Option Addr} {us : List ZA} (h : ZActs S w A us) (hk : ∀ b, S b → b < w.heap.size → w'.heap[b]? = w.heap[b]?) : ZActs S w' A us := ⟨h.row.keep hk, fun a ha => ⟨(h.ok a ha).1.keep hk, (h.ok a ha).2.keep hk⟩⟩
theorem ZActs.below {S : Nat → Prop} {w w' : World} {A : Option Addr} {us : List ZA} (h : ZActs S w A us) (hb : Below w.heap.size w w') : ZActs S w' A us := h.keep fun b _ hl => hb.block b hl
theorem aflat_atZ {α : Type} (f : α → List Value) (sz : Nat) (hf : ∀ a, (f a).length = sz) (l : List α) (k j : Nat) (h : k < l.length) (hj : j < sz) : (l.flatMap f)[k * sz + j]? = (f l[k])[j]? := by
  induction l generalizing k with
  | nil => simp at h
  | cons x l ih =>
    rw [List.flatMap_cons]
    cases k with
    | zero => rw [List.getElem?_append_left (by rw [hf]; omega)]; simp
    | succ k =>
      rw [List.getElem?_append_right (by rw [hf, Nat.succ_mul]; omega), hf, show (k + 1) * sz + j - sz = k * sz + j by rw [Nat.succ_mul]; omega, ih k (by simpa using h)]
      simp
theorem ZActs.at_ {S : Nat → Prop} {w : World} {A : Option Addr} {us : List ZA} {k : Nat} (h : ZActs S w A us) (hk : k < us.length) : ∃ b o, A = some ⟨b, o, none⟩ ∧ S b ∧ b < w.heap.size ∧ us[k].ok S w ∧
    w.cell? ⟨b, o + k * 5, none⟩ = some (.int .i64 us[k].kind) ∧ w.cell? ⟨b, o + k * 5 + 1, none⟩ = some (.slice us[k].A1 us[k].ks.length us[k].c1) ∧ w.cell? ⟨b, o + k * 5 + 2, none⟩ = some (.slice us[k].A2 us[k].ws.length us[k].c2) ∧ w.cell? ⟨b, o + k * 5 + 3, none⟩ = some (.int .i64 us[k].mark) ∧ w.cell? ⟨b, o + k * 5 + 4, none⟩ = some (.int .i64 us[k].n) := by
  obtain ⟨b, o, e, hS, hl, hc⟩ := h.row.at_ hk
  have g := fun j (hj : j < 5) u (hu : (zcells us[k])[j]? = some u) => hc (k * 5 + j) u (by rw [aflat_atZ zcells 5 (fun _ => rfl) us k j hk hj]; exact hu)
  simp only [← Nat.add_assoc] at g
  exact ⟨b, o, e, hS, hl, h.ok _ (List.getElem_mem hk), g 0 (by omega) _ rfl, g 1 (by omega) _ rfl, g 2 (by omega) _ rfl, g 3 (by omega) _ rfl, g 4 (by omega) _ rfl⟩
def partZ (a : ZA) : Nat := a.ks.length + a.ws.length
def partsZ (us : List ZA) : Nat := (us.map partZ).sum
theorem partsZ_take (us : List ZA) (k : Nat) (h : k < us.length) : partsZ (us.take (k + 1)) = partsZ (us.take k) + partZ us[k] := by
  unfold partsZ
  rw [List.take_succ_eq_append_getElem h, List.map_append, List.sum_append, List.map_cons, List.map_nil, List.sum_cons, List.sum_nil]
  omega
theorem sum_take_leZ (l : List Nat) (k : Nat) : (l.take k).sum ≤ l.sum := by
  induction l generalizing k with
  | nil => simp
  | cons a l ih =>
    cases k with
    | zero => simp
    | succ k => have := ih k; simp; omega
theorem partsZ_le (us : List ZA) (k : Nat) : partsZ (us.take k) ≤ partsZ us := by
  unfold partsZ
  have := sum_take_leZ (us.map partZ) k
  rwa [← List.map_take] at this
theorem partsZ_mem {us : List ZA} {a : ZA} (h : a ∈ us) : partZ a ≤ partsZ us := by
  unfold partsZ
  induction us with
  | nil => cases h
  | cons x l ih =>
    rw [List.map_cons, List.sum_cons]
    rcases List.mem_cons.1 h with rfl | h
    · omega
    · have := ih h; omega
theorem ZActs.all {S : Nat → Prop} {w : World} {A : Option Addr} {us : List ZA} (h : ZActs S w A us) : ZActs (fun b => b < w.heap.size) w A us := ⟨h.row.all, fun a ha => ⟨(h.ok a ha).1.all, (h.ok a ha).2.all⟩⟩
def longZ (us : List ZA) (nb : Nat) : Bool := decide (200 < us.length) || decide (3000 < partsZ us) || decide (100000 < nb)
set_option maxRecDepth 100000 in
set_option maxHeartbeats 1000000 in
theorem zlong_any {S : Nat → Prop} (p r : Int) {A B : Option Addr} {c nb cb : Nat} {us : List ZA} {w : World} (h : ZActs S w A us) (hn : us.length ≤ 1048576) (hp : partsZ us ≤ 1048576) (hnb : nb ≤ 1048576) : Calls Tryd.prog 7 #[.agg #[.slice B nb cb, .int .i64 p, .int .i64 r, .slice A us.length c]] w fun e w' => e = .returned (.bool (longZ us nb)) ∧ Below w.heap.size w w' := by
  have hB0 : Below w.heap.size w (w.alloc (.cells #[.slice B nb cb, .int .i64 p, .int .i64 r, .slice A us.length c] 25)) := (Below.refl _ _).alloc (Nat.le_refl _) _
  have kb := hid (Blk.new w 25 #[.slice B nb cb, .int .i64 p, .int .i64 r, .slice A us.length c])
  have hs := hid (h.below hB0)
  have hB := hid hB0
  have hN : (us.length : Int) ≤ 1048576 := by omega
  have hP := hid hp
  have hNB := hid hnb
  clear h hB0 hn hp hnb
  go_enter Tryd.func7, Tryd.ntmps7
  go_upto_region 1 with fail
  generalize w.alloc (.cells #[.slice B nb cb, .int .i64 p, .int .i64 r, .slice A us.length c] 25) = w1 at *
  generalize hm : w.heap.size = m at *
  go_wp2_with fail
  go_loopw [3, 4] (fun u v wr => ∃ k : Nat, u = .int .i64 (partsZ (us.take k) : Nat) ∧ v = .int .i64 k ∧ k ≤ us.length ∧ Below w1.heap.size w1 wr) (fun u v _ => us.length - (intOf v).toNat)
  case atStart => exact ⟨0, rfl, rfl, Nat.zero_le _, Below.refl _ _⟩
  case round =>
    obtain ⟨k, rfl, rfl, hk, hb0⟩ := hrel
    have hb := hid hb0
    have kw := kb.out.below_all hb0
    have x3 : wr.cell? ⟨m, 3, none⟩ = some (.slice A us.length c) := kw.cell 3
    have x0 : wr.cell? ⟨m, 0, none⟩ = some (.slice B nb cb) := kw.cell 0
    clear hb0 kw
    by_cases hlt : k < us.length
    · have i1 : (k : Int) < (us.length : Int) := by omega
      obtain ⟨b, o, rfl, _, _, _, _, y1, y2, _, _⟩ := (hs.out.below hb.out).at_ hlt
      have htk := partsZ_take us k hlt
      have hle := partsZ_le us (k + 1)
      have hP9 := hP.out
      obtain ⟨q, hq⟩ : ∃ q, q = partsZ (us.take k) := ⟨_, rfl⟩
      have hpa : partZ us[k] = us[k].ks.length + us[k].ws.length := rfl
      obtain ⟨n1, hn1⟩ : ∃ n, n = us[k].ks.length := ⟨_, rfl⟩
      obtain ⟨n2, hn2⟩ : ∃ n, n = us[k].ws.length := ⟨_, rfl⟩
      rw [← hn1] at y1 hpa
      rw [← hn2] at y2 hpa
      rw [← hq] at htk ⊢
      have z1 : IntKind.i64.wrap ((q : Int) + (n1 : Int)) = (q : Int) + (n1 : Int) := by rw [IntKind.wrap_i64]; omega
      have z2 : IntKind.i64.wrap ((q : Int) + (n1 : Int) + (n2 : Int)) = (q : Int) + (n1 : Int) + (n2 : Int) := by rw [IntKind.wrap_i64]; omega
      have hfin : Hid (((partsZ (us.take (k + 1)) : Nat) : Int) = (q : Int) + (n1 : Int) + (n2 : Int)) := hid (by omega)
      clear htk hle hP9 hq hpa hn1 hn2
      go_wp2_with fail
      go_quiet (fail)
      go_wp2_with fail
      go_roundw
      case rel => exact ⟨k + 1, by rw [hfin.out], by go_num, hlt, below_drewN hb.out _⟩
      case measure => simp [intOf]; omega
    · obtain rfl : k = us.length := by omega
      rw [List.take_length]
      have hfb : Hid (Below w.heap.size w wr) := hid (by rw [hm]; exact hB.out.trans (hb.out.mono (by have := hB.out.size; omega)))
      obtain ⟨n, hn⟩ : ∃ n, n = us.length := ⟨_, rfl⟩
      obtain ⟨q, hq⟩ : ∃ q, q = partsZ us := ⟨_, rfl⟩
      rw [← hn] at x3
      rw [← hn, ← hq]
      have hfin : Hid (longZ us nb = (decide (200 < n) || decide (3000 < q) || decide (100000 < nb))) := hid (by rw [hn, hq]; rfl)
      clear hq hn hlt
      by_cases h1 : 200 < n
      · have t1 : decide ((200 : Int) < (n : Int)) = true := decide_eq_true (by omega)
        have t1n : decide (200 < n) = true := decide_eq_true h1
        have hf : Hid (longZ us nb = true) := hid (by rw [hfin.out, t1n]; rfl)
        clear h1
        go_wp2_with fail
        go_ret
        exact ⟨by rw [hf.out]; rfl, hfb.out⟩
      have t1 : decide ((200 : Int) < (n : Int)) = false := decide_eq_false (by omega)
      have t1n : decide (200 < n) = false := decide_eq_false h1
      by_cases h2 : 3000 < q
      · have t2 : decide ((3000 : Int) < (q : Int)) = true := decide_eq_true (by omega)
        have t2n : decide (3000 < q) = true := decide_eq_true h2
        have hf : Hid (longZ us nb = true) := hid (by rw [hfin.out, t1n, t2n]; rfl)
        clear h1 h2
        go_wp2_with fail
        go_ret
        exact ⟨by rw [hf.out]; rfl, hfb.out⟩
      have t2 : decide ((3000 : Int) < (q : Int)) = false := decide_eq_false (by omega)
      have t2n : decide (3000 < q) = false := decide_eq_false h2
      have hf : Hid (longZ us nb = decide ((100000 : Int) < (nb : Int))) := hid (by rw [hfin.out, t1n, t2n, Bool.false_or, Bool.false_or]; exact decide_eq_decide.2 (by omega))
      clear h1 h2
      go_wp2_with fail
      go_ret
      exact ⟨by rw [hf.out]; first | rfl | simp, hfb.out⟩
end Go.Proofs.YtefigpmkiemfhaaDoor

namespace Go.Proofs.YtefigpmkiemfhaaDoor
open Go.RowKit
set_option linter.unusedVariables false
set_option linter.unusedSimpArgs false

theorem num_any (n : Int) (w : World) : Calls Tryd.prog 10 #[.int .i64 n] w fun e w' => e = .returned (.int .i64 n) ∧ w' = w := by
  go_enter Tryd.func10, Tryd.ntmps10
  go_wp2_with fail
  go_ret
  exact ⟨rfl, rfl⟩
theorem strs_oneZ (ks : List ByteArray) : ∀ v ∈ strs ks, v.oneCell' = true := by
  intro v hv
  obtain ⟨x, _, rfl⟩ := List.mem_map.1 hv
  rfl
theorem wrCells_oneZ (ws : List Wr) : ∀ v ∈ wrCells ws, v.oneCell' = true := by
  intro v hv
  obtain ⟨x, _, hx⟩ := List.mem_flatMap.1 hv
  simp only [List.mem_cons, List.not_mem_nil, or_false] at hx
  rcases hx with rfl | rfl | rfl | rfl | rfl <;> rfl
/-- the act, copied: its own block and rows -/
structure OwnZ (m : Nat) (w' : World) (a : ZA) (B1 : Option Addr) (d1 : Nat) (B2 : Option Addr) (d2 : Nat) : Prop where
  ks : Rd (fun b => m ≤ b) w' 1 B1 a.ks.length (strs a.ks)
  ws : Rd (fun b => m ≤ b) w' 5 B2 a.ws.length (wrCells a.ws)
theorem OwnZ.below {m : Nat} {w w' : World} {a : ZA} {B1 B2 : Option Addr} {d1 d2 : Nat} (h : OwnZ m w a B1 d1 B2 d2) (hb : Below w.heap.size w w') : OwnZ m w' a B1 d1 B2 d2 := ⟨h.ks.below_all hb, h.ws.below_all hb⟩
theorem OwnZ.upd {m : Nat} {w w' : World} {a : ZA} {B1 B2 : Option Addr} {d1 d2 : Nat} {M : Nat → Prop} (h : OwnZ m w a B1 d1 B2 d2) (hu : Upd M w w') (hM : ∀ q, m ≤ q → ¬ M q) : OwnZ m w' a B1 d1 B2 d2 := ⟨h.ks.upd hu hM, h.ws.upd hu hM⟩
section
variable {w w' : World}
set_option maxRecDepth 100000 in
set_option maxHeartbeats 4000000 in
theorem zown_any {Sx : Nat → Prop} (a : ZA) (h : a.ok Sx w) (h1 : a.ks.length ≤ 100000) (h2 : a.ws.length ≤ 100000) : Calls Tryd.prog 11 #[.agg #[.int .i64 a.kind, .slice a.A1 a.ks.length a.c1, .slice a.A2 a.ws.length a.c2, .int .i64 a.mark, .int .i64 a.n]] w fun e w' => ∃ B1 d1 B2 d2, e = .returned (.agg #[.int .i64 a.kind, .slice B1 a.ks.length d1, .slice B2 a.ws.length d2, .int .i64 a.mark, .int .i64 a.n]) ∧ OwnZ w.heap.size w' a B1 d1 B2 d2 ∧ Below w.heap.size w w' := by
  have hb0 : Below w.heap.size w ((w.alloc (.cells #[.int .i64 a.kind, .slice a.A1 a.ks.length a.c1, .slice a.A2 a.ws.length a.c2, .int .i64 a.mark, .int .i64 a.n] 36)).alloc (.cells #[.int .i64 0, .slice none 0 0, .slice none 0 0, .int .i64 0, .int .i64 0] 36)) := below_two _ _
  have k1 := hid (show Blk ((w.alloc (.cells #[.int .i64 a.kind, .slice a.A1 a.ks.length a.c1, .slice a.A2 a.ws.length a.c2, .int .i64 a.mark, .int .i64 a.n] 36)).alloc (.cells #[.int .i64 0, .slice none 0 0, .slice none 0 0, .int .i64 0, .int .i64 0] 36)) w.heap.size 36 #[.int .i64 a.kind, .slice a.A1 a.ks.length a.c1, .slice a.A2 a.ws.length a.c2, .int .i64 a.mark, .int .i64 a.n] from (Blk.new w _ _).alloc _)
  have k2 := hid (show Blk ((w.alloc (.cells #[.int .i64 a.kind, .slice a.A1 a.ks.length a.c1, .slice a.A2 a.ws.length a.c2, .int .i64 a.mark, .int .i64 a.n] 36)).alloc (.cells #[.int .i64 0, .slice none 0 0, .slice none 0 0, .int .i64 0, .int .i64 0] 36)) (w.heap.size + 1) 36 #[.int .i64 0, .slice none 0 0, .slice none 0 0, .int .i64 0, .int .i64 0] from Blk.new' _ _ _ (by simp))
  have hk5 := hid (h.1.all.below_all hb0)
  have hw5 := hid (h.2.all.below_all hb0)
  have hB := hid hb0
  have hsz := hid (show ((w.alloc (.cells #[.int .i64 a.kind, .slice a.A1 a.ks.length a.c1, .slice a.A2 a.ws.length a.c2, .int .i64 a.mark, .int .i64 a.n] 36)).alloc (.cells #[.int .i64 0, .slice none 0 0, .slice none 0 0, .int .i64 0, .int .i64 0] 36)).heap.size = w.heap.size + 2 by simp)
  obtain ⟨ip1, hip1, hp10, hp11, hp12⟩ := info_parts info_str5
  obtain ⟨ip2, hip2, hp20, hp21, hp22⟩ := info_parts info_write5
  have hn1 := hid h1
  have hn2 := hid h2
  clear hb0 h h1 h2
  go_enter Tryd.func11, Tryd.ntmps11
  go_upto_region 1 with fail
  generalize ((w.alloc (.cells #[.int .i64 a.kind, .slice a.A1 a.ks.length a.c1, .slice a.A2 a.ws.length a.c2, .int .i64 a.mark, .int .i64 a.n] 36)).alloc (.cells #[.int .i64 0, .slice none 0 0, .slice none 0 0, .int .i64 0, .int .i64 0] 36)) = w5 at *
  generalize hm : w.heap.size = m at *
  have x1 : w5.cell? ⟨m, 1, none⟩ = some (.slice a.A1 a.ks.length a.c1) := k1.out.cell 1
  have x2 : w5.cell? ⟨m, 2, none⟩ = some (.slice a.A2 a.ws.length a.c2) := k1.out.cell 2
  have hml : m < w5.heap.size := k1.out.lt
  have hmn : ¬ (m = w5.heap.size) := by omega
  go_wp2_with (
    at_builtin
    first
    | (
      refine wpList_copy_rd w5 rfl (.tmp 3) (.tmp 5) 26 rfl 9 ip1 _ 1 16 Tryd.underlying26 hip1 hp10 hp11 hp12 rfl (by omega) w5.heap.size rfl rfl (fun b => b < m) a.A1 a.ks.length a.c1 (strs a.ks) rfl hk5.out (strs_oneZ a.ks) (by have := hn1.out; simp only [maxLen]; omega) (by have := hn1.out; omega) ?_
      intro A6 c6 w6 hown6 hbel6
      have k16 := hid (k1.out.below_all hbel6)
      have k26 := hid (k2.out.below_all hbel6)
      have hw6 := hid (hw5.out.below_all hbel6)
      have hB6 := hid (hB.out.trans (hbel6.mono (by have := hsz.out; omega)))
      have ho6 := hid hown6
      have hs6 := hid hbel6.size
      have x16 : w6.cell? ⟨m, 1, none⟩ = some (.slice a.A1 a.ks.length a.c1) := k16.out.cell 1
      have x26 : w6.cell? ⟨m, 2, none⟩ = some (.slice a.A2 a.ws.length a.c2) := k16.out.cell 2
      have f16 := fun q => k16.out.frozen q
      have hm6 : m < w6.heap.size := k16.out.lt
      have hu7 := hid (show Upd (fun q => q = m) w6 (w6.setCell ⟨m, 1, none⟩ (.slice A6 a.ks.length c6)) from (Upd.refl (fun q => q = m) w6).setCell (p := ⟨m, 1, none⟩) (fun _ => rfl) _)
      have k17 := hid (k16.out.set_ 1 (.slice A6 a.ks.length c6))
      have k27 := hid (k26.out.far (p := ⟨m, 1, none⟩) (by show m + 1 ≠ m; omega) (.slice A6 a.ks.length c6))
      have hw7 := hid (hw6.out.upd hu7.out fun q hq e => by have e : q = m := e; omega)
      have hB7 := hid (hB6.out.setCell (p := ⟨m, 1, none⟩) (Nat.le_refl _) (.slice A6 a.ks.length c6))
      have hr7 := hid ((Rd.of_own' ho6.out).upd hu7.out fun q hq e => by have e : q = m := e; omega)
      clear hown6 hbel6 x1 x2)
    | go_loud (
      refine wpList_copy_rd (w6.setCell ⟨m, 1, none⟩ (.slice A6 a.ks.length c6)) rfl (.tmp 8) (.tmp 10) 34 rfl 67 ip2 _ 5 56 Tryd.underlying34 hip2 hp20 hp21 hp22 rfl (by omega) w6.heap.size rfl (by simp [World.setCell]) (fun b => b < m) a.A2 a.ws.length a.c2 (wrCells a.ws) rfl hw7.out (wrCells_oneZ a.ws) (by have := hn2.out; simp only [maxLen]; omega) (by have := hn2.out; omega) ?_
      intro A8 c8 w8 hown8 hbel8
      have k18 := hid (k17.out.below_all hbel8)
      have k28 := hid (k27.out.below_all hbel8)
      have hr8 := hid (hr7.out.below_all hbel8)
      have hB8 := hid (hB7.out.trans (hbel8.mono (by have := hB7.out.size; omega)))
      have hs7 : Hid (m + 2 ≤ (w6.setCell ⟨m, 1, none⟩ (.slice A6 a.ks.length c6)).heap.size) := hid (by have := hs6.out; have := hsz.out; simp [World.setCell]; omega)
      have ho8 := hid ((Rd.of_own' hown8).more fun q hq _ => (show m + 2 ≤ q by have := hs7.out; omega))
      have y0 : w8.cell? ⟨m, 0, none⟩ = some (.int .i64 a.kind) := k18.out.cell 0
      have y1 : w8.cell? ⟨m, 1, none⟩ = some (.slice A6 a.ks.length c6) := k18.out.cell 1
      have y2 : w8.cell? ⟨m, 2, none⟩ = some (.slice a.A2 a.ws.length a.c2) := k18.out.cell 2
      have y3 : w8.cell? ⟨m, 3, none⟩ = some (.int .i64 a.mark) := k18.out.cell 3
      have y4 : w8.cell? ⟨m, 4, none⟩ = some (.int .i64 a.n) := k18.out.cell 4
      have f18 := fun q => k18.out.frozen q
      have hm8 : m < w8.heap.size := k18.out.lt
      have z0 : w8.cell? ⟨m + 1, 0, none⟩ = some (.int .i64 0) := k28.out.cell 0
      have z1 : w8.cell? ⟨m + 1, 1, none⟩ = some (.slice none 0 0) := k28.out.cell 1
      have z2 : w8.cell? ⟨m + 1, 2, none⟩ = some (.slice none 0 0) := k28.out.cell 2
      have z3 : w8.cell? ⟨m + 1, 3, none⟩ = some (.int .i64 0) := k28.out.cell 3
      have z4 : w8.cell? ⟨m + 1, 4, none⟩ = some (.int .i64 0) := k28.out.cell 4
      have f28 := fun q => k28.out.frozen q
      have hm9 : m + 1 < w8.heap.size := k28.out.lt
      clear hown8 hbel8 x16 x26 f16))
  have kf : Blk _ _ _ _ := ((((((k28.out.far (p := ⟨m, 2, none⟩) (by show m + 1 ≠ m; omega) (.slice A8 a.ws.length c8)).set_ 0 (.int .i64 a.kind)).set_ 1 (.slice A6 a.ks.length c6)).set_ 2 (.slice A8 a.ws.length c8)).set_ 3 (.int .i64 a.mark)).set_ 4 (.int .i64 a.n))
  have hup : Upd (fun q => q = m ∨ q = m + 1) w8 _ := (((((((Upd.refl (fun q => q = m ∨ q = m + 1) w8).setCell (p := ⟨m, 2, none⟩) (fun _ => .inl rfl) (.slice A8 a.ws.length c8)).setCell (p := ⟨m + 1, 0, none⟩) (fun _ => .inr rfl) (.int .i64 a.kind)).setCell (p := ⟨m + 1, 1, none⟩) (fun _ => .inr rfl) (.slice A6 a.ks.length c6)).setCell (p := ⟨m + 1, 2, none⟩) (fun _ => .inr rfl) (.slice A8 a.ws.length c8)).setCell (p := ⟨m + 1, 3, none⟩) (fun _ => .inr rfl) (.int .i64 a.mark)).setCell (p := ⟨m + 1, 4, none⟩) (fun _ => .inr rfl) (.int .i64 a.n))
  refine bodyPost_ret (v := .agg #[.int .i64 a.kind, .slice A6 a.ks.length c6, .slice A8 a.ws.length c8, .int .i64 a.mark, .int .i64 a.n]) ?_ rfl ⟨A6, c6, A8, c8, rfl, ⟨?_, ?_⟩, by rw [hm]; exact ((((((hB8.out.setCell (p := ⟨m, 2, none⟩) (Nat.le_refl _) (.slice A8 a.ws.length c8)).setCell (p := ⟨m + 1, 0, none⟩) (Nat.le_succ _) (.int .i64 a.kind)).setCell (p := ⟨m + 1, 1, none⟩) (Nat.le_succ _) (.slice A6 a.ks.length c6)).setCell (p := ⟨m + 1, 2, none⟩) (Nat.le_succ _) (.slice A8 a.ws.length c8)).setCell (p := ⟨m + 1, 3, none⟩) (Nat.le_succ _) (.int .i64 a.mark)).setCell (p := ⟨m + 1, 4, none⟩) (Nat.le_succ _) (.int .i64 a.n))⟩
  · exact results_cell_row (P := Tryd.prog) rfl _ _ (m + 1) 36 _ (0, 0) _ rfl (show Blk _ _ _ #[.int .i64 a.kind, .slice A6 a.ks.length c6, .slice A8 a.ws.length c8, .int .i64 a.mark, .int .i64 a.n] from by simpa using kf) Tryd.underlying36 rfl (by kernel_rfl)
  · exact (hr8.out.upd hup fun q hq e => by have := hsz.out; rcases e with e | e <;> omega).more fun q hq _ => by have := hsz.out; omega
  · exact (ho8.out.upd hup fun q hq e => by have := hsz.out; rcases e with e | e <;> omega).more fun q hq _ => by omega
/-- two Zigs of a law, apart -/
structure Z2 (w0 wr : World) (g1 g2 : Nat) (z1 z2 : Zg) (T1 T2 : Nat → Prop) : Prop where
  a : ZAt T1 wr g1 z1
  b : ZAt T2 wr g2 z2
  ge : (∀ q, T1 q → w0.heap.size ≤ q) ∧ ∀ q, T2 q → w0.heap.size ≤ q
  dis : ∀ q, T1 q → ¬ T2 q
  bel : Below w0.heap.size w0 wr
theorem Z2.below {w0 wr w' : World} {g1 g2 : Nat} {z1 z2 : Zg} {T1 T2 : Nat → Prop} (h : Z2 w0 wr g1 g2 z1 z2 T1 T2) (hb : Below wr.heap.size wr w') : Z2 w0 w' g1 g2 z1 z2 T1 T2 := ⟨h.a.below hb, h.b.below hb, h.ge, h.dis, h.bel.trans (hb.mono h.bel.size)⟩
theorem Z2.goA {w0 wr w' : World} {g1 g2 : Nat} {z1 z2 z' : Zg} {T1 T2 : Nat → Prop} (h : Z2 w0 wr g1 g2 z1 z2 T1 T2) (hg : ZGo T1 wr g1 z' w') : ∃ T', Z2 w0 w' g1 g2 z' z2 T' T2 ∧ Upd T1 wr w' := by
  obtain ⟨T', ha, h1, h2, hu⟩ := hg
  refine ⟨T', ⟨ha, h.b.upd hu fun q hq e => h.dis q e hq, ⟨fun q hq => ?_, h.ge.2⟩, fun q hq e => ?_, h.bel.trans (hu.below h.bel.size fun q hq e => by have := h.ge.1 q e; omega)⟩, hu⟩
  · rcases h1 q hq with h3 | h3
    · exact h.ge.1 q h3
    · have := h.bel.size; omega
  · rcases h1 q hq with h3 | h3
    · exact h.dis q h3 e
    · have := h.b.lt q e; omega
theorem Z2.goB {w0 wr w' : World} {g1 g2 : Nat} {z1 z2 z' : Zg} {T1 T2 : Nat → Prop} (h : Z2 w0 wr g1 g2 z1 z2 T1 T2) (hg : ZGo T2 wr g2 z' w') : ∃ T', Z2 w0 w' g1 g2 z1 z' T1 T' ∧ Upd T2 wr w' := by
  obtain ⟨T', hb, h1, h2, hu⟩ := hg
  refine ⟨T', ⟨h.a.upd hu fun q hq e => h.dis q hq e, hb, ⟨h.ge.1, fun q hq => ?_⟩, fun q hq e => ?_, h.bel.trans (hu.below h.bel.size fun q hq e => by have := h.ge.2 q e; omega)⟩, hu⟩
  · rcases h1 q hq with h3 | h3
    · exact h.ge.2 q h3
    · have := h.bel.size; omega
  · rcases h1 q e with h3 | h3
    · exact h.dis q hq h3
    · have := h.a.lt q hq; omega
/-- one Zig of a law -/
structure Z1 (w0 wr : World) (g : Nat) (z : Zg) (T : Nat → Prop) : Prop where
  a : ZAt T wr g z
  ge : ∀ q, T q → w0.heap.size ≤ q
  bel : Below w0.heap.size w0 wr
theorem Z1.below {w0 wr w' : World} {g : Nat} {z : Zg} {T : Nat → Prop} (h : Z1 w0 wr g z T) (hb : Below wr.heap.size wr w') : Z1 w0 w' g z T := ⟨h.a.below hb, h.ge, h.bel.trans (hb.mono h.bel.size)⟩
theorem Z1.go {w0 wr w' : World} {g : Nat} {z z' : Zg} {T : Nat → Prop} (h : Z1 w0 wr g z T) (hg : ZGo T wr g z' w') : ∃ T', Z1 w0 w' g z' T' ∧ Upd T wr w' ∧ ∀ q, T' q → T q ∨ wr.heap.size ≤ q := by
  obtain ⟨T', ha, h1, h2, hu⟩ := hg
  refine ⟨T', ⟨ha, fun q hq => ?_, h.bel.trans (hu.below h.bel.size fun q hq e => by have := h.ge q e; omega)⟩, hu, h1⟩
  rcases h1 q hq with h3 | h3
  · exact h.ge q h3
  · have := h.bel.size; omega
end
end Go.Proofs.YtefigpmkiemfhaaDoor

namespace Go.Proofs.YtefigpmkiemfhaaDoor
open Go.RowKit
set_option linter.unusedVariables false
set_option linter.unusedSimpArgs false

def lk : ByteArray := ⟨#[97]⟩
def lw (n : Int) : Wr := ⟨lk, false, ⟨1, n, ⟨#[]⟩⟩⟩
def lz0 : Zg := zg0 1 3
def lzA : Zg := lz0.claim [lk]
def lzB : Zg := lzA.apply [lw 1]
def lzC : Zg := lzB.begin 7
def lzD : Zg := lzC.apply [lw 2]
def lzE : Zg := lzD.step 9
def lzF : Zg := lzE.take
theorem ld_0 : zg0 1 3 = lz0 := rfl
theorem ld_A : lz0.claim [lk] = lzA := rfl
theorem ld_B : lzA.apply [lw 1] = lzB := rfl
theorem ld_C : lzB.begin 7 = lzC := rfl
theorem ld_D : lzC.apply [lw 2] = lzD := rfl
theorem ld_E : lzD.step 9 = lzE := rfl
theorem ld_F : lzE.take = lzF := rfl
theorem le_A : claimE lz0.s [lk] = 0 := by decide +kernel
theorem le_B : applyE lzA.s [lw 1] = 0 := by decide +kernel
theorem le_C : lzB.beginE 7 = 0 := by decide +kernel
theorem le_D : applyE lzC.s [lw 2] = 0 := by decide +kernel
theorem le_h : hasK lk lzD.s.L = true := by decide +kernel
theorem le_0 : (lzD.f lk).c0 = ⟨1, 1, ⟨#[]⟩⟩ := by decide +kernel
theorem le_1 : (lzD.f lk).c1 = ⟨1, 2, ⟨#[]⟩⟩ := by decide +kernel
theorem le_r : (lzD.f lk).r = true := by decide +kernel
theorem le_w : (lzD.f lk).w = true := by decide +kernel
theorem le_u : lzD.beginE 8 = 220 := by decide +kernel
theorem le_ub : lzD.begin 8 = lzD := by unfold Zg.begin; rw [le_u]; rfl
theorem le_n : lzD.stepN 9 = 1 := by decide +kernel
theorem le_t : lzE.canTake = true := by decide +kernel
theorem le_m : lzE.mark = 7 := by decide +kernel
theorem le_g : lzF.get lk = ⟨1, 2, ⟨#[]⟩⟩ := by decide +kernel
theorem le_kb : bytesS lzE.kept = [49, 10, 51, 10, 97, 32, 49, 10] := by decide +kernel
theorem le_fb : bytesS lzF.s = [49, 10, 51, 10, 97, 32, 50, 10] := by decide +kernel
theorem lw_rng (n : Int) (h : n = 1 ∨ n = 2) : ∀ x ∈ [lw n], x.v.rng := fun x hx => by
  rw [List.mem_singleton.1 hx]
  unfold lw Vl.rng
  rcases h with rfl | rfl <;> constructor <;> decide
theorem btS_F : btS lzF.s = ⟨#[49, 10, 51, 10, 97, 32, 50, 10]⟩ := by unfold btS; rw [le_fb]; rfl
theorem btS_E : ((btS lzF.s).toList == [49, 10, 51, 10, 97, 32, 50, 10]) = true := by rw [btS_F]; decide +kernel
theorem eq_one (w : World) : (binOp .eql 47 (.agg #[.int .i64 1, .int .i64 1, .string ⟨#[]⟩]) (.agg #[.int .i64 1, .int .i64 1, .string ⟨#[]⟩])).run Tryd.prog w = .ok (.bool true) w := by kernel_rfl
theorem eq_two (w : World) : (binOp .eql 47 (.agg #[.int .i64 1, .int .i64 2, .string ⟨#[]⟩]) (.agg #[.int .i64 1, .int .i64 2, .string ⟨#[]⟩])).run Tryd.prog w = .ok (.bool true) w := by kernel_rfl
theorem lr_E : RngZ lzE := rngz_step (rngz_apply (rngz_begin (rngz_apply (rngz_claim (rngz_new 1 3) _) (lw_rng 1 (.inl rfl))) _) (lw_rng 2 (.inr rfl))) _
theorem lr_F : RngZ lzF := rngz_take lr_E
set_option maxRecDepth 100000 in
set_option maxHeartbeats 1000000 in
theorem live_any (w : World) (he : Env w) : Calls Tryd.prog 8 #[] w fun e w' => e = .returned (.bool true) ∧ Below w.heap.size w w' := by
  have hE := hid he
  have hnw := hid (znew_ok 1 3 w (by omega) (by omega))
  rw [ld_0] at hnw
  clear he
  go_enter Tryd.func8, Tryd.ntmps8
  go_wp2_with fail
  refine hnw.out.mono ?_
  rintro e w1 ⟨T2, g, rfl, ha1, hT1, hb1⟩
  have h1 : Hid (Z1 w w1 g lz0 T2) := hid ⟨ha1, hT1, hb1⟩
  clear ha1 hT1 hb1 hnw
  go_wp2_with fail
  refine (num_any _ _).mono ?_
  rintro e wq ⟨rfl, hwq⟩
  obtain rfl := hwq.symm
  go_upto_region 6 with fail
  have hbb : Below w1.heap.size w1 ((w1.alloc (.cells #[.int .i64 1, .int .i64 1, .string ⟨#[]⟩] 47)).alloc (.cells #[.int .i64 1, .int .i64 2, .string ⟨#[]⟩] 47)) := below_two _ _
  have b1 := hid (show Blk ((w1.alloc (.cells #[.int .i64 1, .int .i64 1, .string ⟨#[]⟩] 47)).alloc (.cells #[.int .i64 1, .int .i64 2, .string ⟨#[]⟩] 47)) w1.heap.size 47 #[.int .i64 1, .int .i64 1, .string ⟨#[]⟩] from (Blk.new w1 _ _).alloc _)
  have b2 := hid (show Blk ((w1.alloc (.cells #[.int .i64 1, .int .i64 1, .string ⟨#[]⟩] 47)).alloc (.cells #[.int .i64 1, .int .i64 2, .string ⟨#[]⟩] 47)) (w1.heap.size + 1) 47 #[.int .i64 1, .int .i64 2, .string ⟨#[]⟩] from Blk.new' _ _ _ (by simp))
  have n1 : Hid (∀ q, T2 q → q ≠ w1.heap.size ∧ q ≠ w1.heap.size + 1) := hid fun q hq => by have := h1.out.a.lt q hq; omega
  have h2 := hid (h1.out.below hbb)
  have hgr : Hid (w1.heap.size + 2 ≤ ((w1.alloc (.cells #[.int .i64 1, .int .i64 1, .string ⟨#[]⟩] 47)).alloc (.cells #[.int .i64 1, .int .i64 2, .string ⟨#[]⟩] 47)).heap.size) := hid (by simp)
  clear hbb h1
  generalize (w1.alloc (.cells #[.int .i64 1, .int .i64 1, .string ⟨#[]⟩] 47)).alloc (.cells #[.int .i64 1, .int .i64 2, .string ⟨#[]⟩] 47) = w2 at *
  generalize w1.heap.size = m at *
  have hbA : Below w2.heap.size w2 (w2.alloc (.cells #[.string ⟨#[97]⟩] 9)) := (Below.refl _ _).alloc (Nat.le_refl _) _
  have x1_0 : w2.cell? ⟨m, 0, none⟩ = some (.int .i64 1) := b1.out.cell 0
  have x1_1 : w2.cell? ⟨m, 1, none⟩ = some (.int .i64 1) := b1.out.cell 1
  have x1_2 : w2.cell? ⟨m, 2, none⟩ = some (.string ⟨#[]⟩) := b1.out.cell 2
  have x2_0 : w2.cell? ⟨m + 1, 0, none⟩ = some (.int .i64 1) := b2.out.cell 0
  have x2_1 : w2.cell? ⟨m + 1, 1, none⟩ = some (.int .i64 2) := b2.out.cell 1
  have x2_2 : w2.cell? ⟨m + 1, 2, none⟩ = some (.string ⟨#[]⟩) := b2.out.cell 2
  have hc : Hid (Calls Tryd.prog 12 #[.pointer (some ⟨g, 0, none⟩), .slice (some ⟨w2.heap.size, 0, none⟩) 1 1] (w2.alloc (.cells #[.string ⟨#[97]⟩] 9)) fun e w' => e = .returned (.int .i64 0) ∧ ZGo T2 (w2.alloc (.cells #[.string ⟨#[97]⟩] 9)) g lzA w') := hid (by
    have h9 := zclaim_any (c := 1) [lk] (h2.out.a.below hbA) (Rd.new w2 9 1 1 #[.string ⟨#[97]⟩] w2.heap.size rfl rfl) (fun q hq hT => by have := h2.out.a.lt q hT; have hq : q = w2.heap.size := hq; omega) (fun x hx => by rw [List.mem_singleton.1 hx]; decide) (by decide)
    rw [le_A, ld_A] at h9
    exact h9)
  have hz := hid (h2.out.below hbA)
  have b1 := hid (b1.out.alloc (.cells #[.string ⟨#[97]⟩] 9))
  have b2 := hid (b2.out.alloc (.cells #[.string ⟨#[97]⟩] 9))
  have hgA : Hid (m + 2 ≤ (w2.alloc (.cells #[.string ⟨#[97]⟩] 9)).heap.size) := hid (by have := hgr.out; simp; omega)
  clear hgr
  go_wp2_with fail
  refine hc.out.mono ?_
  rintro e w3 ⟨rfl, hgo⟩
  obtain ⟨T3, h3, hu3, hq3⟩ := hz.out.go hgo
  have h3 := hid h3
  have b1 := hid (b1.out.upd hu3 fun e => (n1.out _ e).1 rfl)
  have b2 := hid (b2.out.upd hu3 fun e => (n1.out _ e).2 rfl)
  have n1 : Hid (∀ q, T3 q → q ≠ m ∧ q ≠ m + 1) := hid fun q hq => (hq3 q hq).elim (n1.out q) fun h => by have := hgA.out; omega
  have hgr : Hid (m + 2 ≤ w3.heap.size) := hid (by have := hgA.out; have := hu3.size; omega)
  clear hgo hu3 hq3 hc hgA hz x1_0 x1_1 x1_2 x2_0 x2_1 x2_2
  clear hbA
  have hbA : Below w3.heap.size w3 (w3.alloc (.cells #[.string ⟨#[97]⟩, .bool false, .int .i64 1, .int .i64 1, .string ⟨#[]⟩] 67)) := (Below.refl _ _).alloc (Nat.le_refl _) _
  have x1_0 : w3.cell? ⟨m, 0, none⟩ = some (.int .i64 1) := b1.out.cell 0
  have x1_1 : w3.cell? ⟨m, 1, none⟩ = some (.int .i64 1) := b1.out.cell 1
  have x1_2 : w3.cell? ⟨m, 2, none⟩ = some (.string ⟨#[]⟩) := b1.out.cell 2
  have x2_0 : w3.cell? ⟨m + 1, 0, none⟩ = some (.int .i64 1) := b2.out.cell 0
  have x2_1 : w3.cell? ⟨m + 1, 1, none⟩ = some (.int .i64 2) := b2.out.cell 1
  have x2_2 : w3.cell? ⟨m + 1, 2, none⟩ = some (.string ⟨#[]⟩) := b2.out.cell 2
  have hc : Hid (Calls Tryd.prog 13 #[.pointer (some ⟨g, 0, none⟩), .slice (some ⟨w3.heap.size, 0, none⟩) 1 1] (w3.alloc (.cells #[.string ⟨#[97]⟩, .bool false, .int .i64 1, .int .i64 1, .string ⟨#[]⟩] 67)) fun e w' => e = .returned (.int .i64 0) ∧ ZGo T3 (w3.alloc (.cells #[.string ⟨#[97]⟩, .bool false, .int .i64 1, .int .i64 1, .string ⟨#[]⟩] 67)) g lzB w') := hid (by
    have h9 := zapply_any (c := 1) [lw 1] (h3.out.a.below hbA) (Rd.new w3 67 5 1 #[.string ⟨#[97]⟩, .bool false, .int .i64 1, .int .i64 1, .string ⟨#[]⟩] w3.heap.size rfl rfl) (fun q hq hT => by have := h3.out.a.lt q hT; have hq : q = w3.heap.size := hq; omega) (fun x hx => by rw [List.mem_singleton.1 hx]; decide) (by decide)
    rw [le_B, ld_B] at h9
    exact h9)
  have hz := hid (h3.out.below hbA)
  have b1 := hid (b1.out.alloc (.cells #[.string ⟨#[97]⟩, .bool false, .int .i64 1, .int .i64 1, .string ⟨#[]⟩] 67))
  have b2 := hid (b2.out.alloc (.cells #[.string ⟨#[97]⟩, .bool false, .int .i64 1, .int .i64 1, .string ⟨#[]⟩] 67))
  have hgA : Hid (m + 2 ≤ (w3.alloc (.cells #[.string ⟨#[97]⟩, .bool false, .int .i64 1, .int .i64 1, .string ⟨#[]⟩] 67)).heap.size) := hid (by have := hgr.out; simp; omega)
  clear hgr
  go_wp2_with fail
  refine hc.out.mono ?_
  rintro e w4 ⟨rfl, hgo⟩
  obtain ⟨T4, h4, hu4, hq4⟩ := hz.out.go hgo
  have h4 := hid h4
  have b1 := hid (b1.out.upd hu4 fun e => (n1.out _ e).1 rfl)
  have b2 := hid (b2.out.upd hu4 fun e => (n1.out _ e).2 rfl)
  have n1 : Hid (∀ q, T4 q → q ≠ m ∧ q ≠ m + 1) := hid fun q hq => (hq4 q hq).elim (n1.out q) fun h => by have := hgA.out; omega
  have hgr : Hid (m + 2 ≤ w4.heap.size) := hid (by have := hgA.out; have := hu4.size; omega)
  clear hgo hu4 hq4 hc hgA hz x1_0 x1_1 x1_2 x2_0 x2_1 x2_2
  clear hbA
  have x1_0 : w4.cell? ⟨m, 0, none⟩ = some (.int .i64 1) := b1.out.cell 0
  have x1_1 : w4.cell? ⟨m, 1, none⟩ = some (.int .i64 1) := b1.out.cell 1
  have x1_2 : w4.cell? ⟨m, 2, none⟩ = some (.string ⟨#[]⟩) := b1.out.cell 2
  have x2_0 : w4.cell? ⟨m + 1, 0, none⟩ = some (.int .i64 1) := b2.out.cell 0
  have x2_1 : w4.cell? ⟨m + 1, 1, none⟩ = some (.int .i64 2) := b2.out.cell 1
  have x2_2 : w4.cell? ⟨m + 1, 2, none⟩ = some (.string ⟨#[]⟩) := b2.out.cell 2
  have hc : Hid (Calls Tryd.prog 14 #[.pointer (some ⟨g, 0, none⟩), .int .i64 7] w4 fun e w' => e = .returned (.int .i64 0) ∧ ZGo T4 w4 g lzC w') := hid (by
    have h9 := zbegin_any 7 h4.out.a
    rw [le_C, ld_C] at h9
    exact h9)
  have hz := h4
  have hgA := hgr
  clear hgr
  go_wp2_with fail
  refine hc.out.mono ?_
  rintro e w5 ⟨rfl, hgo⟩
  obtain ⟨T5, h5, hu5, hq5⟩ := hz.out.go hgo
  have h5 := hid h5
  have b1 := hid (b1.out.upd hu5 fun e => (n1.out _ e).1 rfl)
  have b2 := hid (b2.out.upd hu5 fun e => (n1.out _ e).2 rfl)
  have n1 : Hid (∀ q, T5 q → q ≠ m ∧ q ≠ m + 1) := hid fun q hq => (hq5 q hq).elim (n1.out q) fun h => by have := hgA.out; omega
  have hgr : Hid (m + 2 ≤ w5.heap.size) := hid (by have := hgA.out; have := hu5.size; omega)
  clear hgo hu5 hq5 hc hgA hz x1_0 x1_1 x1_2 x2_0 x2_1 x2_2
  have hbA : Below w5.heap.size w5 (w5.alloc (.cells #[.string ⟨#[97]⟩, .bool false, .int .i64 1, .int .i64 2, .string ⟨#[]⟩] 67)) := (Below.refl _ _).alloc (Nat.le_refl _) _
  have x1_0 : w5.cell? ⟨m, 0, none⟩ = some (.int .i64 1) := b1.out.cell 0
  have x1_1 : w5.cell? ⟨m, 1, none⟩ = some (.int .i64 1) := b1.out.cell 1
  have x1_2 : w5.cell? ⟨m, 2, none⟩ = some (.string ⟨#[]⟩) := b1.out.cell 2
  have x2_0 : w5.cell? ⟨m + 1, 0, none⟩ = some (.int .i64 1) := b2.out.cell 0
  have x2_1 : w5.cell? ⟨m + 1, 1, none⟩ = some (.int .i64 2) := b2.out.cell 1
  have x2_2 : w5.cell? ⟨m + 1, 2, none⟩ = some (.string ⟨#[]⟩) := b2.out.cell 2
  have hc : Hid (Calls Tryd.prog 13 #[.pointer (some ⟨g, 0, none⟩), .slice (some ⟨w5.heap.size, 0, none⟩) 1 1] (w5.alloc (.cells #[.string ⟨#[97]⟩, .bool false, .int .i64 1, .int .i64 2, .string ⟨#[]⟩] 67)) fun e w' => e = .returned (.int .i64 0) ∧ ZGo T5 (w5.alloc (.cells #[.string ⟨#[97]⟩, .bool false, .int .i64 1, .int .i64 2, .string ⟨#[]⟩] 67)) g lzD w') := hid (by
    have h9 := zapply_any (c := 1) [lw 2] (h5.out.a.below hbA) (Rd.new w5 67 5 1 #[.string ⟨#[97]⟩, .bool false, .int .i64 1, .int .i64 2, .string ⟨#[]⟩] w5.heap.size rfl rfl) (fun q hq hT => by have := h5.out.a.lt q hT; have hq : q = w5.heap.size := hq; omega) (fun x hx => by rw [List.mem_singleton.1 hx]; decide) (by decide)
    rw [le_D, ld_D] at h9
    exact h9)
  have hz := hid (h5.out.below hbA)
  have b1 := hid (b1.out.alloc (.cells #[.string ⟨#[97]⟩, .bool false, .int .i64 1, .int .i64 2, .string ⟨#[]⟩] 67))
  have b2 := hid (b2.out.alloc (.cells #[.string ⟨#[97]⟩, .bool false, .int .i64 1, .int .i64 2, .string ⟨#[]⟩] 67))
  have hgA : Hid (m + 2 ≤ (w5.alloc (.cells #[.string ⟨#[97]⟩, .bool false, .int .i64 1, .int .i64 2, .string ⟨#[]⟩] 67)).heap.size) := hid (by have := hgr.out; simp; omega)
  clear hgr
  go_wp2_with fail
  refine hc.out.mono ?_
  rintro e w6 ⟨rfl, hgo⟩
  obtain ⟨T6, h6, hu6, hq6⟩ := hz.out.go hgo
  have h6 := hid h6
  have b1 := hid (b1.out.upd hu6 fun e => (n1.out _ e).1 rfl)
  have b2 := hid (b2.out.upd hu6 fun e => (n1.out _ e).2 rfl)
  have n1 : Hid (∀ q, T6 q → q ≠ m ∧ q ≠ m + 1) := hid fun q hq => (hq6 q hq).elim (n1.out q) fun h => by have := hgA.out; omega
  have hgr : Hid (m + 2 ≤ w6.heap.size) := hid (by have := hgA.out; have := hu6.size; omega)
  clear hgo hu6 hq6 hc hgA hz x1_0 x1_1 x1_2 x2_0 x2_1 x2_2
  clear hbA
  have hc : Hid (Calls Tryd.prog 36 #[.pointer (some ⟨g, 0, none⟩), .string lk] w6 fun e w' => e = .returned (.tuple #[.agg #[.int .i64 1, .int .i64 1, .string ⟨#[]⟩], .agg #[.int .i64 1, .int .i64 2, .string ⟨#[]⟩]]) ∧ Below w6.heap.size w6 w') := hid (by
    have h9 := zcopies_any lk h6.out.a
    rw [if_pos le_h, le_0, le_1] at h9
    exact h9)
  go_wp2_with fail
  refine hc.out.mono ?_
  rintro e w7 ⟨rfl, hb⟩
  have h7 := hid (h6.out.below hb)
  have b1 := hid (b1.out.below_all hb)
  have b2 := hid (b2.out.below_all hb)
  have n2 := hid n1.out
  have hgr : Hid (m + 2 ≤ w7.heap.size) := hid (by have := hgr.out; have := hb.size; omega)
  clear hb hc
  go_upto_region 11 with fail
  have hbb : Below w7.heap.size w7 ((w7.alloc (.cells #[.int .i64 1, .int .i64 1, .string ⟨#[]⟩] 47)).alloc (.cells #[.int .i64 1, .int .i64 2, .string ⟨#[]⟩] 47)) := below_two _ _
  have b3 := hid (show Blk ((w7.alloc (.cells #[.int .i64 1, .int .i64 1, .string ⟨#[]⟩] 47)).alloc (.cells #[.int .i64 1, .int .i64 2, .string ⟨#[]⟩] 47)) w7.heap.size 47 #[.int .i64 1, .int .i64 1, .string ⟨#[]⟩] from (Blk.new w7 _ _).alloc _)
  have b4 := hid (show Blk ((w7.alloc (.cells #[.int .i64 1, .int .i64 1, .string ⟨#[]⟩] 47)).alloc (.cells #[.int .i64 1, .int .i64 2, .string ⟨#[]⟩] 47)) (w7.heap.size + 1) 47 #[.int .i64 1, .int .i64 2, .string ⟨#[]⟩] from Blk.new' _ _ _ (by simp))
  have n3 : Hid (∀ q, T6 q → q ≠ w7.heap.size ∧ q ≠ w7.heap.size + 1) := hid fun q hq => by have := h7.out.a.lt q hq; omega
  have h8 := hid (h7.out.below hbb)
  have b1 := hid (b1.out.below_all hbb)
  have b2 := hid (b2.out.below_all hbb)
  have hgr : Hid (m + 2 ≤ ((w7.alloc (.cells #[.int .i64 1, .int .i64 1, .string ⟨#[]⟩] 47)).alloc (.cells #[.int .i64 1, .int .i64 2, .string ⟨#[]⟩] 47)).heap.size ∧ w7.heap.size + 2 ≤ ((w7.alloc (.cells #[.int .i64 1, .int .i64 1, .string ⟨#[]⟩] 47)).alloc (.cells #[.int .i64 1, .int .i64 2, .string ⟨#[]⟩] 47)).heap.size) := hid (by have := hgr.out; simp; omega)
  clear hbb h7 n2
  generalize (w7.alloc (.cells #[.int .i64 1, .int .i64 1, .string ⟨#[]⟩] 47)).alloc (.cells #[.int .i64 1, .int .i64 2, .string ⟨#[]⟩] 47) = w8 at *
  generalize w7.heap.size = p at *
  have hc : Hid (Calls Tryd.prog 25 #[.pointer (some ⟨g, 0, none⟩), .string lk] w8 fun e w' => e = .returned (.tuple #[.int .i64 1, .int .i64 1]) ∧ Below w8.heap.size w8 w') := hid (by
    have h9 := zbits_any lk h8.out.a
    rw [if_pos le_h, le_r, le_w] at h9
    exact h9)
  go_wp2_with fail
  refine hc.out.mono ?_
  rintro e w9 ⟨rfl, hb⟩
  have h9 := hid (h8.out.below hb)
  have b1 := hid (b1.out.below_all hb)
  have b2 := hid (b2.out.below_all hb)
  have b3 := hid (b3.out.below_all hb)
  have b4 := hid (b4.out.below_all hb)
  have hgr : Hid (m + 2 ≤ w9.heap.size ∧ p + 2 ≤ w9.heap.size) := hid (by have := hgr.out; have := hb.size; omega)
  clear hb hc h8
  have hc : Hid (Calls Tryd.prog 14 #[.pointer (some ⟨g, 0, none⟩), .int .i64 8] w9 fun e w' => e = .returned (.int .i64 220) ∧ ZGo T6 w9 g lzD w') := hid (by
    have h9 := zbegin_any 8 h9.out.a
    rw [le_u, le_ub] at h9
    exact h9)
  go_wp2_with fail
  refine hc.out.mono ?_
  rintro e w10 ⟨rfl, hgo⟩
  obtain ⟨T10, h10, hu10, hq10⟩ := h9.out.go hgo
  have h10 := hid h10
  have b1 := hid (b1.out.upd hu10 fun e => (n1.out _ e).1 rfl)
  have b2 := hid (b2.out.upd hu10 fun e => (n1.out _ e).2 rfl)
  have b3 := hid (b3.out.upd hu10 fun e => (n3.out _ e).1 rfl)
  have b4 := hid (b4.out.upd hu10 fun e => (n3.out _ e).2 rfl)
  have n1 : Hid (∀ q, T10 q → q ≠ m ∧ q ≠ m + 1) := hid fun q hq => (hq10 q hq).elim (n1.out q) fun h => by have := hgr.out; omega
  have n3 : Hid (∀ q, T10 q → q ≠ p ∧ q ≠ p + 1) := hid fun q hq => (hq10 q hq).elim (n3.out q) fun h => by have := hgr.out; omega
  have hgr : Hid (m + 2 ≤ w10.heap.size ∧ p + 2 ≤ w10.heap.size) := hid (by have := hgr.out; have := hu10.size; omega)
  clear hu10 hq10
  clear hgo hc
  have hc : Hid (Calls Tryd.prog 15 #[.pointer (some ⟨g, 0, none⟩), .int .i64 9] w10 fun e w' => e = .returned (.int .i64 (1 : Nat)) ∧ ZGo T10 w10 g lzE w') := hid (by
    have h9 := zstep_any 9 h10.out.a
    rw [le_n, ld_E] at h9
    exact h9)
  go_wp2_with fail
  refine hc.out.mono ?_
  rintro e w11 ⟨rfl, hgo⟩
  obtain ⟨T11, h11, hu11, hq11⟩ := h10.out.go hgo
  have h11 := hid h11
  have b1 := hid (b1.out.upd hu11 fun e => (n1.out _ e).1 rfl)
  have b2 := hid (b2.out.upd hu11 fun e => (n1.out _ e).2 rfl)
  have b3 := hid (b3.out.upd hu11 fun e => (n3.out _ e).1 rfl)
  have b4 := hid (b4.out.upd hu11 fun e => (n3.out _ e).2 rfl)
  have n1 : Hid (∀ q, T11 q → q ≠ m ∧ q ≠ m + 1) := hid fun q hq => (hq11 q hq).elim (n1.out q) fun h => by have := hgr.out; omega
  have n3 : Hid (∀ q, T11 q → q ≠ p ∧ q ≠ p + 1) := hid fun q hq => (hq11 q hq).elim (n3.out q) fun h => by have := hgr.out; omega
  have hgr : Hid (m + 2 ≤ w11.heap.size ∧ p + 2 ≤ w11.heap.size) := hid (by have := hgr.out; have := hu11.size; omega)
  clear hu11 hq11
  clear hgo hc
  have hc := hid (ztake_any h11.out.a (fun W hW => hE.out.below (h11.out.bel.trans (hW.below h11.out.bel.size fun q hq e => by have := h11.out.ge q e; omega))) lr_E)
  go_wp2_with fail
  refine hc.out.mono ?_
  rintro e w12 ⟨hgo, mk, A12, n12, c12, rfl, hyes, _⟩
  obtain ⟨rfl, hn120, hr120⟩ := hyes le_t
  rw [ld_F] at hgo
  rw [le_t, le_m]
  obtain ⟨T12, h12, hu12, hq12⟩ := h11.out.go hgo
  have h12 := hid h12
  have b1 := hid (b1.out.upd hu12 fun e => (n1.out _ e).1 rfl)
  have b2 := hid (b2.out.upd hu12 fun e => (n1.out _ e).2 rfl)
  have b3 := hid (b3.out.upd hu12 fun e => (n3.out _ e).1 rfl)
  have b4 := hid (b4.out.upd hu12 fun e => (n3.out _ e).2 rfl)
  have n1 : Hid (∀ q, T12 q → q ≠ m ∧ q ≠ m + 1) := hid fun q hq => (hq12 q hq).elim (n1.out q) fun h => by have := hgr.out; omega
  have n3 : Hid (∀ q, T12 q → q ≠ p ∧ q ≠ p + 1) := hid fun q hq => (hq12 q hq).elim (n3.out q) fun h => by have := hgr.out; omega
  have hgr : Hid (m + 2 ≤ w12.heap.size ∧ p + 2 ≤ w12.heap.size) := hid (by have := hgr.out; have := hu12.size; omega)
  clear hu12 hq12
  have hn12 := hid hn120
  have hr12 := hid hr120
  clear hgo hc hyes hn120 hr120
  go_upto_region 15 with fail
  have b5 := hid (Blk.new w12 43 #[.int .i64 7, .slice A12 n12 c12])
  have hbb : Below w12.heap.size w12 (w12.alloc (.cells #[.int .i64 7, .slice A12 n12 c12] 43)) := (Below.refl _ _).alloc (Nat.le_refl _) _
  have h13 := hid (h12.out.below hbb)
  have hr13 := hid (hr12.out.below_all hbb)
  have b1 := hid (b1.out.below_all hbb)
  have b2 := hid (b2.out.below_all hbb)
  have b3 := hid (b3.out.below_all hbb)
  have b4 := hid (b4.out.below_all hbb)
  clear hbb h12 hr12
  generalize w12.alloc (.cells #[.int .i64 7, .slice A12 n12 c12] 43) = w13 at *
  generalize w12.heap.size = r at *
  simp only [List.append]
  refine wp_region_held_drew (S := fun _ => True) (by kernel_rfl) ?_ (fun hHeld => ?_)
  · exact True.intro
  have b1 := hid b1.out.drew
  have b2 := hid b2.out.drew
  have b3 := hid b3.out.drew
  have b4 := hid b4.out.drew
  have b5 := hid b5.out.drew
  have h13 := hid (h13.out.below (Below.refl _ _).drew)
  have hr13 := hid hr13.out.drew
  generalize World.drew w13 = w13 at *
  refine wpAnyH_more (S' := fun w'' => Below w13.heap.size w13 w'') (fun _ _ => True.intro) _ _ _ _ ?_
  have hHeld := Below.refl w13.heap.size w13
  refine wpAnyH_take (i := 0) (v := ?v1) rfl (by kernel_rfl) (by kernel_rfl) (by kernel_rfl) (fun _ _ _ h => h) (Or.inl ⟨by rfl, ?hy1⟩) (by assumption) ?rest1
  case hy1 => intro w' hSw; (try dsimp only at hSw); go_simp; try with_reducible rfl
  (try simp only [Act.put, List.setIfInBounds_toArray, List.set_cons_zero, List.set_cons_succ, List.getElem_toArray, List.getElem_cons_zero, List.getElem_cons_succ])
  refine wpAnyH_ready (rs := [1]) (by kernel_rfl) (by simp) ?_
  refine AllReadyH.cons rfl (fun K hK => ?_) AllReadyH.nil
  go_simp
  refine (num_any _ _).mono ?_
  rintro e wq ⟨rfl, hwq⟩
  obtain rfl := hwq.symm
  refine hK.out _ _ ?_ (fun hHeld => ?_)
  · exact hHeld
  clear hK K
  (try simp only [Act.put, List.setIfInBounds_toArray, List.set_cons_zero, List.set_cons_succ, List.getElem_toArray, List.getElem_cons_zero, List.getElem_cons_succ])
  refine wpAnyH_take (i := 2) (v := ?v2) rfl (by kernel_rfl) (by kernel_rfl) (by kernel_rfl) (fun _ _ _ h => h) (Or.inl ⟨by rfl, ?hy2⟩) (by assumption) ?rest2
  case hy2 => intro w' hSw; (try dsimp only at hSw); go_simp; try with_reducible rfl
  (try simp only [Act.put, List.setIfInBounds_toArray, List.set_cons_zero, List.set_cons_succ, List.getElem_toArray, List.getElem_cons_zero, List.getElem_cons_succ])
  refine wpAnyH_take (i := 3) (v := ?v3) rfl (by kernel_rfl) (by kernel_rfl) (by kernel_rfl) (fun _ _ _ h => h) (Or.inl ⟨by rfl, ?hy3⟩) (by assumption) ?rest3
  case hy3 => intro w' hSw; (try dsimp only at hSw); go_simp; try with_reducible rfl
  (try simp only [Act.put, List.setIfInBounds_toArray, List.set_cons_zero, List.set_cons_succ, List.getElem_toArray, List.getElem_cons_zero, List.getElem_cons_succ])
  refine wpAnyH_take (i := 4) (v := ?v4) rfl (by kernel_rfl) (by kernel_rfl) (by kernel_rfl) (fun _ _ _ h => h) (Or.inl ⟨by rfl, ?hy4⟩) (by assumption) ?rest4
  case hy4 => intro w' hSw; (try dsimp only at hSw); go_simp; try with_reducible rfl
  (try simp only [Act.put, List.setIfInBounds_toArray, List.set_cons_zero, List.set_cons_succ, List.getElem_toArray, List.getElem_cons_zero, List.getElem_cons_succ])
  refine wpAnyH_ready (rs := [5]) (by kernel_rfl) (by simp) ?_
  refine AllReadyH.cons rfl (fun K hK => ?_) AllReadyH.nil
  rw [if_pos (by rfl)]
  go_simp
  refine (num_any _ _).mono ?_
  rintro e wq ⟨rfl, hwq⟩
  obtain rfl := hwq.symm
  refine hK.out _ _ ?_ (fun hHeld => ?_)
  · exact hHeld
  clear hK K
  (try simp only [Act.put, List.setIfInBounds_toArray, List.set_cons_zero, List.set_cons_succ, List.getElem_toArray, List.getElem_cons_zero, List.getElem_cons_succ])
  refine wpAnyH_take (i := 6) (v := ?v5) rfl (by kernel_rfl) (by kernel_rfl) (by kernel_rfl) (fun _ _ _ h => h) (Or.inl ⟨by rfl, ?hy5⟩) (by assumption) ?rest5
  case hy5 => intro w' hSw; (try dsimp only at hSw); go_simp; try with_reducible rfl
  (try simp only [Act.put, List.setIfInBounds_toArray, List.set_cons_zero, List.set_cons_succ, List.getElem_toArray, List.getElem_cons_zero, List.getElem_cons_succ])
  refine wpAnyH_take (i := 7) (v := ?v6) rfl (by kernel_rfl) (by kernel_rfl) (by kernel_rfl) (fun _ _ _ h => h) (Or.inl ⟨by rfl, ?hy6⟩) (by assumption) ?rest6
  case hy6 => intro w' hSw; (try dsimp only at hSw); go_simp; try with_reducible rfl
  (try simp only [Act.put, List.setIfInBounds_toArray, List.set_cons_zero, List.set_cons_succ, List.getElem_toArray, List.getElem_cons_zero, List.getElem_cons_succ])
  refine wpAnyH_take (i := 8) (v := ?v7) rfl (by kernel_rfl) (by kernel_rfl) (by kernel_rfl) (fun _ _ _ h => h) (Or.inl ⟨by rfl, ?hy7⟩) (by assumption) ?rest7
  case hy7 => intro w' hSw; (try dsimp only at hSw); go_simp; try with_reducible rfl
  (try simp only [Act.put, List.setIfInBounds_toArray, List.set_cons_zero, List.set_cons_succ, List.getElem_toArray, List.getElem_cons_zero, List.getElem_cons_succ])
  refine wpAnyH_take (i := 9) (v := ?v8) rfl (by kernel_rfl) (by kernel_rfl) (by kernel_rfl) (fun _ _ _ h => h) (Or.inl ⟨by rfl, ?hy8⟩) (by assumption) ?rest8
  case hy8 => intro w' hSw; (try dsimp only at hSw); go_simp; try with_reducible rfl
  (try simp only [Act.put, List.setIfInBounds_toArray, List.set_cons_zero, List.set_cons_succ, List.getElem_toArray, List.getElem_cons_zero, List.getElem_cons_succ])
  refine wpAnyH_ready (rs := [10]) (by kernel_rfl) (by simp) ?_
  refine AllReadyH.cons rfl (fun K hK => ?_) AllReadyH.nil
  rw [if_pos (by rfl)]
  go_simp
  refine (num_any _ _).mono ?_
  rintro e wq ⟨rfl, hwq⟩
  obtain rfl := hwq.symm
  refine hK.out _ _ ?_ (fun hHeld => ?_)
  · exact hHeld
  clear hK K
  (try simp only [Act.put, List.setIfInBounds_toArray, List.set_cons_zero, List.set_cons_succ, List.getElem_toArray, List.getElem_cons_zero, List.getElem_cons_succ])
  refine wpAnyH_take (i := 11) (v := ?v9) rfl (by kernel_rfl) (by kernel_rfl) (by kernel_rfl) (fun _ _ _ h => h) (Or.inl ⟨by rfl, ?hy9⟩) (by assumption) ?rest9
  case hy9 => intro w' hSw; (try dsimp only at hSw); go_simp; try with_reducible rfl
  (try simp only [Act.put, List.setIfInBounds_toArray, List.set_cons_zero, List.set_cons_succ, List.getElem_toArray, List.getElem_cons_zero, List.getElem_cons_succ])
  refine wpAnyH_take (i := 12) (v := ?v10) rfl (by kernel_rfl) (by kernel_rfl) (by kernel_rfl) (fun _ _ _ h => h) (Or.inl ⟨by rfl, ?hy10⟩) (by assumption) ?rest10
  case hy10 => intro w' hSw; (try dsimp only at hSw); go_simp; try with_reducible rfl
  (try simp only [Act.put, List.setIfInBounds_toArray, List.set_cons_zero, List.set_cons_succ, List.getElem_toArray, List.getElem_cons_zero, List.getElem_cons_succ])
  refine wpAnyH_take (i := 13) (v := ?v11) rfl (by kernel_rfl) (by kernel_rfl) (by kernel_rfl) (fun _ _ _ h => h) (Or.inl ⟨by rfl, ?hy11⟩) (by assumption) ?rest11
  case hy11 => intro w' hSw; (try dsimp only at hSw); go_simp; try with_reducible rfl
  (try simp only [Act.put, List.setIfInBounds_toArray, List.set_cons_zero, List.set_cons_succ, List.getElem_toArray, List.getElem_cons_zero, List.getElem_cons_succ])
  refine wpAnyH_take (i := 14) (v := ?v12) rfl (by kernel_rfl) (by kernel_rfl) (by kernel_rfl) (fun _ _ _ h => h) (Or.inl ⟨by rfl, ?hy12⟩) (by assumption) ?rest12
  case hy12 => intro w' hSw; (try dsimp only at hSw); go_simp; try with_reducible rfl
  (try simp only [Act.put, List.setIfInBounds_toArray, List.set_cons_zero, List.set_cons_succ, List.getElem_toArray, List.getElem_cons_zero, List.getElem_cons_succ])
  refine wpAnyH_ready (rs := [15]) (by kernel_rfl) (by simp) ?_
  refine AllReadyH.cons rfl (fun K hK => ?_) AllReadyH.nil
  rw [if_pos (by rfl)]
  go_simp
  refine (num_any _ _).mono ?_
  rintro e wq ⟨rfl, hwq⟩
  obtain rfl := hwq.symm
  refine hK.out _ _ ?_ (fun hHeld => ?_)
  · exact hHeld
  clear hK K
  (try simp only [Act.put, List.setIfInBounds_toArray, List.set_cons_zero, List.set_cons_succ, List.getElem_toArray, List.getElem_cons_zero, List.getElem_cons_succ])
  refine wpAnyH_take (i := 16) (v := ?v13) rfl (by kernel_rfl) (by kernel_rfl) (by kernel_rfl) (fun _ _ _ h => h) (Or.inl ⟨by rfl, ?hy13⟩) (by assumption) ?rest13
  case hy13 => intro w' hSw; (try dsimp only at hSw); go_simp; try with_reducible rfl
  (try simp only [Act.put, List.setIfInBounds_toArray, List.set_cons_zero, List.set_cons_succ, List.getElem_toArray, List.getElem_cons_zero, List.getElem_cons_succ])
  refine wpAnyH_take (i := 17) (v := ?v14) rfl (by kernel_rfl) (by kernel_rfl) (by kernel_rfl) (fun _ _ _ h => h) (Or.inl ⟨by rfl, ?hy14⟩) (by assumption) ?rest14
  case hy14 => intro w' hSw; (try dsimp only at hSw); go_simp; try with_reducible rfl
  (try simp only [Act.put, List.setIfInBounds_toArray, List.set_cons_zero, List.set_cons_succ, List.getElem_toArray, List.getElem_cons_zero, List.getElem_cons_succ])
  refine wpAnyH_take (i := 18) (v := ?v15) rfl (by kernel_rfl) (by kernel_rfl) (by kernel_rfl) (fun _ _ _ h => h) (Or.inl ⟨by rfl, ?hy15⟩) (by assumption) ?rest15
  case hy15 => intro w' hSw; (try dsimp only at hSw); go_simp; try with_reducible rfl
  (try simp only [Act.put, List.setIfInBounds_toArray, List.set_cons_zero, List.set_cons_succ, List.getElem_toArray, List.getElem_cons_zero, List.getElem_cons_succ])
  refine wpAnyH_take (i := 19) (v := ?v16) rfl (by kernel_rfl) (by kernel_rfl) (by kernel_rfl) (fun _ _ _ h => h) (Or.inl ⟨by rfl, ?hy16⟩) (by assumption) ?rest16
  case hy16 => intro w' hSw; have kq := b3.out.below_all hSw; have q0 : w'.cell? ⟨p, 0, none⟩ = some (.int .i64 1) := kq.cell 0; have q1 : w'.cell? ⟨p, 1, none⟩ = some (.int .i64 1) := kq.cell 1; have q2 : w'.cell? ⟨p, 2, none⟩ = some (.string ⟨#[]⟩) := kq.cell 2; clear kq; (try dsimp only at hSw); go_simp; try with_reducible rfl
  (try simp only [Act.put, List.setIfInBounds_toArray, List.set_cons_zero, List.set_cons_succ, List.getElem_toArray, List.getElem_cons_zero, List.getElem_cons_succ])
  refine wpAnyH_take (i := 20) (v := ?v17) rfl (by kernel_rfl) (by kernel_rfl) (by kernel_rfl) (fun _ _ _ h => h) (Or.inl ⟨by rfl, ?hy17⟩) (by assumption) ?rest17
  case hy17 => intro w' hSw; have kq := b1.out.below_all hSw; have q0 : w'.cell? ⟨m, 0, none⟩ = some (.int .i64 1) := kq.cell 0; have q1 : w'.cell? ⟨m, 1, none⟩ = some (.int .i64 1) := kq.cell 1; have q2 : w'.cell? ⟨m, 2, none⟩ = some (.string ⟨#[]⟩) := kq.cell 2; clear kq; (try dsimp only at hSw); go_simp; try with_reducible rfl
  (try simp only [Act.put, List.setIfInBounds_toArray, List.set_cons_zero, List.set_cons_succ, List.getElem_toArray, List.getElem_cons_zero, List.getElem_cons_succ])
  refine wpAnyH_take (i := 21) (v := ?v18) rfl (by kernel_rfl) (by kernel_rfl) (by kernel_rfl) (fun _ _ _ h => h) (Or.inl ⟨by rfl, ?hy18⟩) (by assumption) ?rest18
  case hy18 => intro w' hSw; have qe := eq_one; have qf := eq_two; (try dsimp only at hSw); go_simp; try with_reducible rfl
  (try simp only [Act.put, List.setIfInBounds_toArray, List.set_cons_zero, List.set_cons_succ, List.getElem_toArray, List.getElem_cons_zero, List.getElem_cons_succ])
  refine wpAnyH_take (i := 22) (v := ?v19) rfl (by kernel_rfl) (by kernel_rfl) (by kernel_rfl) (fun _ _ _ h => h) (Or.inl ⟨by rfl, ?hy19⟩) (by assumption) ?rest19
  case hy19 => intro w' hSw; (try dsimp only at hSw); go_simp; try with_reducible rfl
  (try simp only [Act.put, List.setIfInBounds_toArray, List.set_cons_zero, List.set_cons_succ, List.getElem_toArray, List.getElem_cons_zero, List.getElem_cons_succ])
  refine wpAnyH_take (i := 23) (v := ?v20) rfl (by kernel_rfl) (by kernel_rfl) (by kernel_rfl) (fun _ _ _ h => h) (Or.inl ⟨by rfl, ?hy20⟩) (by assumption) ?rest20
  case hy20 => intro w' hSw; (try dsimp only at hSw); go_simp; try with_reducible rfl
  (try simp only [Act.put, List.setIfInBounds_toArray, List.set_cons_zero, List.set_cons_succ, List.getElem_toArray, List.getElem_cons_zero, List.getElem_cons_succ])
  refine wpAnyH_take (i := 24) (v := ?v21) rfl (by kernel_rfl) (by kernel_rfl) (by kernel_rfl) (fun _ _ _ h => h) (Or.inl ⟨by rfl, ?hy21⟩) (by assumption) ?rest21
  case hy21 => intro w' hSw; have kq := b4.out.below_all hSw; have q0 : w'.cell? ⟨p + 1, 0, none⟩ = some (.int .i64 1) := kq.cell 0; have q1 : w'.cell? ⟨p + 1, 1, none⟩ = some (.int .i64 2) := kq.cell 1; have q2 : w'.cell? ⟨p + 1, 2, none⟩ = some (.string ⟨#[]⟩) := kq.cell 2; clear kq; (try dsimp only at hSw); go_simp; try with_reducible rfl
  (try simp only [Act.put, List.setIfInBounds_toArray, List.set_cons_zero, List.set_cons_succ, List.getElem_toArray, List.getElem_cons_zero, List.getElem_cons_succ])
  refine wpAnyH_take (i := 25) (v := ?v22) rfl (by kernel_rfl) (by kernel_rfl) (by kernel_rfl) (fun _ _ _ h => h) (Or.inl ⟨by rfl, ?hy22⟩) (by assumption) ?rest22
  case hy22 => intro w' hSw; have kq := b2.out.below_all hSw; have q0 : w'.cell? ⟨m + 1, 0, none⟩ = some (.int .i64 1) := kq.cell 0; have q1 : w'.cell? ⟨m + 1, 1, none⟩ = some (.int .i64 2) := kq.cell 1; have q2 : w'.cell? ⟨m + 1, 2, none⟩ = some (.string ⟨#[]⟩) := kq.cell 2; clear kq; (try dsimp only at hSw); go_simp; try with_reducible rfl
  (try simp only [Act.put, List.setIfInBounds_toArray, List.set_cons_zero, List.set_cons_succ, List.getElem_toArray, List.getElem_cons_zero, List.getElem_cons_succ])
  refine wpAnyH_take (i := 26) (v := ?v23) rfl (by kernel_rfl) (by kernel_rfl) (by kernel_rfl) (fun _ _ _ h => h) (Or.inl ⟨by rfl, ?hy23⟩) (by assumption) ?rest23
  case hy23 => intro w' hSw; have qe := eq_one; have qf := eq_two; (try dsimp only at hSw); go_simp; try with_reducible rfl
  (try simp only [Act.put, List.setIfInBounds_toArray, List.set_cons_zero, List.set_cons_succ, List.getElem_toArray, List.getElem_cons_zero, List.getElem_cons_succ])
  refine wpAnyH_take (i := 27) (v := ?v24) rfl (by kernel_rfl) (by kernel_rfl) (by kernel_rfl) (fun _ _ _ h => h) (Or.inl ⟨by rfl, ?hy24⟩) (by assumption) ?rest24
  case hy24 => intro w' hSw; (try dsimp only at hSw); go_simp; try with_reducible rfl
  (try simp only [Act.put, List.setIfInBounds_toArray, List.set_cons_zero, List.set_cons_succ, List.getElem_toArray, List.getElem_cons_zero, List.getElem_cons_succ])
  refine wpAnyH_take (i := 28) (v := ?v25) rfl (by kernel_rfl) (by kernel_rfl) (by kernel_rfl) (fun _ _ _ h => h) (Or.inl ⟨by rfl, ?hy25⟩) (by assumption) ?rest25
  case hy25 => intro w' hSw; (try dsimp only at hSw); go_simp; try with_reducible rfl
  (try simp only [Act.put, List.setIfInBounds_toArray, List.set_cons_zero, List.set_cons_succ, List.getElem_toArray, List.getElem_cons_zero, List.getElem_cons_succ])
  refine wpAnyH_take (i := 29) (v := ?v26) rfl (by kernel_rfl) (by kernel_rfl) (by kernel_rfl) (fun _ _ _ h => h) (Or.inl ⟨by rfl, ?hy26⟩) (by assumption) ?rest26
  case hy26 => intro w' hSw; (try dsimp only at hSw); go_simp; try with_reducible rfl
  (try simp only [Act.put, List.setIfInBounds_toArray, List.set_cons_zero, List.set_cons_succ, List.getElem_toArray, List.getElem_cons_zero, List.getElem_cons_succ])
  refine wpAnyH_take (i := 30) (v := ?v27) rfl (by kernel_rfl) (by kernel_rfl) (by kernel_rfl) (fun _ _ _ h => h) (Or.inl ⟨by rfl, ?hy27⟩) (by assumption) ?rest27
  case hy27 => intro w' hSw; (try dsimp only at hSw); go_simp; try with_reducible rfl
  (try simp only [Act.put, List.setIfInBounds_toArray, List.set_cons_zero, List.set_cons_succ, List.getElem_toArray, List.getElem_cons_zero, List.getElem_cons_succ])
  refine wpAnyH_take (i := 31) (v := ?v28) rfl (by kernel_rfl) (by kernel_rfl) (by kernel_rfl) (fun _ _ _ h => h) (Or.inl ⟨by rfl, ?hy28⟩) (by assumption) ?rest28
  case hy28 => intro w' hSw; (try dsimp only at hSw); go_simp; try with_reducible rfl
  (try simp only [Act.put, List.setIfInBounds_toArray, List.set_cons_zero, List.set_cons_succ, List.getElem_toArray, List.getElem_cons_zero, List.getElem_cons_succ])
  refine wpAnyH_take (i := 32) (v := ?v29) rfl (by kernel_rfl) (by kernel_rfl) (by kernel_rfl) (fun _ _ _ h => h) (Or.inl ⟨by rfl, ?hy29⟩) (by assumption) ?rest29
  case hy29 => intro w' hSw; (try dsimp only at hSw); go_simp; try with_reducible rfl
  (try simp only [Act.put, List.setIfInBounds_toArray, List.set_cons_zero, List.set_cons_succ, List.getElem_toArray, List.getElem_cons_zero, List.getElem_cons_succ])
  refine wpAnyH_take (i := 33) (v := ?v30) rfl (by kernel_rfl) (by kernel_rfl) (by kernel_rfl) (fun _ _ _ h => h) (Or.inl ⟨by rfl, ?hy30⟩) (by assumption) ?rest30
  case hy30 => intro w' hSw; (try dsimp only at hSw); go_simp; try with_reducible rfl
  (try simp only [Act.put, List.setIfInBounds_toArray, List.set_cons_zero, List.set_cons_succ, List.getElem_toArray, List.getElem_cons_zero, List.getElem_cons_succ])
  refine wpAnyH_take (i := 34) (v := ?v31) rfl (by kernel_rfl) (by kernel_rfl) (by kernel_rfl) (fun _ _ _ h => h) (Or.inl ⟨by rfl, ?hy31⟩) (by assumption) ?rest31
  case hy31 => intro w' hSw; (try dsimp only at hSw); go_simp; try with_reducible rfl
  (try simp only [Act.put, List.setIfInBounds_toArray, List.set_cons_zero, List.set_cons_succ, List.getElem_toArray, List.getElem_cons_zero, List.getElem_cons_succ])
  refine wpAnyH_take (i := 35) (v := ?v32) rfl (by kernel_rfl) (by kernel_rfl) (by kernel_rfl) (fun _ _ _ h => h) (Or.inl ⟨by rfl, ?hy32⟩) (by assumption) ?rest32
  case hy32 => intro w' hSw; (try dsimp only at hSw); go_simp; try with_reducible rfl
  (try simp only [Act.put, List.setIfInBounds_toArray, List.set_cons_zero, List.set_cons_succ, List.getElem_toArray, List.getElem_cons_zero, List.getElem_cons_succ])
  refine wpAnyH_take (i := 36) (v := ?v33) rfl (by kernel_rfl) (by kernel_rfl) (by kernel_rfl) (fun _ _ _ h => h) (Or.inl ⟨by rfl, ?hy33⟩) (by assumption) ?rest33
  case hy33 => intro w' hSw; (try dsimp only at hSw); go_simp; try with_reducible rfl
  (try simp only [Act.put, List.setIfInBounds_toArray, List.set_cons_zero, List.set_cons_succ, List.getElem_toArray, List.getElem_cons_zero, List.getElem_cons_succ])
  refine wpAnyH_take (i := 37) (v := ?v34) rfl (by kernel_rfl) (by kernel_rfl) (by kernel_rfl) (fun _ _ _ h => h) (Or.inl ⟨by rfl, ?hy34⟩) (by assumption) ?rest34
  case hy34 => intro w' hSw; (try dsimp only at hSw); go_simp; try with_reducible rfl
  (try simp only [Act.put, List.setIfInBounds_toArray, List.set_cons_zero, List.set_cons_succ, List.getElem_toArray, List.getElem_cons_zero, List.getElem_cons_succ])
  refine wpAnyH_take (i := 39) (v := ?v35) rfl (by kernel_rfl) (by kernel_rfl) (by kernel_rfl) (fun _ _ _ h => h) (Or.inl ⟨by rfl, ?hy35⟩) (by assumption) ?rest35
  case hy35 => intro w' hSw; have kq := b2.out.below_all hSw; have q0 : w'.cell? ⟨m + 1, 0, none⟩ = some (.int .i64 1) := kq.cell 0; have q1 : w'.cell? ⟨m + 1, 1, none⟩ = some (.int .i64 2) := kq.cell 1; have q2 : w'.cell? ⟨m + 1, 2, none⟩ = some (.string ⟨#[]⟩) := kq.cell 2; clear kq; (try dsimp only at hSw); go_simp; try with_reducible rfl
  (try simp only [Act.put, List.setIfInBounds_toArray, List.set_cons_zero, List.set_cons_succ, List.getElem_toArray, List.getElem_cons_zero, List.getElem_cons_succ])
  refine wpAnyH_ready (rs := [38]) (by kernel_rfl) (by simp) ?_
  refine AllReadyH.cons rfl (fun K hK => ?_) AllReadyH.nil
  rw [if_pos (by rfl)]
  go_simp
  refine (show Calls Tryd.prog 18 #[.pointer (some ⟨g, 0, none⟩), .string lk] w13 fun e w' => e = .returned (.agg #[.int .i64 1, .int .i64 2, .string ⟨#[]⟩]) ∧ Below w13.heap.size w13 w' from by
    have h9 := zget_any lk h13.out.a
    rw [le_g] at h9
    exact h9).mono ?_
  rintro e w14 ⟨rfl, hb14⟩
  have h14 := hid (h13.out.below hb14)
  have hb14 := hid hb14
  refine hK.out _ _ ?_ (fun hHeld => ?_)
  · exact hb14.out
  clear hK K
  (try simp only [Act.put, List.setIfInBounds_toArray, List.set_cons_zero, List.set_cons_succ, List.getElem_toArray, List.getElem_cons_zero, List.getElem_cons_succ])
  refine wpAnyH_take (i := 40) (v := ?v36) rfl (by kernel_rfl) (by kernel_rfl) (by kernel_rfl) (fun _ _ _ h => h) (Or.inl ⟨by rfl, ?hy36⟩) (by assumption) ?rest36
  case hy36 => intro w' hSw; have qe := eq_one; have qf := eq_two; (try dsimp only at hSw); go_simp; try with_reducible rfl
  (try simp only [Act.put, List.setIfInBounds_toArray, List.set_cons_zero, List.set_cons_succ, List.getElem_toArray, List.getElem_cons_zero, List.getElem_cons_succ])
  refine wpAnyH_take (i := 41) (v := ?v37) rfl (by kernel_rfl) (by kernel_rfl) (by kernel_rfl) (fun _ _ _ h => h) (Or.inl ⟨by rfl, ?hy37⟩) (by assumption) ?rest37
  case hy37 => intro w' hSw; (try dsimp only at hSw); go_simp; try with_reducible rfl
  (try simp only [Act.put, List.setIfInBounds_toArray, List.set_cons_zero, List.set_cons_succ, List.getElem_toArray, List.getElem_cons_zero, List.getElem_cons_succ])
  refine wpAnyH_take (i := 42) (v := ?v38) rfl (by kernel_rfl) (by kernel_rfl) (by kernel_rfl) (fun _ _ _ h => h) (Or.inl ⟨by rfl, ?hy38⟩) (by assumption) ?rest38
  case hy38 => intro w' hSw; (try dsimp only at hSw); go_simp; try with_reducible rfl
  (try simp only [Act.put, List.setIfInBounds_toArray, List.set_cons_zero, List.set_cons_succ, List.getElem_toArray, List.getElem_cons_zero, List.getElem_cons_succ])
  refine wpAnyH_take (i := 43) (v := ?v39) rfl (by kernel_rfl) (by kernel_rfl) (by kernel_rfl) (fun _ _ _ h => h) (Or.inl ⟨by rfl, ?hy39⟩) (by assumption) ?rest39
  case hy39 => intro w' hSw; (try dsimp only at hSw); go_simp; try with_reducible rfl
  (try simp only [Act.put, List.setIfInBounds_toArray, List.set_cons_zero, List.set_cons_succ, List.getElem_toArray, List.getElem_cons_zero, List.getElem_cons_succ])
  refine wpAnyH_ready (rs := [44]) (by kernel_rfl) (by simp) ?_
  refine AllReadyH.cons rfl (fun K hK => ?_) AllReadyH.nil
  rw [if_pos (by rfl)]
  go_simp
  refine (num_any _ _).mono ?_
  rintro e wq ⟨rfl, hwq⟩
  obtain rfl := hwq.symm
  refine hK.out _ _ ?_ (fun hHeld => ?_)
  · exact hHeld
  clear hK K
  (try simp only [Act.put, List.setIfInBounds_toArray, List.set_cons_zero, List.set_cons_succ, List.getElem_toArray, List.getElem_cons_zero, List.getElem_cons_succ])
  refine wpAnyH_take (i := 45) (v := ?v40) rfl (by kernel_rfl) (by kernel_rfl) (by kernel_rfl) (fun _ _ _ h => h) (Or.inl ⟨by rfl, ?hy40⟩) (by assumption) ?rest40
  case hy40 => intro w' hSw; (try dsimp only at hSw); go_simp; try with_reducible rfl
  (try simp only [Act.put, List.setIfInBounds_toArray, List.set_cons_zero, List.set_cons_succ, List.getElem_toArray, List.getElem_cons_zero, List.getElem_cons_succ])
  refine wpAnyH_take (i := 46) (v := ?v41) rfl (by kernel_rfl) (by kernel_rfl) (by kernel_rfl) (fun _ _ _ h => h) (Or.inl ⟨by rfl, ?hy41⟩) (by assumption) ?rest41
  case hy41 => intro w' hSw; (try dsimp only at hSw); go_simp; try with_reducible rfl
  (try simp only [Act.put, List.setIfInBounds_toArray, List.set_cons_zero, List.set_cons_succ, List.getElem_toArray, List.getElem_cons_zero, List.getElem_cons_succ])
  refine wpAnyH_take (i := 47) (v := ?v42) rfl (by kernel_rfl) (by kernel_rfl) (by kernel_rfl) (fun _ _ _ h => h) (Or.inl ⟨by rfl, ?hy42⟩) (by assumption) ?rest42
  case hy42 => intro w' hSw; (try dsimp only at hSw); go_simp; try with_reducible rfl
  (try simp only [Act.put, List.setIfInBounds_toArray, List.set_cons_zero, List.set_cons_succ, List.getElem_toArray, List.getElem_cons_zero, List.getElem_cons_succ])
  refine wpAnyH_take (i := 48) (v := ?v43) rfl (by kernel_rfl) (by kernel_rfl) (by kernel_rfl) (fun _ _ _ h => h) (Or.inl ⟨by rfl, ?hy43⟩) (by assumption) ?rest43
  case hy43 => intro w' hSw; (try dsimp only at hSw); go_simp; try with_reducible rfl
  (try simp only [Act.put, List.setIfInBounds_toArray, List.set_cons_zero, List.set_cons_succ, List.getElem_toArray, List.getElem_cons_zero, List.getElem_cons_succ])
  refine wpAnyH_take (i := 49) (v := ?v44) rfl (by kernel_rfl) (by kernel_rfl) (by kernel_rfl) (fun _ _ _ h => h) (Or.inl ⟨by rfl, ?hy44⟩) (by assumption) ?rest44
  case hy44 => intro w' hSw; (try dsimp only at hSw); go_simp; try with_reducible rfl
  (try simp only [Act.put, List.setIfInBounds_toArray, List.set_cons_zero, List.set_cons_succ, List.getElem_toArray, List.getElem_cons_zero, List.getElem_cons_succ])
  refine wpAnyH_take (i := 50) (v := ?v45) rfl (by kernel_rfl) (by kernel_rfl) (by kernel_rfl) (fun _ _ _ h => h) (Or.inl ⟨by rfl, ?hy45⟩) (by assumption) ?rest45
  case hy45 => intro w' hSw; (try dsimp only at hSw); go_simp; try with_reducible rfl
  (try simp only [Act.put, List.setIfInBounds_toArray, List.set_cons_zero, List.set_cons_succ, List.getElem_toArray, List.getElem_cons_zero, List.getElem_cons_succ])
  refine wpAnyH_take (i := 51) (v := ?v46) rfl (by kernel_rfl) (by kernel_rfl) (by kernel_rfl) (fun _ _ _ h => h) (Or.inl ⟨by rfl, ?hy46⟩) (by assumption) ?rest46
  case hy46 => intro w' hSw; (try dsimp only at hSw); go_simp; try with_reducible rfl
  (try simp only [Act.put, List.setIfInBounds_toArray, List.set_cons_zero, List.set_cons_succ, List.getElem_toArray, List.getElem_cons_zero, List.getElem_cons_succ])
  refine wpAnyH_take (i := 52) (v := ?v47) rfl (by kernel_rfl) (by kernel_rfl) (by kernel_rfl) (fun _ _ _ h => h) (Or.inl ⟨by rfl, ?hy47⟩) (by assumption) ?rest47
  case hy47 => intro w' hSw; (try dsimp only at hSw); go_simp; try with_reducible rfl
  (try simp only [Act.put, List.setIfInBounds_toArray, List.set_cons_zero, List.set_cons_succ, List.getElem_toArray, List.getElem_cons_zero, List.getElem_cons_succ])
  refine wpAnyH_take (i := 53) (v := ?v48) rfl (by kernel_rfl) (by kernel_rfl) (by kernel_rfl) (fun _ _ _ h => h) (Or.inl ⟨by rfl, ?hy48⟩) (by assumption) ?rest48
  case hy48 => intro w' hSw; (try dsimp only at hSw); go_simp; try with_reducible rfl
  (try simp only [Act.put, List.setIfInBounds_toArray, List.set_cons_zero, List.set_cons_succ, List.getElem_toArray, List.getElem_cons_zero, List.getElem_cons_succ])
  refine wpAnyH_take (i := 54) (v := ?v49) rfl (by kernel_rfl) (by kernel_rfl) (by kernel_rfl) (fun _ _ _ h => h) (Or.inl ⟨by rfl, ?hy49⟩) (by assumption) ?rest49
  case hy49 => intro w' hSw; (try dsimp only at hSw); go_simp; try with_reducible rfl
  (try simp only [Act.put, List.setIfInBounds_toArray, List.set_cons_zero, List.set_cons_succ, List.getElem_toArray, List.getElem_cons_zero, List.getElem_cons_succ])
  refine wpAnyH_take (i := 55) (v := ?v50) rfl (by kernel_rfl) (by kernel_rfl) (by kernel_rfl) (fun _ _ _ h => h) (Or.inl ⟨by rfl, ?hy50⟩) (by assumption) ?rest50
  case hy50 => intro w' hSw; (try dsimp only at hSw); go_simp; try with_reducible rfl
  (try simp only [Act.put, List.setIfInBounds_toArray, List.set_cons_zero, List.set_cons_succ, List.getElem_toArray, List.getElem_cons_zero, List.getElem_cons_succ])
  refine wpAnyH_take (i := 56) (v := ?v51) rfl (by kernel_rfl) (by kernel_rfl) (by kernel_rfl) (fun _ _ _ h => h) (Or.inl ⟨by rfl, ?hy51⟩) (by assumption) ?rest51
  case hy51 => intro w' hSw; have kq := b5.out.below_all hSw; have q0 : w'.cell? ⟨r, 0, none⟩ = some (.int .i64 7) := kq.cell 0; have q1 : w'.cell? ⟨r, 1, none⟩ = some (.slice A12 n12 c12) := kq.cell 1; clear kq; (try dsimp only at hSw); go_simp; try with_reducible rfl
  (try simp only [Act.put, List.setIfInBounds_toArray, List.set_cons_zero, List.set_cons_succ, List.getElem_toArray, List.getElem_cons_zero, List.getElem_cons_succ])
  refine wpAnyH_take (i := 57) (v := ?v52) rfl (by kernel_rfl) (by kernel_rfl) (by kernel_rfl) (fun _ _ _ h => h) (Or.inl ⟨by rfl, ?hy52⟩) (by assumption) ?rest52
  case hy52 => intro w' hSw; (try dsimp only at hSw); go_simp; try with_reducible rfl
  (try simp only [Act.put, List.setIfInBounds_toArray, List.set_cons_zero, List.set_cons_succ, List.getElem_toArray, List.getElem_cons_zero, List.getElem_cons_succ])
  refine wpAnyH_take (i := 58) (v := ?v53) rfl (by kernel_rfl) (by kernel_rfl) (by kernel_rfl) (fun _ _ _ h => h) (Or.inl ⟨by rfl, ?hy53⟩) (by assumption) ?rest53
  case hy53 => intro w' hSw; (try dsimp only at hSw); go_simp; try with_reducible rfl
  (try simp only [Act.put, List.setIfInBounds_toArray, List.set_cons_zero, List.set_cons_succ, List.getElem_toArray, List.getElem_cons_zero, List.getElem_cons_succ])
  refine wpAnyH_take (i := 59) (v := ?v54) rfl (by kernel_rfl) (by kernel_rfl) (by kernel_rfl) (fun _ _ _ h => h) (Or.inl ⟨by rfl, ?hy54⟩) (by assumption) ?rest54
  case hy54 => intro w' hSw; (try dsimp only at hSw); go_simp; try with_reducible rfl
  (try simp only [Act.put, List.setIfInBounds_toArray, List.set_cons_zero, List.set_cons_succ, List.getElem_toArray, List.getElem_cons_zero, List.getElem_cons_succ])
  refine wpAnyH_take (i := 60) (v := ?v55) rfl (by kernel_rfl) (by kernel_rfl) (by kernel_rfl) (fun _ _ _ h => h) (Or.inl ⟨by rfl, ?hy55⟩) (by assumption) ?rest55
  case hy55 => intro w' hSw; (try dsimp only at hSw); go_simp; try with_reducible rfl
  (try simp only [Act.put, List.setIfInBounds_toArray, List.set_cons_zero, List.set_cons_succ, List.getElem_toArray, List.getElem_cons_zero, List.getElem_cons_succ])
  refine wpAnyH_take (i := 61) (v := ?v56) rfl (by kernel_rfl) (by kernel_rfl) (by kernel_rfl) (fun _ _ _ h => h) (Or.inl ⟨by rfl, ?hy56⟩) (by assumption) ?rest56
  case hy56 => intro w' hSw; have kq := b5.out.below_all hSw; have q0 : w'.cell? ⟨r, 0, none⟩ = some (.int .i64 7) := kq.cell 0; have q1 : w'.cell? ⟨r, 1, none⟩ = some (.slice A12 n12 c12) := kq.cell 1; clear kq; (try dsimp only at hSw); go_simp; try with_reducible rfl
  (try simp only [Act.put, List.setIfInBounds_toArray, List.set_cons_zero, List.set_cons_succ, List.getElem_toArray, List.getElem_cons_zero, List.getElem_cons_succ])
  refine wpAnyH_take (i := 62) (v := ?v57) rfl (by kernel_rfl) (by kernel_rfl) (by kernel_rfl) (fun _ _ _ h => h) (Or.inl ⟨by rfl, ?hy57⟩) (by assumption) ?rest57
  case hy57 => intro w' hSw; have h9 := convB (c := c12) (hr13.out.below_all hSw) (by rw [List.length_map, hn12.out]); rw [le_kb] at h9; have h8 : (convert 22 9 (.slice A12 n12 c12)).run Tryd.prog w' = .ok (.string ⟨#[49, 10, 51, 10, 97, 32, 49, 10]⟩) w' := h9; clear h9; (try dsimp only at hSw); go_simp; try with_reducible rfl
  (try simp only [Act.put, List.setIfInBounds_toArray, List.set_cons_zero, List.set_cons_succ, List.getElem_toArray, List.getElem_cons_zero, List.getElem_cons_succ])
  refine wpAnyH_take (i := 63) (v := ?v58) rfl (by kernel_rfl) (by kernel_rfl) (by kernel_rfl) (fun _ _ _ h => h) (Or.inl ⟨by rfl, ?hy58⟩) (by assumption) ?rest58
  case hy58 => intro w' hSw; (try dsimp only at hSw); go_simp; try with_reducible rfl
  (try simp only [Act.put, List.setIfInBounds_toArray, List.set_cons_zero, List.set_cons_succ, List.getElem_toArray, List.getElem_cons_zero, List.getElem_cons_succ])
  refine wpAnyH_take (i := 64) (v := ?v59) rfl (by kernel_rfl) (by kernel_rfl) (by kernel_rfl) (fun _ _ _ h => h) (Or.inl ⟨by rfl, ?hy59⟩) (by assumption) ?rest59
  case hy59 => intro w' hSw; (try dsimp only at hSw); go_simp; try with_reducible rfl
  (try simp only [Act.put, List.setIfInBounds_toArray, List.set_cons_zero, List.set_cons_succ, List.getElem_toArray, List.getElem_cons_zero, List.getElem_cons_succ])
  refine wpAnyH_take (i := 65) (v := ?v60) rfl (by kernel_rfl) (by kernel_rfl) (by kernel_rfl) (fun _ _ _ h => h) (Or.inl ⟨by rfl, ?hy60⟩) (by assumption) ?rest60
  case hy60 => intro w' hSw; (try dsimp only at hSw); go_simp; try with_reducible rfl
  (try simp only [Act.put, List.setIfInBounds_toArray, List.set_cons_zero, List.set_cons_succ, List.getElem_toArray, List.getElem_cons_zero, List.getElem_cons_succ])
  refine wpAnyH_take (i := 66) (v := ?v61) rfl (by kernel_rfl) (by kernel_rfl) (by kernel_rfl) (fun _ _ _ h => h) (Or.inl ⟨by rfl, ?hy61⟩) (by assumption) ?rest61
  case hy61 => intro w' hSw; (try dsimp only at hSw); go_simp; try with_reducible rfl
  (try simp only [Act.put, List.setIfInBounds_toArray, List.set_cons_zero, List.set_cons_succ, List.getElem_toArray, List.getElem_cons_zero, List.getElem_cons_succ])
  refine wpAnyH_ready (rs := [67]) (by kernel_rfl) (by simp) ?_
  refine AllReadyH.cons rfl (fun K hK => ?_) AllReadyH.nil
  rw [if_pos (by rfl)]
  go_simp
  refine (zbytes_any h14.out.a (hE.out.below h14.out.bel) lr_F.2.2).mono ?_
  rintro e w15 ⟨A15, n15, c15, rfl, hcv0, hb15⟩
  have hcv0 := hid hcv0
  have hfb := hid (h14.out.bel.trans (hb15.mono h14.out.bel.size))
  have hb13 := hid (hb14.out.trans (hb15.mono hb14.out.size))
  clear hb15
  refine hK.out _ _ ?_ (fun hHeld => ?_)
  · exact hb13.out
  clear hK K
  (try simp only [Act.put, List.setIfInBounds_toArray, List.set_cons_zero, List.set_cons_succ, List.getElem_toArray, List.getElem_cons_zero, List.getElem_cons_succ])
  refine wpAnyH_more (S' := fun w'' => Below w15.heap.size w15 w'') (fun w h => hb13.out.trans (Below.mono h hb13.out.size)) _ _ _ _ ?_
  have hHeld := Below.refl w15.heap.size w15
  refine wpAnyH_take (i := 68) (v := ?v62) rfl (by kernel_rfl) (by kernel_rfl) (by kernel_rfl) (fun _ _ _ h => h) (Or.inl ⟨by rfl, ?hy62⟩) (by assumption) ?rest62
  case hy62 => intro w' hSw; have h9 := hcv0.out w' hSw; unfold btS at h9; rw [le_fb] at h9; have h8 : (convert 22 9 (.slice A15 n15 c15)).run Tryd.prog w' = .ok (.string ⟨#[49, 10, 51, 10, 97, 32, 50, 10]⟩) w' := h9; clear h9; (try dsimp only at hSw); go_simp; try with_reducible rfl
  (try simp only [Act.put, List.setIfInBounds_toArray, List.set_cons_zero, List.set_cons_succ, List.getElem_toArray, List.getElem_cons_zero, List.getElem_cons_succ])
  refine wpAnyH_take (i := 69) (v := ?v63) rfl (by kernel_rfl) (by kernel_rfl) (by kernel_rfl) (fun _ _ _ h => h) (Or.inl ⟨by rfl, ?hy63⟩) (by assumption) ?rest63
  case hy63 => intro w' hSw; (try dsimp only at hSw); go_simp; try with_reducible rfl
  (try simp only [Act.put, List.setIfInBounds_toArray, List.set_cons_zero, List.set_cons_succ, List.getElem_toArray, List.getElem_cons_zero, List.getElem_cons_succ])
  refine wpAnyH_take (i := 70) (v := ?v64) rfl (by kernel_rfl) (by kernel_rfl) (by kernel_rfl) (fun _ _ _ h => h) (Or.inl ⟨by rfl, ?hy64⟩) (by assumption) ?rest64
  case hy64 => intro w' hSw; (try dsimp only at hSw); go_simp; try with_reducible rfl
  (try simp only [Act.put, List.setIfInBounds_toArray, List.set_cons_zero, List.set_cons_succ, List.getElem_toArray, List.getElem_cons_zero, List.getElem_cons_succ])
  refine wpAnyH_take (i := 71) (v := ?v65) rfl (by kernel_rfl) (by kernel_rfl) (by kernel_rfl) (fun _ _ _ h => h) (Or.inl ⟨by rfl, ?hy65⟩) (by assumption) ?rest65
  case hy65 => intro w' hSw; (try dsimp only at hSw); go_simp; try with_reducible rfl
  (try simp only [Act.put, List.setIfInBounds_toArray, List.set_cons_zero, List.set_cons_succ, List.getElem_toArray, List.getElem_cons_zero, List.getElem_cons_succ])
  refine wpAnyH_done (by kernel_rfl) ?_ _
  go_wp2_with fail
  go_ret
  exact ⟨by rw [btS_E]; rfl, hfb.out⟩
end Go.Proofs.YtefigpmkiemfhaaDoor

namespace Go.Proofs.YtefigpmkiemfhaaDoor
open Go.RowKit
set_option linter.unusedVariables false
set_option linter.unusedSimpArgs false

set_option maxRecDepth 100000 in
theorem nil_ZClaim (w : World) : Calls Tryd.prog 12 #[.pointer none, .slice none 0 0] w fun e w' => e = .returned (.int .i64 0) ∧ w' = w := by
  go_enter Tryd.func12, Tryd.ntmps12
  go_wp2_with fail
  go_ret
  exact ⟨rfl, rfl⟩
set_option maxRecDepth 100000 in
theorem nil_ZApply (w : World) : Calls Tryd.prog 13 #[.pointer none, .slice none 0 0] w fun e w' => e = .returned (.int .i64 0) ∧ w' = w := by
  go_enter Tryd.func13, Tryd.ntmps13
  go_wp2_with fail
  go_ret
  exact ⟨rfl, rfl⟩
set_option maxRecDepth 100000 in
theorem nil_ZBegin (w : World) : Calls Tryd.prog 14 #[.pointer none, .int .i64 1] w fun e w' => e = .returned (.int .i64 0) ∧ w' = w := by
  go_enter Tryd.func14, Tryd.ntmps14
  go_wp2_with fail
  go_ret
  exact ⟨rfl, rfl⟩
set_option maxRecDepth 100000 in
theorem nil_ZStep (w : World) : Calls Tryd.prog 15 #[.pointer none, .int .i64 1] w fun e w' => e = .returned (.int .i64 0) ∧ w' = w := by
  go_enter Tryd.func15, Tryd.ntmps15
  go_wp2_with fail
  go_ret
  exact ⟨rfl, rfl⟩
set_option maxRecDepth 100000 in
theorem nil_ZDrop (w : World) : Calls Tryd.prog 17 #[.pointer none] w fun e w' => e = .returned (.bool false) ∧ w' = w := by
  go_enter Tryd.func17, Tryd.ntmps17
  go_wp2_with fail
  go_ret
  exact ⟨rfl, rfl⟩
set_option maxRecDepth 100000 in
theorem nil_ZRest (w : World) : Calls Tryd.prog 29 #[.pointer none] w fun e w' => e = .returned (.int .i64 0) ∧ w' = w := by
  go_enter Tryd.func29, Tryd.ntmps29
  go_wp2_with fail
  go_ret
  exact ⟨rfl, rfl⟩
set_option maxRecDepth 100000 in
theorem nil_ZBits (w : World) : Calls Tryd.prog 25 #[.pointer none, .string ⟨#[97]⟩] w fun e w' => e = .returned (.tuple #[.int .i64 0, .int .i64 0]) ∧ w' = w := by
  go_enter Tryd.func25, Tryd.ntmps25
  go_wp2_with fail
  go_ret2
  exact ⟨rfl, rfl⟩
set_option maxRecDepth 100000 in
theorem nil_ZBytes (w : World) : Calls Tryd.prog 19 #[.pointer none] w fun e w' => e = .returned (.slice none 0 0) ∧ w' = w := by
  go_enter Tryd.func19, Tryd.ntmps19
  go_wp2_with fail
  go_ret
  exact ⟨rfl, rfl⟩
set_option maxRecDepth 100000 in
theorem nil_PClaim (w : World) : Calls Tryd.prog 31 #[.pointer none, .slice none 0 0] w fun e w' => e = .returned (.int .i64 0) ∧ w' = w := by
  go_enter Tryd.func31, Tryd.ntmps31
  go_wp2_with fail
  go_ret
  exact ⟨rfl, rfl⟩
set_option maxRecDepth 100000 in
theorem nil_PApply (w : World) : Calls Tryd.prog 32 #[.pointer none, .slice none 0 0] w fun e w' => e = .returned (.int .i64 0) ∧ w' = w := by
  go_enter Tryd.func32, Tryd.ntmps32
  go_wp2_with fail
  go_ret
  exact ⟨rfl, rfl⟩
set_option maxRecDepth 100000 in
theorem nil_PBegin (w : World) : Calls Tryd.prog 33 #[.pointer none, .int .i64 1] w fun e w' => e = .returned (.int .i64 0) ∧ w' = w := by
  go_enter Tryd.func33, Tryd.ntmps33
  go_wp2_with fail
  go_ret
  exact ⟨rfl, rfl⟩
set_option maxRecDepth 100000 in
theorem nil_PCopied (w : World) : Calls Tryd.prog 34 #[.pointer none] w fun e w' => e = .returned (.int .i64 0) ∧ w' = w := by
  go_enter Tryd.func34, Tryd.ntmps34
  go_wp2_with fail
  go_ret
  exact ⟨rfl, rfl⟩
set_option maxRecDepth 100000 in
theorem nil_ZGet (w : World) : Calls Tryd.prog 18 #[.pointer none, .string ⟨#[97]⟩] w fun e w' => e = .returned (.agg #[.int .i64 0, .int .i64 0, .string ⟨#[]⟩]) ∧ Below w.heap.size w w' := by
  have hB0 : Below w.heap.size w (w.alloc (.cells #[.int .i64 0, .int .i64 0, .string ⟨#[]⟩] 47)) := (Below.refl _ _).alloc (Nat.le_refl _) _
  have kb := hid (Blk.new w 47 #[.int .i64 0, .int .i64 0, .string ⟨#[]⟩])
  have hB := hid hB0
  clear hB0
  go_enter Tryd.func18, Tryd.ntmps18
  go_upto_region 1 with fail
  generalize w.alloc (.cells #[.int .i64 0, .int .i64 0, .string ⟨#[]⟩] 47) = w1 at *
  have fz := fun q => kb.out.frozen q
  have z0 : w1.cell? ⟨w.heap.size, 0, none⟩ = some (.int .i64 0) := kb.out.cell 0
  have z1 : w1.cell? ⟨w.heap.size, 1, none⟩ = some (.int .i64 0) := kb.out.cell 1
  have z2 : w1.cell? ⟨w.heap.size, 2, none⟩ = some (.string ⟨#[]⟩) := kb.out.cell 2
  have hlt := kb.out.lt
  go_wp2_with fail
  refine bodyPost_ret (v := .agg #[.int .i64 0, .int .i64 0, .string ⟨#[]⟩]) ?_ rfl ⟨rfl, (((hB.out.setCell (p := ⟨w.heap.size, 0, none⟩) (Nat.le_refl _) _).setCell (p := ⟨w.heap.size, 1, none⟩) (Nat.le_refl _) _).setCell (p := ⟨w.heap.size, 2, none⟩) (Nat.le_refl _) _)⟩
  exact results_cell_row (P := Tryd.prog) rfl _ _ w.heap.size 47 _ (0, 0) _ rfl (show Blk _ _ _ #[.int .i64 0, .int .i64 0, .string ⟨#[]⟩] from by simpa using (((kb.out.set_ 0 (.int .i64 0)).set_ 1 (.int .i64 0)).set_ 2 (.string ⟨#[]⟩))) Tryd.underlying47 rfl (by kernel_rfl)
set_option maxRecDepth 100000 in
theorem nil_PGet (w : World) : Calls Tryd.prog 35 #[.pointer none, .string ⟨#[97]⟩] w fun e w' => e = .returned (.agg #[.int .i64 0, .int .i64 0, .string ⟨#[]⟩]) ∧ Below w.heap.size w w' := by
  have hB0 : Below w.heap.size w (w.alloc (.cells #[.int .i64 0, .int .i64 0, .string ⟨#[]⟩] 47)) := (Below.refl _ _).alloc (Nat.le_refl _) _
  have kb := hid (Blk.new w 47 #[.int .i64 0, .int .i64 0, .string ⟨#[]⟩])
  have hB := hid hB0
  clear hB0
  go_enter Tryd.func35, Tryd.ntmps35
  go_upto_region 1 with fail
  generalize w.alloc (.cells #[.int .i64 0, .int .i64 0, .string ⟨#[]⟩] 47) = w1 at *
  have fz := fun q => kb.out.frozen q
  have z0 : w1.cell? ⟨w.heap.size, 0, none⟩ = some (.int .i64 0) := kb.out.cell 0
  have z1 : w1.cell? ⟨w.heap.size, 1, none⟩ = some (.int .i64 0) := kb.out.cell 1
  have z2 : w1.cell? ⟨w.heap.size, 2, none⟩ = some (.string ⟨#[]⟩) := kb.out.cell 2
  have hlt := kb.out.lt
  go_wp2_with fail
  refine bodyPost_ret (v := .agg #[.int .i64 0, .int .i64 0, .string ⟨#[]⟩]) ?_ rfl ⟨rfl, (((hB.out.setCell (p := ⟨w.heap.size, 0, none⟩) (Nat.le_refl _) _).setCell (p := ⟨w.heap.size, 1, none⟩) (Nat.le_refl _) _).setCell (p := ⟨w.heap.size, 2, none⟩) (Nat.le_refl _) _)⟩
  exact results_cell_row (P := Tryd.prog) rfl _ _ w.heap.size 47 _ (0, 0) _ rfl (show Blk _ _ _ #[.int .i64 0, .int .i64 0, .string ⟨#[]⟩] from by simpa using (((kb.out.set_ 0 (.int .i64 0)).set_ 1 (.int .i64 0)).set_ 2 (.string ⟨#[]⟩))) Tryd.underlying47 rfl (by kernel_rfl)
set_option maxRecDepth 100000 in
theorem nil_ZTake (w : World) : Calls Tryd.prog 16 #[.pointer none] w fun e w' => e = .returned (.tuple #[.agg #[.int .i64 0, .slice none 0 0], .bool false]) ∧ Below w.heap.size w w' := by
  have hB0 : Below w.heap.size w (w.alloc (.cells #[.int .i64 0, .slice none 0 0] 43)) := (Below.refl _ _).alloc (Nat.le_refl _) _
  have kb := hid (Blk.new w 43 #[.int .i64 0, .slice none 0 0])
  have hB := hid hB0
  clear hB0
  go_enter Tryd.func16, Tryd.ntmps16
  go_upto_region 1 with fail
  generalize w.alloc (.cells #[.int .i64 0, .slice none 0 0] 43) = w1 at *
  have fz := fun q => kb.out.frozen q
  have z0 : w1.cell? ⟨w.heap.size, 0, none⟩ = some (.int .i64 0) := kb.out.cell 0
  have z1 : w1.cell? ⟨w.heap.size, 1, none⟩ = some (.slice none 0 0) := kb.out.cell 1
  have hlt := kb.out.lt
  go_wp2_with fail
  refine bodyPost_ret (v := .tuple #[.agg #[.int .i64 0, .slice none 0 0], .bool false]) ?_ rfl ⟨rfl, ((hB.out.setCell (p := ⟨w.heap.size, 0, none⟩) (Nat.le_refl _) _).setCell (p := ⟨w.heap.size, 1, none⟩) (Nat.le_refl _) _)⟩
  exact take_res (show Blk _ _ _ #[.int .i64 0, .slice none 0 0] from by simpa using ((kb.out.set_ 0 (.int .i64 0)).set_ 1 (.slice none 0 0))) rfl rfl ⟨rfl, rfl⟩
theorem ptake_res {W : World} {n : Nat} {a v : Value} {tmps : Array Value} {f : Bool} (ha : Blk W n 43 #[a, v]) (h2 : tmps.getD 2 undef = .pointer (some ⟨n, 0, none⟩)) (h3 : tmps.getD 3 undef = .bool f) (hone : a.cells = #[a] ∧ v.cells = #[v]) :
    (results Tryd.f30 tmps).run Tryd.prog W = .ok (.tuple #[.agg #[a, v], .bool f]) W := by
  have x0 := ha.cell 0
  have x1 := ha.cell 1
  simp only [List.getElem?_toArray, List.getElem?_cons_zero, List.getElem?_cons_succ] at x0 x1
  have g2 : tmps[2]?.getD undef = .pointer (some ⟨n, 0, none⟩) := by simpa using h2
  have g3 : tmps[3]?.getD undef = .bool f := by simpa using h3
  simp [Go.results, Tryd.results30, asAddr, g2, g3, go_sem, x0, x1]
set_option maxRecDepth 100000 in
theorem nil_PTake (w : World) : Calls Tryd.prog 30 #[.pointer none] w fun e w' => e = .returned (.tuple #[.agg #[.int .i64 0, .slice none 0 0], .bool false]) ∧ Below w.heap.size w w' := by
  have hB0 : Below w.heap.size w (w.alloc (.cells #[.int .i64 0, .slice none 0 0] 43)) := (Below.refl _ _).alloc (Nat.le_refl _) _
  have kb := hid (Blk.new w 43 #[.int .i64 0, .slice none 0 0])
  have hB := hid hB0
  clear hB0
  go_enter Tryd.func30, Tryd.ntmps30
  go_upto_region 1 with fail
  generalize w.alloc (.cells #[.int .i64 0, .slice none 0 0] 43) = w1 at *
  have fz := fun q => kb.out.frozen q
  have z0 : w1.cell? ⟨w.heap.size, 0, none⟩ = some (.int .i64 0) := kb.out.cell 0
  have z1 : w1.cell? ⟨w.heap.size, 1, none⟩ = some (.slice none 0 0) := kb.out.cell 1
  have hlt := kb.out.lt
  go_wp2_with fail
  refine bodyPost_ret (v := .tuple #[.agg #[.int .i64 0, .slice none 0 0], .bool false]) ?_ rfl ⟨rfl, ((hB.out.setCell (p := ⟨w.heap.size, 0, none⟩) (Nat.le_refl _) _).setCell (p := ⟨w.heap.size, 1, none⟩) (Nat.le_refl _) _)⟩
  exact ptake_res (show Blk _ _ _ #[.int .i64 0, .slice none 0 0] from by simpa using ((kb.out.set_ 0 (.int .i64 0)).set_ 1 (.slice none 0 0))) rfl rfl ⟨rfl, rfl⟩
set_option maxRecDepth 100000 in
theorem nil_ZCopies (w : World) : Calls Tryd.prog 36 #[.pointer none, .string ⟨#[97]⟩] w fun e w' => e = .returned (.tuple #[.agg #[.int .i64 0, .int .i64 0, .string ⟨#[]⟩], .agg #[.int .i64 0, .int .i64 0, .string ⟨#[]⟩]]) ∧ Below w.heap.size w w' := by
  have hB0 : Below w.heap.size w ((w.alloc (.cells #[.int .i64 0, .int .i64 0, .string ⟨#[]⟩] 47)).alloc (.cells #[.int .i64 0, .int .i64 0, .string ⟨#[]⟩] 47)) := below_two _ _
  have kA : Hid (Blk ((w.alloc (.cells #[.int .i64 0, .int .i64 0, .string ⟨#[]⟩] 47)).alloc (.cells #[.int .i64 0, .int .i64 0, .string ⟨#[]⟩] 47)) w.heap.size 47 #[.int .i64 0, .int .i64 0, .string ⟨#[]⟩]) := hid ((Blk.new w _ _).alloc _)
  have kB : Hid (Blk ((w.alloc (.cells #[.int .i64 0, .int .i64 0, .string ⟨#[]⟩] 47)).alloc (.cells #[.int .i64 0, .int .i64 0, .string ⟨#[]⟩] 47)) (w.heap.size + 1) 47 #[.int .i64 0, .int .i64 0, .string ⟨#[]⟩]) := hid (Blk.new' _ _ _ (by simp))
  have hB := hid hB0
  clear hB0
  go_enter Tryd.func36, Tryd.ntmps36
  go_upto_region 1 with fail
  generalize ((w.alloc (.cells #[.int .i64 0, .int .i64 0, .string ⟨#[]⟩] 47)).alloc (.cells #[.int .i64 0, .int .i64 0, .string ⟨#[]⟩] 47)) = w1 at *
  have fz := fun q => kA.out.frozen q
  have fy := fun q => kB.out.frozen q
  have z0 : w1.cell? ⟨w.heap.size, 0, none⟩ = some (.int .i64 0) := kA.out.cell 0
  have u0 : w1.cell? ⟨w.heap.size + 1, 0, none⟩ = some (.int .i64 0) := kB.out.cell 0
  have z1 : w1.cell? ⟨w.heap.size, 1, none⟩ = some (.int .i64 0) := kA.out.cell 1
  have u1 : w1.cell? ⟨w.heap.size + 1, 1, none⟩ = some (.int .i64 0) := kB.out.cell 1
  have z2 : w1.cell? ⟨w.heap.size, 2, none⟩ = some (.string ⟨#[]⟩) := kA.out.cell 2
  have u2 : w1.cell? ⟨w.heap.size + 1, 2, none⟩ = some (.string ⟨#[]⟩) := kB.out.cell 2
  have hlt := kA.out.lt
  have hlu := kB.out.lt
  go_wp2_with fail
  have KA : Blk _ _ _ _ := (show Blk _ _ _ #[.int .i64 0, .int .i64 0, .string ⟨#[]⟩] from by simpa using ((((((kA.out.set_ 0 (.int .i64 0)).set_ 1 (.int .i64 0)).set_ 2 (.string ⟨#[]⟩)).far (p := ⟨w.heap.size + 1, 0, none⟩) (by show w.heap.size ≠ w.heap.size + 1; omega) (.int .i64 0)).far (p := ⟨w.heap.size + 1, 1, none⟩) (by show w.heap.size ≠ w.heap.size + 1; omega) (.int .i64 0)).far (p := ⟨w.heap.size + 1, 2, none⟩) (by show w.heap.size ≠ w.heap.size + 1; omega) (.string ⟨#[]⟩)))
  have KB : Blk _ _ _ _ := (show Blk _ _ _ #[.int .i64 0, .int .i64 0, .string ⟨#[]⟩] from by simpa using ((((((kB.out.far (p := ⟨w.heap.size, 0, none⟩) (by show w.heap.size + 1 ≠ w.heap.size; omega) (.int .i64 0)).far (p := ⟨w.heap.size, 1, none⟩) (by show w.heap.size + 1 ≠ w.heap.size; omega) (.int .i64 0)).far (p := ⟨w.heap.size, 2, none⟩) (by show w.heap.size + 1 ≠ w.heap.size; omega) (.string ⟨#[]⟩)).set_ 0 (.int .i64 0)).set_ 1 (.int .i64 0)).set_ 2 (.string ⟨#[]⟩)))
  refine bodyPost_ret (v := .tuple #[.agg #[.int .i64 0, .int .i64 0, .string ⟨#[]⟩], .agg #[.int .i64 0, .int .i64 0, .string ⟨#[]⟩]]) ?_ rfl ⟨rfl, ((((((hB.out.setCell (p := ⟨w.heap.size, 0, none⟩) (Nat.le_refl _) _).setCell (p := ⟨w.heap.size, 1, none⟩) (Nat.le_refl _) _).setCell (p := ⟨w.heap.size, 2, none⟩) (Nat.le_refl _) _).setCell (p := ⟨w.heap.size + 1, 0, none⟩) (Nat.le_succ _) _).setCell (p := ⟨w.heap.size + 1, 1, none⟩) (Nat.le_succ _) _).setCell (p := ⟨w.heap.size + 1, 2, none⟩) (Nat.le_succ _) _)⟩
  exact two_cells (a := vl0) (b := vl0) KA KB rfl rfl
theorem eq_vl0 (w : World) : (binOp .eql 47 (.agg #[.int .i64 0, .int .i64 0, .string ⟨#[]⟩]) (.agg #[.int .i64 0, .int .i64 0, .string ⟨#[]⟩])).run Tryd.prog w = .ok (.bool true) w := by kernel_rfl
theorem ne_vl0 (w : World) : (binOp .neq 47 (.agg #[.int .i64 0, .int .i64 0, .string ⟨#[]⟩]) (.agg #[.int .i64 0, .int .i64 0, .string ⟨#[]⟩])).run Tryd.prog w = .ok (.bool false) w := by kernel_rfl
set_option maxRecDepth 100000 in
set_option maxHeartbeats 4000000 in
theorem nil_walk (w : World) (he : Env w) : Calls Tryd.prog 6 #[] w fun e w' => e = .returned (.bool true) ∧ Below w.heap.size w w' := by
  have hE := hid he
  have hB0 : Hid (Below w.heap.size w w) := hid (Below.refl _ _)
  have hq := eq_vl0
  have hn := ne_vl0
  clear he
  go_enter Tryd.func6, Tryd.ntmps6
  go_wp2_with fail
  refine (nil_PTake _).mono ?_
  rintro e w1 ⟨rfl, hb⟩
  have hB1 := hid (hB0.out.trans (hb.mono hB0.out.size))
  clear hb
  go_upto_region 4 with fail
  have hB2 := hid (hB1.out.alloc hB1.out.size (.cells #[.int .i64 0, .slice none 0 0] 43))
  generalize w1.alloc (.cells #[.int .i64 0, .slice none 0 0] 43) = w2 at *
  go_wp2_with fail
  refine (nil_PClaim _).mono ?_
  rintro e wq ⟨rfl, hwq⟩
  obtain rfl := hwq.symm
  go_wp2_with fail
  refine (num_any _ _).mono ?_
  rintro e wq ⟨rfl, hwq⟩
  obtain rfl := hwq.symm
  go_wp2_with fail
  refine (nil_PApply _).mono ?_
  rintro e wq ⟨rfl, hwq⟩
  obtain rfl := hwq.symm
  go_wp2_with fail
  refine (num_any _ _).mono ?_
  rintro e wq ⟨rfl, hwq⟩
  obtain rfl := hwq.symm
  go_wp2_with fail
  refine (nil_PBegin _).mono ?_
  rintro e wq ⟨rfl, hwq⟩
  obtain rfl := hwq.symm
  go_wp2_with fail
  refine (num_any _ _).mono ?_
  rintro e wq ⟨rfl, hwq⟩
  obtain rfl := hwq.symm
  go_wp2_with fail
  refine (nil_PCopied _).mono ?_
  rintro e wq ⟨rfl, hwq⟩
  obtain rfl := hwq.symm
  go_wp2_with fail
  refine (nil_PGet _).mono ?_
  rintro e w3 ⟨rfl, hb⟩
  have hB3 := hid (hB2.out.trans (hb.mono hB2.out.size))
  clear hb
  go_wp2_with fail
  refine (nil_ZTake _).mono ?_
  rintro e w4 ⟨rfl, hb⟩
  have hB4 := hid (hB3.out.trans (hb.mono hB3.out.size))
  clear hb
  go_upto_region 7 with fail
  have hB5 := hid (hB4.out.alloc hB4.out.size (.cells #[.int .i64 0, .slice none 0 0] 43))
  generalize w4.alloc (.cells #[.int .i64 0, .slice none 0 0] 43) = w5 at *
  go_wp2_with fail
  refine (nil_ZCopies _).mono ?_
  rintro e w6 ⟨rfl, hb⟩
  have hB6 := hid (hB5.out.trans (hb.mono hB5.out.size))
  clear hb
  go_upto_region 8 with fail
  have hB7 : Hid (Below w.heap.size w ((w6.alloc (.cells #[.int .i64 0, .int .i64 0, .string ⟨#[]⟩] 47)).alloc (.cells #[.int .i64 0, .int .i64 0, .string ⟨#[]⟩] 47))) := hid (hB6.out.trans ((below_two _ _).mono hB6.out.size))
  have k7 := hid (show Blk ((w6.alloc (.cells #[.int .i64 0, .int .i64 0, .string ⟨#[]⟩] 47)).alloc (.cells #[.int .i64 0, .int .i64 0, .string ⟨#[]⟩] 47)) w6.heap.size 47 #[.int .i64 0, .int .i64 0, .string ⟨#[]⟩] from (Blk.new w6 _ _).alloc _)
  have k8 := hid (show Blk ((w6.alloc (.cells #[.int .i64 0, .int .i64 0, .string ⟨#[]⟩] 47)).alloc (.cells #[.int .i64 0, .int .i64 0, .string ⟨#[]⟩] 47)) (w6.heap.size + 1) 47 #[.int .i64 0, .int .i64 0, .string ⟨#[]⟩] from Blk.new' _ _ _ (by simp))
  generalize ((w6.alloc (.cells #[.int .i64 0, .int .i64 0, .string ⟨#[]⟩] 47)).alloc (.cells #[.int .i64 0, .int .i64 0, .string ⟨#[]⟩] 47)) = w7 at *
  generalize w6.heap.size = m at *
  try simp only [List.append]
  go_wp2_with fail
  refine (nil_ZBits _).mono ?_
  rintro e wq ⟨rfl, hwq⟩
  obtain rfl := hwq.symm
  go_wp2_with fail
  refine (live_any _ (hE.out.below hB7.out)).mono ?_
  rintro e w8 ⟨rfl, hb⟩
  have hB8 := hid (hB7.out.trans (hb.mono hB7.out.size))
  have k7 := hid (k7.out.below_all hb)
  have k8 := hid (k8.out.below_all hb)
  clear hb
  have x0 : w8.cell? ⟨m, 0, none⟩ = some (.int .i64 0) := k7.out.cell 0
  have y0 : w8.cell? ⟨m + 1, 0, none⟩ = some (.int .i64 0) := k8.out.cell 0
  have x1 : w8.cell? ⟨m, 1, none⟩ = some (.int .i64 0) := k7.out.cell 1
  have y1 : w8.cell? ⟨m + 1, 1, none⟩ = some (.int .i64 0) := k8.out.cell 1
  have x2 : w8.cell? ⟨m, 2, none⟩ = some (.string ⟨#[]⟩) := k7.out.cell 2
  have y2 : w8.cell? ⟨m + 1, 2, none⟩ = some (.string ⟨#[]⟩) := k8.out.cell 2
  go_wp2_with fail
  refine (nil_ZClaim _).mono ?_
  rintro e wq ⟨rfl, hwq⟩
  obtain rfl := hwq.symm
  go_wp2_with fail
  refine (num_any _ _).mono ?_
  rintro e wq ⟨rfl, hwq⟩
  obtain rfl := hwq.symm
  go_wp2_with fail
  refine (nil_ZApply _).mono ?_
  rintro e wq ⟨rfl, hwq⟩
  obtain rfl := hwq.symm
  go_wp2_with fail
  refine (num_any _ _).mono ?_
  rintro e wq ⟨rfl, hwq⟩
  obtain rfl := hwq.symm
  go_wp2_with fail
  refine (nil_ZBegin _).mono ?_
  rintro e wq ⟨rfl, hwq⟩
  obtain rfl := hwq.symm
  go_wp2_with fail
  refine (num_any _ _).mono ?_
  rintro e wq ⟨rfl, hwq⟩
  obtain rfl := hwq.symm
  go_wp2_with fail
  refine (nil_ZStep _).mono ?_
  rintro e wq ⟨rfl, hwq⟩
  obtain rfl := hwq.symm
  go_wp2_with fail
  refine (nil_ZDrop _).mono ?_
  rintro e wq ⟨rfl, hwq⟩
  obtain rfl := hwq.symm
  go_wp2_with fail
  refine (nil_ZRest _).mono ?_
  rintro e wq ⟨rfl, hwq⟩
  obtain rfl := hwq.symm
  go_wp2_with fail
  refine (nil_ZGet _).mono ?_
  rintro e w9 ⟨rfl, hb⟩
  have hB9 := hid (hB8.out.trans (hb.mono hB8.out.size))
  clear hb
  go_wp2_with fail
  refine (nil_ZBytes _).mono ?_
  rintro e wq ⟨rfl, hwq⟩
  obtain rfl := hwq.symm
  go_wp2_with fail
  go_ret
  exact ⟨rfl, hB9.out⟩
end Go.Proofs.YtefigpmkiemfhaaDoor

namespace Go.Proofs.YtefigpmkiemfhaaDoor
open Go.ChangeShapes Go.WideShapes Go.ChangeAt Go.RowKit

theorem trodAll_below {H : Type} {enc : TypeId × Value → H} {P : Program} (hl : laidOutB P = true) {W W' : World} (hb : Below W.heap.size W W') :
    ∀ {ts : List TypeId} {vs : List Value} {ds : List (DataW H)} {ps : List MemPlace}, ts.all (fun t => P.readableRec t && decide (t < P.types.size)) = true → (∀ x ∈ ps, x.block < W.heap.size) →
      DataW.TrodAll enc P W 0 (fun _ => true) true ts vs ds ps → DataW.TrodAll enc P W' 0 (fun b => decide (b < W.heap.size)) true ts vs ds ps := by
  intro ts
  induction ts with
  | nil =>
    intro vs ds ps _ _ h
    obtain ⟨rfl, rfl, rfl⟩ := trodAll_nil h
    exact trodAll_mk0
  | cons t ts ih =>
    intro vs ds ps hr hlt h
    obtain ⟨v, vs', d, ds', p, q, rfl, rfl, rfl, h0, h1⟩ := trodAll_cons h
    simp only [List.all_cons, Bool.and_eq_true, decide_eq_true_eq] at hr
    exact trodAll_cons_mk (Below.trod hl hr.1.1 hr.1.2 h0 hb fun x hx => hlt x (List.mem_append_left _ hx)) (ih hr.2 (fun x hx => hlt x (List.mem_append_right _ hx)) h1)

theorem law_post {H : Type} {enc : TypeId × Value → H} {P : Program} {f : Func} {s : ChangeSpec} {W W' : World} {args : Array Value} {ds gs : List (DataW H)} {before : List MemPlace} {tb : TypeId}
    (hl : laidOutB P = true) (hrow : f.params.toList.all (fun t => P.readableRec t && decide (t < P.types.size)) = true) (hres : f.resultTypes = #[tb]) (htb : P.underlying tb = some .bool)
    (hv : s.vars = []) (hW : DataW.Whole enc P f.params.toList s.vars false W args.toList ds gs before)
    (hs : (s.fn H (ds ++ gs)).results = [.lit (.bool true)]) (ha : (s.fn H (ds ++ gs)).args = ds) (hvs : (s.fn H (ds ++ gs)).vars = []) (hb : Below W.heap.size W W') :
    s.post enc P f false true false false W args (.bool true) W' := by
  have hlt : ∀ p ∈ before, p.block < W.heap.size := fun p hp => hW.lt p hp
  have hW' := hW
  obtain ⟨p, q, hA, hV, rfl, _, _⟩ := hW
  rw [hv] at hV
  obtain ⟨rfl, rfl⟩ := trodVars_none hV
  refine ⟨ds, [], _, [], p, [], hW', ?_, ?_, ?_, World.keptBut_mono (fun x hx => ?_) (hb.frame (· ∈ p)), fun h => by cases h⟩
  · rw [hs, hres]
    exact trodAll_cons_mk (shut_bool htb _) trodAll_mk0
  · rw [ha]
    exact trodAll_below hl hb hrow (fun x hx => hlt x (List.mem_append_left _ hx)) hA
  · rw [hv, hvs]; rfl
  · exact ⟨by simpa using hx, .inr (.inl hx)⟩

end Go.Proofs.YtefigpmkiemfhaaDoor

namespace Go.Proofs.YtefigpmkiemfhaaDoor
open Go.RowKit Go.ChangeShapes
set_option linter.unusedVariables false
set_option linter.unusedSimpArgs false
set_option maxRecDepth 100000

def lst : List (String × DataW Unit) := [("math/bits.deBruijn32tab", Rows.laid_math_bits_deBruijn32tab), ("math/bits.deBruijn64tab", Rows.laid_math_bits_deBruijn64tab), ("internal/strconv.uint64pow10", Rows.laid_internal_strconv_uint64pow10), ("bytes.ErrTooLarge", Rows.laid_bytes_ErrTooLarge)]
/-- so many blocks has the settled world -/
noncomputable def low : Nat := (World.holding Tryd.prog default ⟨#[], #[], []⟩).heap.size
def u8s (l : List Int) : Array Value := (l.map fun n => Value.int .u8 n).toArray
noncomputable def laidWorld (os : Os) : World :=
  let w0 := World.holding Tryd.prog os ⟨#[.cells #[.string ⟨#[98, 121, 116, 101, 115, 46, 66, 117, 102, 102, 101, 114, 58, 32, 116, 111, 111, 32, 108, 97, 114, 103, 101]⟩] 161], #[], []⟩
  { w0 with heap := (((w0.heap.modify 0 fun
      | .cells _ t frozen => .cells #[.iface 145 (.pointer (some ⟨low, 0, none⟩))] t frozen
      | o => o).modify 2 fun
      | .cells _ t frozen => .cells (Lib.pow10Tab.map fun z => Value.int .u64 z).toArray t frozen
      | o => o).modify 3 fun
      | .cells _ t frozen => .cells (u8s [0, 1, 28, 2, 29, 14, 24, 3, 30, 22, 20, 15, 25, 17, 4, 8, 31, 27, 13, 23, 21, 19, 16, 7, 26, 12, 18, 6, 11, 5, 10, 9]) t frozen
      | o => o).modify 4 fun
      | .cells _ t frozen => .cells (u8s [0, 1, 56, 2, 57, 49, 28, 3, 61, 58, 42, 50, 38, 29, 17, 4, 62, 47, 59, 36, 45, 43, 51, 22, 53, 39, 33, 30, 24, 18, 12, 5, 63, 55, 48, 27, 60, 41, 37, 16, 46, 35, 44, 21, 52, 32, 23, 11, 54, 26, 40, 15, 34, 20, 31, 10, 25, 14, 19, 9, 13, 8, 7, 6]) t frozen
      | o => o }
theorem laid_met (os : Os) (args : Array Value) : laidMet Tryd.prog lst ((laidWorld os).forCall (fun _ _ => 0) ⟨#[], args, []⟩).memory :=
  laidMet_of_run' 8 (by kernel_rfl) (by kernel_rfl)
end Go.Proofs.YtefigpmkiemfhaaDoor

namespace Go.Proofs.YtefigpmkiemfhaaDoor
open Go.RowKit Go.ChangeShapes
set_option linter.unusedVariables false
set_option linter.unusedSimpArgs false
set_option maxRecDepth 100000

theorem ty_pow : (Tryd.prog.globals[2]?).map (·.type) = some 140 := by kernel_rfl
theorem co_pow : Tryd.prog.cellsOf 140 = 20 := by kernel_rfl
theorem co_u64 : Tryd.prog.cellsOf 103 = 1 := by kernel_rfl
theorem pow_data : (Rows.laid_internal_strconv_uint64pow10 : DataW Unit) = Lib.tabData .u64 Lib.pow10Tab := by kernel_rfl
theorem env_of_laid {W : World} (h : laidMet Tryd.prog lst W) : Env W := by
  have h3 : laidMet Tryd.prog (("internal/strconv.uint64pow10", Lib.tabData .u64 Lib.pow10Tab) :: [("bytes.ErrTooLarge", Rows.laid_bytes_ErrTooLarge)]) W := by
    have := h.tail.tail
    rw [pow_data] at this
    exact this
  refine ⟨Lib.tabIs_of_head gPow ty_pow Tryd.underlying140 Tryd.underlying103 co_u64 co_pow h3, ?_⟩
  obtain ⟨ps, ⟨g', t', cs, fuel, p, q, hg', ht', hvar, _⟩, _⟩ := h.tail
  have e : Tryd.prog.globalNamed "math/bits.deBruijn64tab" = some 4 := by kernel_rfl
  unfold World.var? at hvar
  rw [e] at hvar
  simp only [Option.bind_some] at hvar
  have : ∃ o, W.heap[4]? = some o := by
    cases ho : W.heap[4]? with
    | none => rw [ho] at hvar; cases hvar
    | some o => exact ⟨o, rfl⟩
  obtain ⟨o, ho⟩ := this
  have := (Array.getElem?_eq_some_iff.1 ho).1
  omega
end Go.Proofs.YtefigpmkiemfhaaDoor

