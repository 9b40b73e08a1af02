/- Texts of the proof, joined: SActs, SStory, YAns, SLift, SOpen, YOpen. -/
import Derived.Test.YtefigpmkiemfhaaDoorN05
import Derived.Test.YtefigpmkiemfhaaDoorN10
import Derived.Test.YtefigpmkiemfhaaDoorN09
import Derived.Deep.CutBlock
import Derived.Deep.Slices
import Derived.Lib.SmallJoins
namespace Go.Proofs.YtefigpmkiemfhaaDoor
open Go.RowKit
set_option linter.unusedVariables false
set_option linter.unusedSimpArgs false

/-- an act -/
structure SA where
  kind : Int
  ks : List ByteArray
  ws : List Wr
  A1 : Option Addr
  c1 : Nat
  A2 : Option Addr
  c2 : Nat
def scells (a : SA) : List Value := [.int .i64 a.kind, .slice a.A1 a.ks.length a.c1, .slice a.A2 a.ws.length a.c2]
def SA.ok (S : Nat → Prop) (w : World) (a : SA) : Prop := Rd S w 1 a.A1 a.ks.length (strs a.ks) ∧ Rd S w 5 a.A2 a.ws.length (wrCells a.ws)
structure SActs (S : Nat → Prop) (w : World) (A : Option Addr) (us : List SA) : Prop where
  row : Rd S w 3 A us.length (us.flatMap scells)
  ok : ∀ a ∈ us, a.ok S w
theorem SActs.keep {S : Nat → Prop} {w w' : World} {A : Option Addr} {us : List SA} (h : SActs S w A us) (hk : ∀ b, S b → b < w.heap.size → w'.heap[b]? = w.heap[b]?) : SActs S w' A us := ⟨h.row.keep hk, fun a ha => ⟨(h.ok a ha).1.keep hk, (h.ok a ha).2.keep hk⟩⟩
theorem SActs.below {S : Nat → Prop} {w w' : World} {A : Option Addr} {us : List SA} (h : SActs S w A us) (hb : Below w.heap.size w w') : SActs S w' A us := h.keep fun b _ hl => hb.block b hl
theorem aflat_at {α : Type} (f : α → List Value) (sz : Nat) (hf : ∀ a, (f a).length = sz) (l : List α) (k j : Nat) (h : k < l.length) (hj : j < sz) : (l.flatMap f)[k * sz + j]? = (f l[k])[j]? := by
  induction l generalizing k with
  | nil => simp at h
  | cons x l ih =>
    rw [List.flatMap_cons]
    cases k with
    | zero => rw [List.getElem?_append_left (by rw [hf]; omega)]; simp
    | succ k =>
      rw [List.getElem?_append_right (by rw [hf, Nat.succ_mul]; omega), hf, show (k + 1) * sz + j - sz = k * sz + j by rw [Nat.succ_mul]; omega, ih k (by simpa using h)]
      simp
theorem SActs.at_ {S : Nat → Prop} {w : World} {A : Option Addr} {us : List SA} {k : Nat} (h : SActs S w A us) (hk : k < us.length) : ∃ b o, A = some ⟨b, o, none⟩ ∧ S b ∧ b < w.heap.size ∧ us[k].ok S w ∧
    w.cell? ⟨b, o + k * 3, none⟩ = some (.int .i64 us[k].kind) ∧ w.cell? ⟨b, o + k * 3 + 1, none⟩ = some (.slice us[k].A1 us[k].ks.length us[k].c1) ∧ w.cell? ⟨b, o + k * 3 + 2, none⟩ = some (.slice us[k].A2 us[k].ws.length us[k].c2) := by
  obtain ⟨b, o, e, hS, hl, hc⟩ := h.row.at_ hk
  have g := fun j (hj : j < 3) u (hu : (scells us[k])[j]? = some u) => hc (k * 3 + j) u (by rw [aflat_at scells 3 (fun _ => rfl) us k j hk hj]; exact hu)
  simp only [← Nat.add_assoc] at g
  exact ⟨b, o, e, hS, hl, h.ok _ (List.getElem_mem hk), g 0 (by omega) _ rfl, g 1 (by omega) _ rfl, g 2 (by omega) _ rfl⟩
def partA (a : SA) : Nat := a.ks.length + a.ws.length
def partsA (us : List SA) : Nat := (us.map partA).sum
theorem partsA_take (us : List SA) (k : Nat) (h : k < us.length) : partsA (us.take (k + 1)) = partsA (us.take k) + partA us[k] := by
  unfold partsA
  rw [List.take_succ_eq_append_getElem h, List.map_append, List.sum_append, List.map_cons, List.map_nil, List.sum_cons, List.sum_nil]
  omega
theorem sum_take_le (l : List Nat) (k : Nat) : (l.take k).sum ≤ l.sum := by
  induction l generalizing k with
  | nil => simp
  | cons a l ih =>
    cases k with
    | zero => simp
    | succ k => have := ih k; simp; omega
theorem partsA_le (us : List SA) (k : Nat) : partsA (us.take k) ≤ partsA us := by
  unfold partsA
  have := sum_take_le (us.map partA) k
  rwa [← List.map_take] at this
theorem partsA_mem {us : List SA} {a : SA} (h : a ∈ us) : partA a ≤ partsA us := by
  unfold partsA
  induction us with
  | nil => cases h
  | cons x l ih =>
    rw [List.map_cons, List.sum_cons]
    rcases List.mem_cons.1 h with rfl | h
    · omega
    · have := ih h; omega
def longB (us : List SA) : Bool := decide (200 < us.length) || decide (6000 < partsA us)
end Go.Proofs.YtefigpmkiemfhaaDoor

namespace Go.Proofs.YtefigpmkiemfhaaDoor
open Go.RowKit
set_option linter.unusedVariables false

theorem SActs.all {S : Nat → Prop} {w : World} {A : Option Addr} {us : List SA} (h : SActs S w A us) : SActs (fun b => b < w.heap.size) w A us := ⟨h.row.all, fun a ha => ⟨(h.ok a ha).1.all, (h.ok a ha).2.all⟩⟩
def okKs (ks : List ByteArray) : Prop := ∀ k ∈ ks, k.size ≤ 9223372036854775806
def okWs (ws : List Wr) : Prop := ∀ x ∈ ws, x.key.size ≤ 9223372036854775806 ∧ x.v.s.size ≤ 9223372036854775806
section
variable {w w' : World} {B : Nat}
theorem cell_bel {b o : Nat} {v : Value} (h : Below B w w') (hb : b < B) (hc : w.cell? ⟨b, o, none⟩ = some v) : w'.cell? ⟨b, o, none⟩ = some v := (Upd.of_below (M := fun j => B ≤ j) h fun _ _ h => h).cell hc (by omega)
end
end Go.Proofs.YtefigpmkiemfhaaDoor

namespace Go.Proofs.YtefigpmkiemfhaaDoor
open Go.RowKit
set_option linter.unusedVariables false
set_option linter.unusedSimpArgs false

theorem zlong_no {us : List ZA} {nb : Nat} (h : longZ us nb = false) : us.length ≤ 200 ∧ ∀ a ∈ us, a.ks.length ≤ 3000 ∧ a.ws.length ≤ 3000 := by
  unfold longZ at h
  simp at h
  refine ⟨by omega, fun a ha => ?_⟩
  have := partsZ_mem ha
  unfold partZ at this
  omega
theorem good_pr {p r : Int} (h : goodPR p r = true) : ∃ p' r' : Nat, p = p' ∧ r = r' ∧ (1 ≤ p' ∧ p' ≤ 64) ∧ (1 ≤ r' ∧ r' ≤ 4096) := by
  unfold goodPR at h
  simp at h
  exact ⟨p.toNat, r.toNat, by omega, by omega, by omega, by omega⟩


/-- within a round: both Zigs have one store -/
structure ARel (w1 wr : World) (g1 g2 : Nat) (z1 z2 : Zg) (T1 T2 : Nat → Prop) : Prop where
  two : Z2 w1 wr g1 g2 z1 z2 T1 T2
  one : z1.s = z2.s
  r1 : RngZ z1
  r2 : RngZ z2
theorem claim_s (z : Zg) (ks : List ByteArray) : (z.claim ks).s = claimS z.s ks := by
  unfold Zg.claim
  split
  · rfl
  · rename_i h; rw [claimS_no h]
theorem apply_s (z : Zg) (ws : List Wr) : (z.apply ws).s = applyS z.s ws := by
  unfold Zg.apply
  split
  · rfl
  · rename_i h; rw [applyS_no h]
theorem begin_s (z : Zg) (m : Int) : (z.begin m).s = z.s := by unfold Zg.begin; split <;> rfl
theorem take_s (z : Zg) : z.take.s = z.s := by unfold Zg.take; split <;> rfl
theorem drop_s (z : Zg) : z.drop.s = z.s := by unfold Zg.drop; split <;> rfl
theorem neqValZ (a : Vl) (w : World) : (binOp .neq 47 (.agg #[.int .i64 a.k, .int .i64 a.n, .string a.s]) (.agg #[.int .i64 a.k, .int .i64 a.n, .string a.s])).run Tryd.prog w = .ok (.bool false) w := by
  rw [run_neq_struct, run_eqVal]; simp [Result.andThen]
theorem step_s (z : Zg) (n : Int) : (z.step n).s = z.s := rfl
theorem ARel.below {w1 wr w' : World} {g1 g2 : Nat} {z1 z2 : Zg} {T1 T2 : Nat → Prop} (h : ARel w1 wr g1 g2 z1 z2 T1 T2) (hb : Below wr.heap.size wr w') : ARel w1 w' g1 g2 z1 z2 T1 T2 := ⟨h.two.below hb, h.one, h.r1, h.r2⟩
structure OwnQ (S : Nat → Prop) (w' : World) (a : ZA) (B1 B2 : Option Addr) : Prop where
  ks : Rd S w' 1 B1 a.ks.length (strs a.ks)
  ws : Rd S w' 5 B2 a.ws.length (wrCells a.ws)
theorem OwnQ.more {S S' : Nat → Prop} {w : World} {a : ZA} {B1 B2 : Option Addr} (h : OwnQ S w a B1 B2) (hm : ∀ q, S q → q < w.heap.size → S' q) : OwnQ S' w a B1 B2 := ⟨h.ks.more hm, h.ws.more hm⟩
theorem OwnQ.below {S : Nat → Prop} {w w' : World} {a : ZA} {B1 B2 : Option Addr} (h : OwnQ S w a B1 B2) (hb : Below w.heap.size w w') : OwnQ S w' a B1 B2 := ⟨h.ks.below_all hb, h.ws.below_all hb⟩
theorem OwnQ.upd {S M : Nat → Prop} {w w' : World} {a : ZA} {B1 B2 : Option Addr} (h : OwnQ S w a B1 B2) (hu : Upd M w w') (hM : ∀ q, S q → ¬ M q) : OwnQ S w' a B1 B2 := ⟨h.ks.upd hu hM, h.ws.upd hu hM⟩
theorem set_act {W : World} {m : Nat} {t : TypeId} {u0 u1 u2 u3 u4 : Value} (h : Blk W m t #[u0, u1, u2, u3, u4]) (v0 v1 v2 v3 v4 : Value) :
    Blk (((((W.setCell ⟨m, 0, none⟩ v0).setCell ⟨m, 1, none⟩ v1).setCell ⟨m, 2, none⟩ v2).setCell ⟨m, 3, none⟩ v3).setCell ⟨m, 4, none⟩ v4) m t #[v0, v1, v2, v3, v4] ∧ Upd (fun q => q = m) W (((((W.setCell ⟨m, 0, none⟩ v0).setCell ⟨m, 1, none⟩ v1).setCell ⟨m, 2, none⟩ v2).setCell ⟨m, 3, none⟩ v3).setCell ⟨m, 4, none⟩ v4) :=
  ⟨by simpa using ((((h.set_ 0 v0).set_ 1 v1).set_ 2 v2).set_ 3 v3).set_ 4 v4, (((((Upd.refl (fun q => q = m) W).setCell (p := ⟨m, 0, none⟩) (fun _ => rfl) v0).setCell (p := ⟨m, 1, none⟩) (fun _ => rfl) v1).setCell (p := ⟨m, 2, none⟩) (fun _ => rfl) v2).setCell (p := ⟨m, 3, none⟩) (fun _ => rfl) v3).setCell (p := ⟨m, 4, none⟩) (fun _ => rfl) v4⟩
theorem set_act' {W : World} {m : Nat} {t : TypeId} {u0 u1 u2 u3 u4 : Value} (h : Blk W m t #[u0, u1, u2, u3, u4]) (v0 v1 v2 v3 v4 : Value) :
    ∃ W', ((((W.setCell ⟨m, 0, none⟩ v0).setCell ⟨m, 1, none⟩ v1).setCell ⟨m, 2, none⟩ v2).setCell ⟨m, 3, none⟩ v3).setCell ⟨m, 4, none⟩ v4 = W' ∧ Blk W' m t #[v0, v1, v2, v3, v4] ∧ Upd (fun q => q = m) W W' := ⟨_, rfl, set_act h v0 v1 v2 v3 v4⟩
section
variable {w : World}
set_option maxRecDepth 100000 in
set_option maxHeartbeats 60000000 in
theorem answers_any (p r : Int) {A B C : Option Addr} {c nb cb f : Nat} {us : List ZA} {ks : List ByteArray} (h : ZActs (fun b => b < w.heap.size) w A us) (hn : us.length ≤ 1048576) (hp : partsZ us ≤ 1048576) (hnb : nb ≤ 1048576) (hz0 : ∀ a ∈ us, okKs a.ks ∧ okWs a.ws) (hv0 : ∀ a ∈ us, ∀ x ∈ a.ws, x.v.rng)
    (hk0 : Rd (fun b => b < w.heap.size) w 1 C ks.length (strs ks)) (hkn : ks.length ≤ 1048576) (he0 : Env w) :
    Calls Tryd.prog 3 #[.agg #[.slice B nb cb, .int .i64 p, .int .i64 r, .slice A us.length c], .slice C ks.length f] w fun e w' => e = .returned (.bool true) ∧ Below w.heap.size w w' := by
  have hB0 : Below w.heap.size w (w.alloc (.cells #[.slice B nb cb, .int .i64 p, .int .i64 r, .slice A us.length c] 25)) := (Below.refl _ _).alloc (Nat.le_refl _) _
  have kb := hid (Blk.new w 25 #[.slice B nb cb, .int .i64 p, .int .i64 r, .slice A us.length c])
  have hs := hid h
  have hks := hid hk0
  have hB := hid hB0
  have hE := hid he0
  have hlong := hid (zlong_any (cb := cb) (c := c) (B := B) p r (h.below hB0) hn hp hnb)
  have hz := hid hz0
  have hv := hid hv0
  have hkn := hid hkn
  clear h hB0 hn hp hnb hz0 hv0 hk0 he0
  go_enter Tryd.func3, Tryd.ntmps3
  go_upto_region 1 with fail
  generalize hW1 : w.alloc (.cells #[.slice B nb cb, .int .i64 p, .int .i64 r, .slice A us.length c] 25) = w1 at *
  have hsz1 : Hid (w1.heap.size = w.heap.size + 1) := hid (by rw [← hW1]; simp)
  clear hW1
  have x0 := kb.out.cell 0
  have x1 := kb.out.cell 1
  have x2 := kb.out.cell 2
  have x3 := kb.out.cell 3
  simp only [List.getElem?_toArray, List.getElem?_cons_zero, List.getElem?_cons_succ] at x0 x1 x2 x3
  go_wp2_with fail
  refine hlong.out.mono ?_
  rintro e w2 ⟨rfl, hb2⟩
  have kb2 := hid (kb.out.below_all hb2)
  have hB2 := hid (hB.out.trans (hb2.mono (by have := hsz1.out; omega)))
  clear hb2 hlong hB kb x0 x1 x2 x3
  cases hl : longZ us nb with
  | true =>
    clear hl
    go_wp2_with fail
    refine (live_any _ (hE.out.below hB2.out)).mono ?_
    rintro e wv ⟨rfl, hbv⟩
    have hfb := hid ((hB2.out).trans (hbv.mono (hB2.out).size))
    clear hbv
    go_wp2_with fail
    go_ret
    exact ⟨rfl, hfb.out⟩
  | false =>
  obtain ⟨hn0, hp0⟩ := zlong_no hl
  have hn := hid hn0
  have hp := hid hp0
  clear hl hn0 hp0
  by_cases h1 : 100 < ks.length
  · have t1 : decide ((100 : Int) < (ks.length : Int)) = true := decide_eq_true (by omega)
    have t1n : decide (100 < ks.length) = true := decide_eq_true h1
    clear h1
    go_wp2_with fail
    refine (live_any _ (hE.out.below hB2.out)).mono ?_
    rintro e wv ⟨rfl, hbv⟩
    have hfb := hid ((hB2.out).trans (hbv.mono (hB2.out).size))
    clear hbv
    go_wp2_with fail
    go_ret
    exact ⟨rfl, hfb.out⟩
  have t1 : decide ((100 : Int) < (ks.length : Int)) = false := decide_eq_false (by omega)
  have t1n : decide (100 < ks.length) = false := decide_eq_false h1
  have hkn := hid (show ks.length ≤ 100 by omega)
  clear h1
  have x0 := kb2.out.cell 0
  have x1 := kb2.out.cell 1
  have x2 := kb2.out.cell 2
  have x3 := kb2.out.cell 3
  simp only [List.getElem?_toArray, List.getElem?_cons_zero, List.getElem?_cons_succ] at x0 x1 x2 x3
  cases hg : goodPR p r with
  | false =>
    have hbd := fun W => hid (znew_bad p r W hg)
    clear hg
    go_wp2_with fail
    refine (hbd _).out.mono ?_
    rintro e wq ⟨rfl, hwq⟩
    obtain rfl := hwq.symm
    go_wp2_with fail
    refine (hbd _).out.mono ?_
    rintro e wq ⟨rfl, hwq⟩
    obtain rfl := hwq.symm
    clear hbd
    go_wp2_with fail
    refine (num_any _ _).mono ?_
    rintro e wq ⟨rfl, hwq⟩
    obtain rfl := hwq.symm
    go_wp2_with fail
    refine (num_any _ _).mono ?_
    rintro e wq ⟨rfl, hwq⟩
    obtain rfl := hwq.symm
    go_wp2_with fail
    refine (num_any _ _).mono ?_
    rintro e wq ⟨rfl, hwq⟩
    obtain rfl := hwq.symm
    go_wp2_with fail
    refine (live_any _ (hE.out.below hB2.out)).mono ?_
    rintro e wv ⟨rfl, hbv⟩
    have hfb := hid ((hB2.out).trans (hbv.mono (hB2.out).size))
    clear hbv
    go_wp2_with fail
    go_ret
    exact ⟨rfl, hfb.out⟩
  | true =>
  obtain ⟨p, r, rfl, rfl, hp1, hr1⟩ := good_pr hg
  have hnw := fun W => hid (znew_ok p r W hp1 hr1)
  clear hg hp1 hr1
  go_wp2_with fail
  refine (hnw _).out.mono ?_
  rintro e w3 ⟨T1, g1, rfl, ha1, hT1, hb3⟩
  have kb3 := hid (kb2.out.below_all hb3)
  have ha1 := hid ha1
  have hT1 := hid hT1
  have hb3 := hid hb3
  clear x0 x1 x2 x3
  have x0 := kb3.out.cell 0
  have x1 := kb3.out.cell 1
  have x2 := kb3.out.cell 2
  have x3 := kb3.out.cell 3
  simp only [List.getElem?_toArray, List.getElem?_cons_zero, List.getElem?_cons_succ] at x0 x1 x2 x3
  go_wp2_with fail
  refine (hnw _).out.mono ?_
  rintro e w4 ⟨T2, g2, rfl, ha2, hT2, hb4⟩
  have R4 : Hid (ARel w2 w4 g1 g2 (zg0 p r) (zg0 p r) T1 T2) := hid ⟨⟨ha1.out.below hb4, ha2, ⟨hT1.out, fun q hq => Nat.le_trans hb3.out.size (hT2 q hq)⟩, fun q hq e => by have := ha1.out.lt q hq; have := hT2 q e; omega, hb3.out.trans (hb4.mono hb3.out.size)⟩, rfl, rngz_new p r, rngz_new p r⟩
  clear ha1 hT1 hb3 ha2 hT2 hb4 x0 x1 x2 x3 kb3 hnw
  go_wp2_with fail
  refine (num_any _ _).mono ?_
  rintro e wq ⟨rfl, hwq⟩
  obtain rfl := hwq.symm
  go_wp2_with fail
  refine (num_any _ _).mono ?_
  rintro e wq ⟨rfl, hwq⟩
  obtain rfl := hwq.symm
  go_wp2_with fail
  go_loopw [9] (fun v wr => ∃ (k : Nat) (T1 T2 : Nat → Prop) (z1 z2 : Zg), v = .int .i64 k ∧ k ≤ us.length ∧ ARel w2 wr g1 g2 z1 z2 T1 T2) (fun v _ => us.length - (intOf v).toNat)
  case atStart => exact ⟨0, T1, T2, zg0 p r, zg0 p r, rfl, Nat.zero_le _, R4.out⟩
  case round =>
    clear R4
    obtain ⟨k, T1, T2, z1, z2, rfl, hkl, R0⟩ := hrel
    have R := hid R0
    have kw := hid (kb2.out.below_all R0.two.bel)
    have x3 : wr.cell? ⟨w.heap.size, 3, none⟩ = some (.slice A us.length c) := kw.out.cell 3
    clear R0
    by_cases hlt : k < us.length
    · have i1 : (k : Int) < (us.length : Int) := by omega
      have i2 : IntKind.i64.wrap ((k : Int) + 1) = (k : Int) + 1 := by rw [IntKind.wrap_i64]; have := hn.out; omega
      have hB3 := hid (hB2.out.trans (R.out.two.bel.mono hB2.out.size))
      obtain ⟨b, o, rfl, _, hbl, hok, y0, y1, y2, y3, y4⟩ := (hs.out.below hB3.out).at_ hlt
      have hpk := hid (hp.out us[k] (List.getElem_mem hlt))
      have hzk := hid (hz.out us[k] (List.getElem_mem hlt))
      have hvk := hid (hv.out us[k] (List.getElem_mem hlt))
      have hyy : Hid (∀ w', Below wr.heap.size wr w' → w'.cell? ⟨w.heap.size, 3, none⟩ = some (.slice (some ⟨b, o, none⟩) us.length c) ∧ w'.cell? ⟨b, o + k * 5, none⟩ = some (.int .i64 us[k].kind) ∧ w'.cell? ⟨b, o + k * 5 + 1, none⟩ = some (.slice us[k].A1 us[k].ks.length us[k].c1) ∧ w'.cell? ⟨b, o + k * 5 + 2, none⟩ = some (.slice us[k].A2 us[k].ws.length us[k].c2) ∧ w'.cell? ⟨b, o + k * 5 + 3, none⟩ = some (.int .i64 us[k].mark) ∧ w'.cell? ⟨b, o + k * 5 + 4, none⟩ = some (.int .i64 us[k].n) ∧ us[k].ok (fun b => b < w.heap.size) w') := hid fun w' hb => by
        obtain ⟨b', o', e', _, _, hok', y0', y1', y2', y3', y4'⟩ := (hs.out.below (hB3.out.trans (hb.mono hB3.out.size))).at_ hlt
        cases e'
        exact ⟨(kw.out.below_all hb).cell 3, y0', y1', y2', y3', y4', hok'⟩
      clear y0 y1 y2 y3 y4 hok x3
      have x3 : wr.cell? ⟨w.heap.size, 3, none⟩ = some (.slice (some ⟨b, o, none⟩) us.length c) := (hyy.out _ (Below.refl _ _)).1
      generalize us[k] = a at *
      go_upto_region 10 with fail
      go_cut [10, 11] (fun u v wx => ∃ (m10 m11 : Nat) (B1 : Option Addr) (d1 : Nat) (B2 : Option Addr) (d2 : Nat) (B3 : Option Addr) (d3 : Nat) (B4 : Option Addr) (d4 : Nat), u = .pointer (some ⟨m10, 0, none⟩) ∧ v = .pointer (some ⟨m11, 0, none⟩) ∧ Blk wx m10 36 #[.int .i64 a.kind, .slice B1 a.ks.length d1, .slice B2 a.ws.length d2, .int .i64 a.mark, .int .i64 a.n] ∧ Blk wx m11 36 #[.int .i64 a.kind, .slice B3 a.ks.length d3, .slice B4 a.ws.length d4, .int .i64 a.mark, .int .i64 a.n] ∧ OwnZ wr.heap.size wx a B1 d1 B2 d2 ∧ OwnZ wr.heap.size wx a B3 d3 B4 d4 ∧ Below wr.heap.size wr wx ∧ wr.heap.size ≤ m10 ∧ wr.heap.size ≤ m11)
      case first =>
        as_aux_lemma =>
        try clear R
        try clear hzk
        try clear hvk
        try clear hs
        try clear hks
        try clear hE
        try clear hz
        try clear hv
        try clear hkn
        try clear hn
        try clear hp
        try clear kw
        try clear hB3
        try clear hB2
        try clear kb2
        try clear hkl
        try clear i2
        try clear t1
        try clear t1n
        try clear x3
        refine wp_region_held_drew (S := fun w'' => Below wr.heap.size wr w'') (by kernel_rfl) ?_ (fun hHeld => ?_)
        · exact (Below.refl _ _).drew
        have hb0 : Hid (Below wr.heap.size wr wr.drew) := hid (Below.refl _ _).drew
        have hsz0 : Hid (wr.drew.heap.size = wr.heap.size) := hid rfl
        generalize World.drew wr = wd at *
        refine wpAnyH_take (i := 0) (v := ?v1) rfl (by kernel_rfl) (by kernel_rfl) (by kernel_rfl) (fun _ _ _ h => h) (Or.inl ⟨by rfl, ?hy1⟩) (by assumption) ?rest1
        case hy1 => intro w' hSw; obtain ⟨x3, y0, y1, y2, y3, y4, _⟩ := hyy.out w' hSw; (try dsimp only at hSw); go_simp; try with_reducible rfl
        (try simp only [Act.put, List.setIfInBounds_toArray, List.set_cons_zero, List.set_cons_succ, List.getElem_toArray, List.getElem_cons_zero, List.getElem_cons_succ])
        refine wpAnyH_take (i := 1) (v := ?v2) rfl (by kernel_rfl) (by kernel_rfl) (by kernel_rfl) (fun _ _ _ h => h) (Or.inl ⟨by rfl, ?hy2⟩) (by assumption) ?rest2
        case hy2 => intro w' hSw; obtain ⟨x3, y0, y1, y2, y3, y4, _⟩ := hyy.out w' hSw; (try dsimp only at hSw); go_simp; try with_reducible rfl
        (try simp only [Act.put, List.setIfInBounds_toArray, List.set_cons_zero, List.set_cons_succ, List.getElem_toArray, List.getElem_cons_zero, List.getElem_cons_succ])
        refine wpAnyH_take (i := 2) (v := ?v3) rfl (by kernel_rfl) (by kernel_rfl) (by kernel_rfl) (fun _ _ _ h => h) (Or.inl ⟨by rfl, ?hy3⟩) (by assumption) ?rest3
        case hy3 => intro w' hSw; obtain ⟨x3, y0, y1, y2, y3, y4, _⟩ := hyy.out w' hSw; (try dsimp only at hSw); go_simp; try with_reducible rfl
        (try simp only [Act.put, List.setIfInBounds_toArray, List.set_cons_zero, List.set_cons_succ, List.getElem_toArray, List.getElem_cons_zero, List.getElem_cons_succ])
        refine wpAnyH_take (i := 3) (v := ?v4) rfl (by kernel_rfl) (by kernel_rfl) (by kernel_rfl) (fun _ _ _ h => h) (Or.inl ⟨by rfl, ?hy4⟩) (by assumption) ?rest4
        case hy4 => intro w' hSw; obtain ⟨x3, y0, y1, y2, y3, y4, _⟩ := hyy.out w' hSw; (try dsimp only at hSw); go_simp; try with_reducible rfl
        (try simp only [Act.put, List.setIfInBounds_toArray, List.set_cons_zero, List.set_cons_succ, List.getElem_toArray, List.getElem_cons_zero, List.getElem_cons_succ])
        refine wpAnyH_take (i := 4) (v := ?v5) rfl (by kernel_rfl) (by kernel_rfl) (by kernel_rfl) (fun _ _ _ h => h) (Or.inl ⟨by rfl, ?hy5⟩) (by assumption) ?rest5
        case hy5 => intro w' hSw; obtain ⟨x3, y0, y1, y2, y3, y4, _⟩ := hyy.out w' hSw; (try dsimp only at hSw); go_simp; try with_reducible rfl
        (try simp only [Act.put, List.setIfInBounds_toArray, List.set_cons_zero, List.set_cons_succ, List.getElem_toArray, List.getElem_cons_zero, List.getElem_cons_succ])
        refine wpAnyH_take (i := 6) (v := ?v6) rfl (by kernel_rfl) (by kernel_rfl) (by kernel_rfl) (fun _ _ _ h => h) (Or.inl ⟨by rfl, ?hy6⟩) (by assumption) ?rest6
        case hy6 => intro w' hSw; obtain ⟨x3, y0, y1, y2, y3, y4, _⟩ := hyy.out w' hSw; (try dsimp only at hSw); go_simp; try with_reducible rfl
        (try simp only [Act.put, List.setIfInBounds_toArray, List.set_cons_zero, List.set_cons_succ, List.getElem_toArray, List.getElem_cons_zero, List.getElem_cons_succ])
        refine wpAnyH_take (i := 7) (v := ?v7) rfl (by kernel_rfl) (by kernel_rfl) (by kernel_rfl) (fun _ _ _ h => h) (Or.inl ⟨by rfl, ?hy7⟩) (by assumption) ?rest7
        case hy7 => intro w' hSw; obtain ⟨x3, y0, y1, y2, y3, y4, _⟩ := hyy.out w' hSw; (try dsimp only at hSw); go_simp; try with_reducible rfl
        (try simp only [Act.put, List.setIfInBounds_toArray, List.set_cons_zero, List.set_cons_succ, List.getElem_toArray, List.getElem_cons_zero, List.getElem_cons_succ])
        refine wpAnyH_take (i := 8) (v := ?v8) rfl (by kernel_rfl) (by kernel_rfl) (by kernel_rfl) (fun _ _ _ h => h) (Or.inl ⟨by rfl, ?hy8⟩) (by assumption) ?rest8
        case hy8 => intro w' hSw; obtain ⟨x3, y0, y1, y2, y3, y4, _⟩ := hyy.out w' hSw; (try dsimp only at hSw); go_simp; try with_reducible rfl
        (try simp only [Act.put, List.setIfInBounds_toArray, List.set_cons_zero, List.set_cons_succ, List.getElem_toArray, List.getElem_cons_zero, List.getElem_cons_succ])
        refine wpAnyH_take (i := 9) (v := ?v9) rfl (by kernel_rfl) (by kernel_rfl) (by kernel_rfl) (fun _ _ _ h => h) (Or.inl ⟨by rfl, ?hy9⟩) (by assumption) ?rest9
        case hy9 => intro w' hSw; obtain ⟨x3, y0, y1, y2, y3, y4, _⟩ := hyy.out w' hSw; (try dsimp only at hSw); go_simp; try with_reducible rfl
        (try simp only [Act.put, List.setIfInBounds_toArray, List.set_cons_zero, List.set_cons_succ, List.getElem_toArray, List.getElem_cons_zero, List.getElem_cons_succ])
        refine wpAnyH_take (i := 10) (v := ?v10) rfl (by kernel_rfl) (by kernel_rfl) (by kernel_rfl) (fun _ _ _ h => h) (Or.inl ⟨by rfl, ?hy10⟩) (by assumption) ?rest10
        case hy10 => intro w' hSw; obtain ⟨x3, y0, y1, y2, y3, y4, _⟩ := hyy.out w' hSw; (try dsimp only at hSw); go_simp; try with_reducible rfl
        (try simp only [Act.put, List.setIfInBounds_toArray, List.set_cons_zero, List.set_cons_succ, List.getElem_toArray, List.getElem_cons_zero, List.getElem_cons_succ])
        refine wpAnyH_ready (rs := [5, 12, 13]) (by kernel_rfl) (by simp) ?_
        refine AllReadyH.cons rfl (fun K hK => ?_) ?_
        · go_simp
          refine (zown_any a (hyy.out _ hb0.out).2.2.2.2.2.2 (by have := hpk.out.1; omega) (by have := hpk.out.2; omega)).mono ?_
          rintro e wt1 ⟨B1, d1, B2, d2, rfl, ho9, hb9⟩
          have oA : Hid (OwnQ (fun q => wr.heap.size ≤ q) wt1 a B1 B2) := hid ((OwnQ.mk ho9.ks ho9.ws).more fun q hq _ => by have := hb0.out.size; omega)
          have hb1 := hid (hb0.out.trans (hb9.mono hb0.out.size))
          clear ho9 hb9
          refine hK.out _ _ ?_ (fun hHeld => ?_)
          · exact hb1.out
          clear hK K
          (try simp only [Act.put, List.setIfInBounds_toArray, List.set_cons_zero, List.set_cons_succ, List.getElem_toArray, List.getElem_cons_zero, List.getElem_cons_succ])
          refine wpAnyH_ready (rs := [11, 12, 13]) (by kernel_rfl) (by simp) ?_
          refine AllReadyH.cons rfl (fun K hK => ?_) ?_
          · go_simp
            refine (zown_any a (hyy.out _ hb1.out).2.2.2.2.2.2 (by have := hpk.out.1; omega) (by have := hpk.out.2; omega)).mono ?_
            rintro e wt2 ⟨B3, d3, B4, d4, rfl, ho9, hb9⟩
            have oB : Hid (OwnQ (fun q => wr.heap.size ≤ q) wt2 a B3 B4) := hid ((OwnQ.mk ho9.ks ho9.ws).more fun q hq _ => by have := hb1.out.size; omega)
            have hb2 := hid (hb1.out.trans (hb9.mono hb1.out.size))
            have oA := hid (oA.out.below hb9)
            clear ho9 hb9
            refine hK.out _ _ ?_ (fun hHeld => ?_)
            · exact hb2.out
            clear hK K
            (try simp only [Act.put, List.setIfInBounds_toArray, List.set_cons_zero, List.set_cons_succ, List.getElem_toArray, List.getElem_cons_zero, List.getElem_cons_succ])
            refine wpAnyH_ready (rs := [12, 13]) (by kernel_rfl) (by simp) ?_
            refine AllReadyH.cons rfl (fun K hK => ?_) ?_
            · go_simp
              have hb9 : Below wt2.heap.size wt2 (wt2.alloc (.cells #[.int .i64 0, .slice none 0 0, .slice none 0 0, .int .i64 0, .int .i64 0] 36)) := (Below.refl _ _).alloc (Nat.le_refl _) _
              have kA := hid (Blk.new wt2 36 #[.int .i64 0, .slice none 0 0, .slice none 0 0, .int .i64 0, .int .i64 0])
              have lkA : Hid (wr.heap.size ≤ wt2.heap.size) := hid hb2.out.size
              have hb3 := hid (hb2.out.trans (hb9.mono hb2.out.size))
              have oA : Hid (OwnQ (fun q => wr.heap.size ≤ q ∧ q ≠ wt2.heap.size) _ a _ _) := hid (((oA.out).more fun q hq hl => by omega).below hb9)
              have oB : Hid (OwnQ (fun q => wr.heap.size ≤ q ∧ q ≠ wt2.heap.size) _ a _ _) := hid (((oB.out).more fun q hq hl => by omega).below hb9)
              clear hb9
              generalize wt2.alloc (.cells #[.int .i64 0, .slice none 0 0, .slice none 0 0, .int .i64 0, .int .i64 0] 36) = wt3 at *
              generalize wt2.heap.size = m10 at *
              refine hK.out _ _ ?_ (fun hHeld => ?_)
              · exact hb3.out
              clear hK K
              (try simp only [Act.put, List.setIfInBounds_toArray, List.set_cons_zero, List.set_cons_succ, List.getElem_toArray, List.getElem_cons_zero, List.getElem_cons_succ])
              refine wpAnyH_ready (rs := [13]) (by kernel_rfl) (by simp) ?_
              refine AllReadyH.cons rfl (fun K hK => ?_) ?_
              · go_simp
                have hb9 : Below wt3.heap.size wt3 (wt3.alloc (.cells #[.int .i64 0, .slice none 0 0, .slice none 0 0, .int .i64 0, .int .i64 0] 36)) := (Below.refl _ _).alloc (Nat.le_refl _) _
                have kB := hid (Blk.new wt3 36 #[.int .i64 0, .slice none 0 0, .slice none 0 0, .int .i64 0, .int .i64 0])
                have lkB : Hid (wr.heap.size ≤ wt3.heap.size) := hid hb3.out.size
                have hb4 := hid (hb3.out.trans (hb9.mono hb3.out.size))
                have hAB : Hid (m10 ≠ wt3.heap.size) := hid (by have := kA.out.lt; omega)
                have oA : Hid (OwnQ (fun q => wr.heap.size ≤ q ∧ q ≠ m10 ∧ q ≠ wt3.heap.size) _ a _ _) := hid (((oA.out).more fun q hq hl => by omega).below hb9)
                have oB : Hid (OwnQ (fun q => wr.heap.size ≤ q ∧ q ≠ m10 ∧ q ≠ wt3.heap.size) _ a _ _) := hid (((oB.out).more fun q hq hl => by omega).below hb9)
                have kA := hid (kA.out.below_all hb9)
                clear hb9
                generalize wt3.alloc (.cells #[.int .i64 0, .slice none 0 0, .slice none 0 0, .int .i64 0, .int .i64 0] 36) = wt4 at *
                generalize wt3.heap.size = m11 at *
                refine hK.out _ _ ?_ (fun hHeld => ?_)
                · exact hb4.out
                clear hK K
                (try simp only [Act.put, List.setIfInBounds_toArray, List.set_cons_zero, List.set_cons_succ, List.getElem_toArray, List.getElem_cons_zero, List.getElem_cons_succ])
                have z0 : wt4.cell? ⟨m10, 0, none⟩ = some (.int .i64 0) := kA.out.cell 0
                have z1 : wt4.cell? ⟨m10, 1, none⟩ = some (.slice none 0 0) := kA.out.cell 1
                have z2 : wt4.cell? ⟨m10, 2, none⟩ = some (.slice none 0 0) := kA.out.cell 2
                have z3 : wt4.cell? ⟨m10, 3, none⟩ = some (.int .i64 0) := kA.out.cell 3
                have z4 : wt4.cell? ⟨m10, 4, none⟩ = some (.int .i64 0) := kA.out.cell 4
                have fA := fun q => kA.out.frozen q
                have lA := kA.out.lt
                refine wpAnyH_ready (rs := [14]) (by kernel_rfl) (by simp) ?_
                refine AllReadyH.cons rfl (fun K hK => ?_) AllReadyH.nil
                go_simp
                obtain ⟨wt5, hW9, kN, hup⟩ := set_act' kA.out (.int .i64 a.kind) (.slice B1 a.ks.length d1) (.slice B2 a.ws.length d2) (.int .i64 a.mark) (.int .i64 a.n)
                rw [hW9]
                clear hW9
                have kB := hid (kB.out.upd hup fun e => (by have := hAB.out; omega))
                have kA := hid kN
                have oA := hid (oA.out.upd hup fun q hq e => by omega)
                have oB := hid (oB.out.upd hup fun q hq e => by omega)
                have hb5 := hid (hb4.out.trans (hup.below hb4.out.size fun q hq e => by have := lkA.out; have := lkB.out; omega))
                clear kN hup z0 z1 z2 z3 z4 fA lA
                refine hK.out _ _ ?_ (fun hHeld => ?_)
                · exact hb5.out
                clear hK K
                (try simp only [Act.put, List.setIfInBounds_toArray, List.set_cons_zero, List.set_cons_succ, List.getElem_toArray, List.getElem_cons_zero, List.getElem_cons_succ])
                have z0 : wt5.cell? ⟨m11, 0, none⟩ = some (.int .i64 0) := kB.out.cell 0
                have z1 : wt5.cell? ⟨m11, 1, none⟩ = some (.slice none 0 0) := kB.out.cell 1
                have z2 : wt5.cell? ⟨m11, 2, none⟩ = some (.slice none 0 0) := kB.out.cell 2
                have z3 : wt5.cell? ⟨m11, 3, none⟩ = some (.int .i64 0) := kB.out.cell 3
                have z4 : wt5.cell? ⟨m11, 4, none⟩ = some (.int .i64 0) := kB.out.cell 4
                have fA := fun q => kB.out.frozen q
                have lA := kB.out.lt
                refine wpAnyH_ready (rs := [15]) (by kernel_rfl) (by simp) ?_
                refine AllReadyH.cons rfl (fun K hK => ?_) AllReadyH.nil
                go_simp
                obtain ⟨wt6, hW9, kN, hup⟩ := set_act' kB.out (.int .i64 a.kind) (.slice B3 a.ks.length d3) (.slice B4 a.ws.length d4) (.int .i64 a.mark) (.int .i64 a.n)
                rw [hW9]
                clear hW9
                have kA := hid (kA.out.upd hup fun e => (by have := hAB.out; omega))
                have kB := hid kN
                have oA := hid (oA.out.upd hup fun q hq e => by omega)
                have oB := hid (oB.out.upd hup fun q hq e => by omega)
                have hb6 := hid (hb5.out.trans (hup.below hb5.out.size fun q hq e => by have := lkA.out; have := lkB.out; omega))
                clear kN hup z0 z1 z2 z3 z4 fA lA
                refine hK.out _ _ ?_ (fun hHeld => ?_)
                · exact hb6.out
                clear hK K
                (try simp only [Act.put, List.setIfInBounds_toArray, List.set_cons_zero, List.set_cons_succ, List.getElem_toArray, List.getElem_cons_zero, List.getElem_cons_succ])
                refine wpAnyH_done (by kernel_rfl) ?_ _
                go_wp2_with fail
                go_meet
                case rel => exact ⟨m10, m11, B1, d1, B2, d2, B3, d3, B4, d4, rfl, rfl, kA.out, kB.out, ⟨oA.out.ks.more fun q hq _ => hq.1, oA.out.ws.more fun q hq _ => hq.1⟩, ⟨oB.out.ks.more fun q hq _ => hq.1, oB.out.ws.more fun q hq _ => hq.1⟩, hb6.out, lkA.out, lkB.out⟩
              exact AllReadyH.nil
            refine AllReadyH.cons rfl (fun K hK => ?_) ?_
            · go_simp
              have hb9 : Below wt2.heap.size wt2 (wt2.alloc (.cells #[.int .i64 0, .slice none 0 0, .slice none 0 0, .int .i64 0, .int .i64 0] 36)) := (Below.refl _ _).alloc (Nat.le_refl _) _
              have kB := hid (Blk.new wt2 36 #[.int .i64 0, .slice none 0 0, .slice none 0 0, .int .i64 0, .int .i64 0])
              have lkB : Hid (wr.heap.size ≤ wt2.heap.size) := hid hb2.out.size
              have hb3 := hid (hb2.out.trans (hb9.mono hb2.out.size))
              have oA : Hid (OwnQ (fun q => wr.heap.size ≤ q ∧ q ≠ wt2.heap.size) _ a _ _) := hid (((oA.out).more fun q hq hl => by omega).below hb9)
              have oB : Hid (OwnQ (fun q => wr.heap.size ≤ q ∧ q ≠ wt2.heap.size) _ a _ _) := hid (((oB.out).more fun q hq hl => by omega).below hb9)
              clear hb9
              generalize wt2.alloc (.cells #[.int .i64 0, .slice none 0 0, .slice none 0 0, .int .i64 0, .int .i64 0] 36) = wt3 at *
              generalize wt2.heap.size = m11 at *
              refine hK.out _ _ ?_ (fun hHeld => ?_)
              · exact hb3.out
              clear hK K
              (try simp only [Act.put, List.setIfInBounds_toArray, List.set_cons_zero, List.set_cons_succ, List.getElem_toArray, List.getElem_cons_zero, List.getElem_cons_succ])
              refine wpAnyH_ready (rs := [12]) (by kernel_rfl) (by simp) ?_
              refine AllReadyH.cons rfl (fun K hK => ?_) ?_
              · go_simp
                have hb9 : Below wt3.heap.size wt3 (wt3.alloc (.cells #[.int .i64 0, .slice none 0 0, .slice none 0 0, .int .i64 0, .int .i64 0] 36)) := (Below.refl _ _).alloc (Nat.le_refl _) _
                have kA := hid (Blk.new wt3 36 #[.int .i64 0, .slice none 0 0, .slice none 0 0, .int .i64 0, .int .i64 0])
                have lkA : Hid (wr.heap.size ≤ wt3.heap.size) := hid hb3.out.size
                have hb4 := hid (hb3.out.trans (hb9.mono hb3.out.size))
                have hAB : Hid (m11 ≠ wt3.heap.size) := hid (by have := kB.out.lt; omega)
                have oA : Hid (OwnQ (fun q => wr.heap.size ≤ q ∧ q ≠ wt3.heap.size ∧ q ≠ m11) _ a _ _) := hid (((oA.out).more fun q hq hl => by omega).below hb9)
                have oB : Hid (OwnQ (fun q => wr.heap.size ≤ q ∧ q ≠ wt3.heap.size ∧ q ≠ m11) _ a _ _) := hid (((oB.out).more fun q hq hl => by omega).below hb9)
                have kB := hid (kB.out.below_all hb9)
                clear hb9
                generalize wt3.alloc (.cells #[.int .i64 0, .slice none 0 0, .slice none 0 0, .int .i64 0, .int .i64 0] 36) = wt4 at *
                generalize wt3.heap.size = m10 at *
                refine hK.out _ _ ?_ (fun hHeld => ?_)
                · exact hb4.out
                clear hK K
                (try simp only [Act.put, List.setIfInBounds_toArray, List.set_cons_zero, List.set_cons_succ, List.getElem_toArray, List.getElem_cons_zero, List.getElem_cons_succ])
                have z0 : wt4.cell? ⟨m10, 0, none⟩ = some (.int .i64 0) := kA.out.cell 0
                have z1 : wt4.cell? ⟨m10, 1, none⟩ = some (.slice none 0 0) := kA.out.cell 1
                have z2 : wt4.cell? ⟨m10, 2, none⟩ = some (.slice none 0 0) := kA.out.cell 2
                have z3 : wt4.cell? ⟨m10, 3, none⟩ = some (.int .i64 0) := kA.out.cell 3
                have z4 : wt4.cell? ⟨m10, 4, none⟩ = some (.int .i64 0) := kA.out.cell 4
                have fA := fun q => kA.out.frozen q
                have lA := kA.out.lt
                refine wpAnyH_ready (rs := [14]) (by kernel_rfl) (by simp) ?_
                refine AllReadyH.cons rfl (fun K hK => ?_) AllReadyH.nil
                go_simp
                obtain ⟨wt5, hW9, kN, hup⟩ := set_act' kA.out (.int .i64 a.kind) (.slice B1 a.ks.length d1) (.slice B2 a.ws.length d2) (.int .i64 a.mark) (.int .i64 a.n)
                rw [hW9]
                clear hW9
                have kB := hid (kB.out.upd hup fun e => (by have := hAB.out; omega))
                have kA := hid kN
                have oA := hid (oA.out.upd hup fun q hq e => by omega)
                have oB := hid (oB.out.upd hup fun q hq e => by omega)
                have hb5 := hid (hb4.out.trans (hup.below hb4.out.size fun q hq e => by have := lkA.out; have := lkB.out; omega))
                clear kN hup z0 z1 z2 z3 z4 fA lA
                refine hK.out _ _ ?_ (fun hHeld => ?_)
                · exact hb5.out
                clear hK K
                (try simp only [Act.put, List.setIfInBounds_toArray, List.set_cons_zero, List.set_cons_succ, List.getElem_toArray, List.getElem_cons_zero, List.getElem_cons_succ])
                have z0 : wt5.cell? ⟨m11, 0, none⟩ = some (.int .i64 0) := kB.out.cell 0
                have z1 : wt5.cell? ⟨m11, 1, none⟩ = some (.slice none 0 0) := kB.out.cell 1
                have z2 : wt5.cell? ⟨m11, 2, none⟩ = some (.slice none 0 0) := kB.out.cell 2
                have z3 : wt5.cell? ⟨m11, 3, none⟩ = some (.int .i64 0) := kB.out.cell 3
                have z4 : wt5.cell? ⟨m11, 4, none⟩ = some (.int .i64 0) := kB.out.cell 4
                have fA := fun q => kB.out.frozen q
                have lA := kB.out.lt
                refine wpAnyH_ready (rs := [15]) (by kernel_rfl) (by simp) ?_
                refine AllReadyH.cons rfl (fun K hK => ?_) AllReadyH.nil
                go_simp
                obtain ⟨wt6, hW9, kN, hup⟩ := set_act' kB.out (.int .i64 a.kind) (.slice B3 a.ks.length d3) (.slice B4 a.ws.length d4) (.int .i64 a.mark) (.int .i64 a.n)
                rw [hW9]
                clear hW9
                have kA := hid (kA.out.upd hup fun e => (by have := hAB.out; omega))
                have kB := hid kN
                have oA := hid (oA.out.upd hup fun q hq e => by omega)
                have oB := hid (oB.out.upd hup fun q hq e => by omega)
                have hb6 := hid (hb5.out.trans (hup.below hb5.out.size fun q hq e => by have := lkA.out; have := lkB.out; omega))
                clear kN hup z0 z1 z2 z3 z4 fA lA
                refine hK.out _ _ ?_ (fun hHeld => ?_)
                · exact hb6.out
                clear hK K
                (try simp only [Act.put, List.setIfInBounds_toArray, List.set_cons_zero, List.set_cons_succ, List.getElem_toArray, List.getElem_cons_zero, List.getElem_cons_succ])
                refine wpAnyH_done (by kernel_rfl) ?_ _
                go_wp2_with fail
                go_meet
                case rel => exact ⟨m10, m11, B1, d1, B2, d2, B3, d3, B4, d4, rfl, rfl, kA.out, kB.out, ⟨oA.out.ks.more fun q hq _ => hq.1, oA.out.ws.more fun q hq _ => hq.1⟩, ⟨oB.out.ks.more fun q hq _ => hq.1, oB.out.ws.more fun q hq _ => hq.1⟩, hb6.out, lkA.out, lkB.out⟩
              exact AllReadyH.nil
            exact AllReadyH.nil
          refine AllReadyH.cons rfl (fun K hK => ?_) ?_
          · go_simp
            have hb9 : Below wt1.heap.size wt1 (wt1.alloc (.cells #[.int .i64 0, .slice none 0 0, .slice none 0 0, .int .i64 0, .int .i64 0] 36)) := (Below.refl _ _).alloc (Nat.le_refl _) _
            have kA := hid (Blk.new wt1 36 #[.int .i64 0, .slice none 0 0, .slice none 0 0, .int .i64 0, .int .i64 0])
            have lkA : Hid (wr.heap.size ≤ wt1.heap.size) := hid hb1.out.size
            have hb2 := hid (hb1.out.trans (hb9.mono hb1.out.size))
            have oA : Hid (OwnQ (fun q => wr.heap.size ≤ q ∧ q ≠ wt1.heap.size) _ a _ _) := hid (((oA.out).more fun q hq hl => by omega).below hb9)
            clear hb9
            generalize wt1.alloc (.cells #[.int .i64 0, .slice none 0 0, .slice none 0 0, .int .i64 0, .int .i64 0] 36) = wt2 at *
            generalize wt1.heap.size = m10 at *
            refine hK.out _ _ ?_ (fun hHeld => ?_)
            · exact hb2.out
            clear hK K
            (try simp only [Act.put, List.setIfInBounds_toArray, List.set_cons_zero, List.set_cons_succ, List.getElem_toArray, List.getElem_cons_zero, List.getElem_cons_succ])
            refine wpAnyH_ready (rs := [11, 13]) (by kernel_rfl) (by simp) ?_
            refine AllReadyH.cons rfl (fun K hK => ?_) ?_
            · go_simp
              refine (zown_any a (hyy.out _ hb2.out).2.2.2.2.2.2 (by have := hpk.out.1; omega) (by have := hpk.out.2; omega)).mono ?_
              rintro e wt3 ⟨B3, d3, B4, d4, rfl, ho9, hb9⟩
              have oB : Hid (OwnQ (fun q => wr.heap.size ≤ q ∧ q ≠ m10) wt3 a B3 B4) := hid ((OwnQ.mk ho9.ks ho9.ws).more fun q hq _ => by have := hb2.out.size; have := kA.out.lt; omega)
              have hb3 := hid (hb2.out.trans (hb9.mono hb2.out.size))
              have oA := hid (oA.out.below hb9)
              have kA := hid (kA.out.below_all hb9)
              clear ho9 hb9
              refine hK.out _ _ ?_ (fun hHeld => ?_)
              · exact hb3.out
              clear hK K
              (try simp only [Act.put, List.setIfInBounds_toArray, List.set_cons_zero, List.set_cons_succ, List.getElem_toArray, List.getElem_cons_zero, List.getElem_cons_succ])
              refine wpAnyH_ready (rs := [13]) (by kernel_rfl) (by simp) ?_
              refine AllReadyH.cons rfl (fun K hK => ?_) ?_
              · go_simp
                have hb9 : Below wt3.heap.size wt3 (wt3.alloc (.cells #[.int .i64 0, .slice none 0 0, .slice none 0 0, .int .i64 0, .int .i64 0] 36)) := (Below.refl _ _).alloc (Nat.le_refl _) _
                have kB := hid (Blk.new wt3 36 #[.int .i64 0, .slice none 0 0, .slice none 0 0, .int .i64 0, .int .i64 0])
                have lkB : Hid (wr.heap.size ≤ wt3.heap.size) := hid hb3.out.size
                have hb4 := hid (hb3.out.trans (hb9.mono hb3.out.size))
                have hAB : Hid (m10 ≠ wt3.heap.size) := hid (by have := kA.out.lt; omega)
                have oA : Hid (OwnQ (fun q => wr.heap.size ≤ q ∧ q ≠ m10 ∧ q ≠ wt3.heap.size) _ a _ _) := hid (((oA.out).more fun q hq hl => by omega).below hb9)
                have oB : Hid (OwnQ (fun q => wr.heap.size ≤ q ∧ q ≠ m10 ∧ q ≠ wt3.heap.size) _ a _ _) := hid (((oB.out).more fun q hq hl => by omega).below hb9)
                have kA := hid (kA.out.below_all hb9)
                clear hb9
                generalize wt3.alloc (.cells #[.int .i64 0, .slice none 0 0, .slice none 0 0, .int .i64 0, .int .i64 0] 36) = wt4 at *
                generalize wt3.heap.size = m11 at *
                refine hK.out _ _ ?_ (fun hHeld => ?_)
                · exact hb4.out
                clear hK K
                (try simp only [Act.put, List.setIfInBounds_toArray, List.set_cons_zero, List.set_cons_succ, List.getElem_toArray, List.getElem_cons_zero, List.getElem_cons_succ])
                have z0 : wt4.cell? ⟨m10, 0, none⟩ = some (.int .i64 0) := kA.out.cell 0
                have z1 : wt4.cell? ⟨m10, 1, none⟩ = some (.slice none 0 0) := kA.out.cell 1
                have z2 : wt4.cell? ⟨m10, 2, none⟩ = some (.slice none 0 0) := kA.out.cell 2
                have z3 : wt4.cell? ⟨m10, 3, none⟩ = some (.int .i64 0) := kA.out.cell 3
                have z4 : wt4.cell? ⟨m10, 4, none⟩ = some (.int .i64 0) := kA.out.cell 4
                have fA := fun q => kA.out.frozen q
                have lA := kA.out.lt
                refine wpAnyH_ready (rs := [14]) (by kernel_rfl) (by simp) ?_
                refine AllReadyH.cons rfl (fun K hK => ?_) AllReadyH.nil
                go_simp
                obtain ⟨wt5, hW9, kN, hup⟩ := set_act' kA.out (.int .i64 a.kind) (.slice B1 a.ks.length d1) (.slice B2 a.ws.length d2) (.int .i64 a.mark) (.int .i64 a.n)
                rw [hW9]
                clear hW9
                have kB := hid (kB.out.upd hup fun e => (by have := hAB.out; omega))
                have kA := hid kN
                have oA := hid (oA.out.upd hup fun q hq e => by omega)
                have oB := hid (oB.out.upd hup fun q hq e => by omega)
                have hb5 := hid (hb4.out.trans (hup.below hb4.out.size fun q hq e => by have := lkA.out; have := lkB.out; omega))
                clear kN hup z0 z1 z2 z3 z4 fA lA
                refine hK.out _ _ ?_ (fun hHeld => ?_)
                · exact hb5.out
                clear hK K
                (try simp only [Act.put, List.setIfInBounds_toArray, List.set_cons_zero, List.set_cons_succ, List.getElem_toArray, List.getElem_cons_zero, List.getElem_cons_succ])
                have z0 : wt5.cell? ⟨m11, 0, none⟩ = some (.int .i64 0) := kB.out.cell 0
                have z1 : wt5.cell? ⟨m11, 1, none⟩ = some (.slice none 0 0) := kB.out.cell 1
                have z2 : wt5.cell? ⟨m11, 2, none⟩ = some (.slice none 0 0) := kB.out.cell 2
                have z3 : wt5.cell? ⟨m11, 3, none⟩ = some (.int .i64 0) := kB.out.cell 3
                have z4 : wt5.cell? ⟨m11, 4, none⟩ = some (.int .i64 0) := kB.out.cell 4
                have fA := fun q => kB.out.frozen q
                have lA := kB.out.lt
                refine wpAnyH_ready (rs := [15]) (by kernel_rfl) (by simp) ?_
                refine AllReadyH.cons rfl (fun K hK => ?_) AllReadyH.nil
                go_simp
                obtain ⟨wt6, hW9, kN, hup⟩ := set_act' kB.out (.int .i64 a.kind) (.slice B3 a.ks.length d3) (.slice B4 a.ws.length d4) (.int .i64 a.mark) (.int .i64 a.n)
                rw [hW9]
                clear hW9
                have kA := hid (kA.out.upd hup fun e => (by have := hAB.out; omega))
                have kB := hid kN
                have oA := hid (oA.out.upd hup fun q hq e => by omega)
                have oB := hid (oB.out.upd hup fun q hq e => by omega)
                have hb6 := hid (hb5.out.trans (hup.below hb5.out.size fun q hq e => by have := lkA.out; have := lkB.out; omega))
                clear kN hup z0 z1 z2 z3 z4 fA lA
                refine hK.out _ _ ?_ (fun hHeld => ?_)
                · exact hb6.out
                clear hK K
                (try simp only [Act.put, List.setIfInBounds_toArray, List.set_cons_zero, List.set_cons_succ, List.getElem_toArray, List.getElem_cons_zero, List.getElem_cons_succ])
                refine wpAnyH_done (by kernel_rfl) ?_ _
                go_wp2_with fail
                go_meet
                case rel => exact ⟨m10, m11, B1, d1, B2, d2, B3, d3, B4, d4, rfl, rfl, kA.out, kB.out, ⟨oA.out.ks.more fun q hq _ => hq.1, oA.out.ws.more fun q hq _ => hq.1⟩, ⟨oB.out.ks.more fun q hq _ => hq.1, oB.out.ws.more fun q hq _ => hq.1⟩, hb6.out, lkA.out, lkB.out⟩
              exact AllReadyH.nil
            refine AllReadyH.cons rfl (fun K hK => ?_) ?_
            · go_simp
              have hb9 : Below wt2.heap.size wt2 (wt2.alloc (.cells #[.int .i64 0, .slice none 0 0, .slice none 0 0, .int .i64 0, .int .i64 0] 36)) := (Below.refl _ _).alloc (Nat.le_refl _) _
              have kB := hid (Blk.new wt2 36 #[.int .i64 0, .slice none 0 0, .slice none 0 0, .int .i64 0, .int .i64 0])
              have lkB : Hid (wr.heap.size ≤ wt2.heap.size) := hid hb2.out.size
              have hb3 := hid (hb2.out.trans (hb9.mono hb2.out.size))
              have hAB : Hid (m10 ≠ wt2.heap.size) := hid (by have := kA.out.lt; omega)
              have oA : Hid (OwnQ (fun q => wr.heap.size ≤ q ∧ q ≠ m10 ∧ q ≠ wt2.heap.size) _ a _ _) := hid (((oA.out).more fun q hq hl => by omega).below hb9)
              have kA := hid (kA.out.below_all hb9)
              clear hb9
              generalize wt2.alloc (.cells #[.int .i64 0, .slice none 0 0, .slice none 0 0, .int .i64 0, .int .i64 0] 36) = wt3 at *
              generalize wt2.heap.size = m11 at *
              refine hK.out _ _ ?_ (fun hHeld => ?_)
              · exact hb3.out
              clear hK K
              (try simp only [Act.put, List.setIfInBounds_toArray, List.set_cons_zero, List.set_cons_succ, List.getElem_toArray, List.getElem_cons_zero, List.getElem_cons_succ])
              refine wpAnyH_ready (rs := [11]) (by kernel_rfl) (by simp) ?_
              refine AllReadyH.cons rfl (fun K hK => ?_) ?_
              · go_simp
                refine (zown_any a (hyy.out _ hb3.out).2.2.2.2.2.2 (by have := hpk.out.1; omega) (by have := hpk.out.2; omega)).mono ?_
                rintro e wt4 ⟨B3, d3, B4, d4, rfl, ho9, hb9⟩
                have oB : Hid (OwnQ (fun q => wr.heap.size ≤ q ∧ q ≠ m10 ∧ q ≠ m11) wt4 a B3 B4) := hid ((OwnQ.mk ho9.ks ho9.ws).more fun q hq _ => by have := hb3.out.size; have := kA.out.lt; have := kB.out.lt; omega)
                have hb4 := hid (hb3.out.trans (hb9.mono hb3.out.size))
                have oA := hid (oA.out.below hb9)
                have kA := hid (kA.out.below_all hb9)
                have kB := hid (kB.out.below_all hb9)
                clear ho9 hb9
                refine hK.out _ _ ?_ (fun hHeld => ?_)
                · exact hb4.out
                clear hK K
                (try simp only [Act.put, List.setIfInBounds_toArray, List.set_cons_zero, List.set_cons_succ, List.getElem_toArray, List.getElem_cons_zero, List.getElem_cons_succ])
                have z0 : wt4.cell? ⟨m10, 0, none⟩ = some (.int .i64 0) := kA.out.cell 0
                have z1 : wt4.cell? ⟨m10, 1, none⟩ = some (.slice none 0 0) := kA.out.cell 1
                have z2 : wt4.cell? ⟨m10, 2, none⟩ = some (.slice none 0 0) := kA.out.cell 2
                have z3 : wt4.cell? ⟨m10, 3, none⟩ = some (.int .i64 0) := kA.out.cell 3
                have z4 : wt4.cell? ⟨m10, 4, none⟩ = some (.int .i64 0) := kA.out.cell 4
                have fA := fun q => kA.out.frozen q
                have lA := kA.out.lt
                refine wpAnyH_ready (rs := [14]) (by kernel_rfl) (by simp) ?_
                refine AllReadyH.cons rfl (fun K hK => ?_) AllReadyH.nil
                go_simp
                obtain ⟨wt5, hW9, kN, hup⟩ := set_act' kA.out (.int .i64 a.kind) (.slice B1 a.ks.length d1) (.slice B2 a.ws.length d2) (.int .i64 a.mark) (.int .i64 a.n)
                rw [hW9]
                clear hW9
                have kB := hid (kB.out.upd hup fun e => (by have := hAB.out; omega))
                have kA := hid kN
                have oA := hid (oA.out.upd hup fun q hq e => by omega)
                have oB := hid (oB.out.upd hup fun q hq e => by omega)
                have hb5 := hid (hb4.out.trans (hup.below hb4.out.size fun q hq e => by have := lkA.out; have := lkB.out; omega))
                clear kN hup z0 z1 z2 z3 z4 fA lA
                refine hK.out _ _ ?_ (fun hHeld => ?_)
                · exact hb5.out
                clear hK K
                (try simp only [Act.put, List.setIfInBounds_toArray, List.set_cons_zero, List.set_cons_succ, List.getElem_toArray, List.getElem_cons_zero, List.getElem_cons_succ])
                have z0 : wt5.cell? ⟨m11, 0, none⟩ = some (.int .i64 0) := kB.out.cell 0
                have z1 : wt5.cell? ⟨m11, 1, none⟩ = some (.slice none 0 0) := kB.out.cell 1
                have z2 : wt5.cell? ⟨m11, 2, none⟩ = some (.slice none 0 0) := kB.out.cell 2
                have z3 : wt5.cell? ⟨m11, 3, none⟩ = some (.int .i64 0) := kB.out.cell 3
                have z4 : wt5.cell? ⟨m11, 4, none⟩ = some (.int .i64 0) := kB.out.cell 4
                have fA := fun q => kB.out.frozen q
                have lA := kB.out.lt
                refine wpAnyH_ready (rs := [15]) (by kernel_rfl) (by simp) ?_
                refine AllReadyH.cons rfl (fun K hK => ?_) AllReadyH.nil
                go_simp
                obtain ⟨wt6, hW9, kN, hup⟩ := set_act' kB.out (.int .i64 a.kind) (.slice B3 a.ks.length d3) (.slice B4 a.ws.length d4) (.int .i64 a.mark) (.int .i64 a.n)
                rw [hW9]
                clear hW9
                have kA := hid (kA.out.upd hup fun e => (by have := hAB.out; omega))
                have kB := hid kN
                have oA := hid (oA.out.upd hup fun q hq e => by omega)
                have oB := hid (oB.out.upd hup fun q hq e => by omega)
                have hb6 := hid (hb5.out.trans (hup.below hb5.out.size fun q hq e => by have := lkA.out; have := lkB.out; omega))
                clear kN hup z0 z1 z2 z3 z4 fA lA
                refine hK.out _ _ ?_ (fun hHeld => ?_)
                · exact hb6.out
                clear hK K
                (try simp only [Act.put, List.setIfInBounds_toArray, List.set_cons_zero, List.set_cons_succ, List.getElem_toArray, List.getElem_cons_zero, List.getElem_cons_succ])
                refine wpAnyH_done (by kernel_rfl) ?_ _
                go_wp2_with fail
                go_meet
                case rel => exact ⟨m10, m11, B1, d1, B2, d2, B3, d3, B4, d4, rfl, rfl, kA.out, kB.out, ⟨oA.out.ks.more fun q hq _ => hq.1, oA.out.ws.more fun q hq _ => hq.1⟩, ⟨oB.out.ks.more fun q hq _ => hq.1, oB.out.ws.more fun q hq _ => hq.1⟩, hb6.out, lkA.out, lkB.out⟩
              exact AllReadyH.nil
            exact AllReadyH.nil
          refine AllReadyH.cons rfl (fun K hK => ?_) ?_
          · go_simp
            have hb9 : Below wt1.heap.size wt1 (wt1.alloc (.cells #[.int .i64 0, .slice none 0 0, .slice none 0 0, .int .i64 0, .int .i64 0] 36)) := (Below.refl _ _).alloc (Nat.le_refl _) _
            have kB := hid (Blk.new wt1 36 #[.int .i64 0, .slice none 0 0, .slice none 0 0, .int .i64 0, .int .i64 0])
            have lkB : Hid (wr.heap.size ≤ wt1.heap.size) := hid hb1.out.size
            have hb2 := hid (hb1.out.trans (hb9.mono hb1.out.size))
            have oA : Hid (OwnQ (fun q => wr.heap.size ≤ q ∧ q ≠ wt1.heap.size) _ a _ _) := hid (((oA.out).more fun q hq hl => by omega).below hb9)
            clear hb9
            generalize wt1.alloc (.cells #[.int .i64 0, .slice none 0 0, .slice none 0 0, .int .i64 0, .int .i64 0] 36) = wt2 at *
            generalize wt1.heap.size = m11 at *
            refine hK.out _ _ ?_ (fun hHeld => ?_)
            · exact hb2.out
            clear hK K
            (try simp only [Act.put, List.setIfInBounds_toArray, List.set_cons_zero, List.set_cons_succ, List.getElem_toArray, List.getElem_cons_zero, List.getElem_cons_succ])
            refine wpAnyH_ready (rs := [11, 12]) (by kernel_rfl) (by simp) ?_
            refine AllReadyH.cons rfl (fun K hK => ?_) ?_
            · go_simp
              refine (zown_any a (hyy.out _ hb2.out).2.2.2.2.2.2 (by have := hpk.out.1; omega) (by have := hpk.out.2; omega)).mono ?_
              rintro e wt3 ⟨B3, d3, B4, d4, rfl, ho9, hb9⟩
              have oB : Hid (OwnQ (fun q => wr.heap.size ≤ q ∧ q ≠ m11) wt3 a B3 B4) := hid ((OwnQ.mk ho9.ks ho9.ws).more fun q hq _ => by have := hb2.out.size; have := kB.out.lt; omega)
              have hb3 := hid (hb2.out.trans (hb9.mono hb2.out.size))
              have oA := hid (oA.out.below hb9)
              have kB := hid (kB.out.below_all hb9)
              clear ho9 hb9
              refine hK.out _ _ ?_ (fun hHeld => ?_)
              · exact hb3.out
              clear hK K
              (try simp only [Act.put, List.setIfInBounds_toArray, List.set_cons_zero, List.set_cons_succ, List.getElem_toArray, List.getElem_cons_zero, List.getElem_cons_succ])
              refine wpAnyH_ready (rs := [12]) (by kernel_rfl) (by simp) ?_
              refine AllReadyH.cons rfl (fun K hK => ?_) ?_
              · go_simp
                have hb9 : Below wt3.heap.size wt3 (wt3.alloc (.cells #[.int .i64 0, .slice none 0 0, .slice none 0 0, .int .i64 0, .int .i64 0] 36)) := (Below.refl _ _).alloc (Nat.le_refl _) _
                have kA := hid (Blk.new wt3 36 #[.int .i64 0, .slice none 0 0, .slice none 0 0, .int .i64 0, .int .i64 0])
                have lkA : Hid (wr.heap.size ≤ wt3.heap.size) := hid hb3.out.size
                have hb4 := hid (hb3.out.trans (hb9.mono hb3.out.size))
                have hAB : Hid (m11 ≠ wt3.heap.size) := hid (by have := kB.out.lt; omega)
                have oA : Hid (OwnQ (fun q => wr.heap.size ≤ q ∧ q ≠ wt3.heap.size ∧ q ≠ m11) _ a _ _) := hid (((oA.out).more fun q hq hl => by omega).below hb9)
                have oB : Hid (OwnQ (fun q => wr.heap.size ≤ q ∧ q ≠ wt3.heap.size ∧ q ≠ m11) _ a _ _) := hid (((oB.out).more fun q hq hl => by omega).below hb9)
                have kB := hid (kB.out.below_all hb9)
                clear hb9
                generalize wt3.alloc (.cells #[.int .i64 0, .slice none 0 0, .slice none 0 0, .int .i64 0, .int .i64 0] 36) = wt4 at *
                generalize wt3.heap.size = m10 at *
                refine hK.out _ _ ?_ (fun hHeld => ?_)
                · exact hb4.out
                clear hK K
                (try simp only [Act.put, List.setIfInBounds_toArray, List.set_cons_zero, List.set_cons_succ, List.getElem_toArray, List.getElem_cons_zero, List.getElem_cons_succ])
                have z0 : wt4.cell? ⟨m10, 0, none⟩ = some (.int .i64 0) := kA.out.cell 0
                have z1 : wt4.cell? ⟨m10, 1, none⟩ = some (.slice none 0 0) := kA.out.cell 1
                have z2 : wt4.cell? ⟨m10, 2, none⟩ = some (.slice none 0 0) := kA.out.cell 2
                have z3 : wt4.cell? ⟨m10, 3, none⟩ = some (.int .i64 0) := kA.out.cell 3
                have z4 : wt4.cell? ⟨m10, 4, none⟩ = some (.int .i64 0) := kA.out.cell 4
                have fA := fun q => kA.out.frozen q
                have lA := kA.out.lt
                refine wpAnyH_ready (rs := [14]) (by kernel_rfl) (by simp) ?_
                refine AllReadyH.cons rfl (fun K hK => ?_) AllReadyH.nil
                go_simp
                obtain ⟨wt5, hW9, kN, hup⟩ := set_act' kA.out (.int .i64 a.kind) (.slice B1 a.ks.length d1) (.slice B2 a.ws.length d2) (.int .i64 a.mark) (.int .i64 a.n)
                rw [hW9]
                clear hW9
                have kB := hid (kB.out.upd hup fun e => (by have := hAB.out; omega))
                have kA := hid kN
                have oA := hid (oA.out.upd hup fun q hq e => by omega)
                have oB := hid (oB.out.upd hup fun q hq e => by omega)
                have hb5 := hid (hb4.out.trans (hup.below hb4.out.size fun q hq e => by have := lkA.out; have := lkB.out; omega))
                clear kN hup z0 z1 z2 z3 z4 fA lA
                refine hK.out _ _ ?_ (fun hHeld => ?_)
                · exact hb5.out
                clear hK K
                (try simp only [Act.put, List.setIfInBounds_toArray, List.set_cons_zero, List.set_cons_succ, List.getElem_toArray, List.getElem_cons_zero, List.getElem_cons_succ])
                have z0 : wt5.cell? ⟨m11, 0, none⟩ = some (.int .i64 0) := kB.out.cell 0
                have z1 : wt5.cell? ⟨m11, 1, none⟩ = some (.slice none 0 0) := kB.out.cell 1
                have z2 : wt5.cell? ⟨m11, 2, none⟩ = some (.slice none 0 0) := kB.out.cell 2
                have z3 : wt5.cell? ⟨m11, 3, none⟩ = some (.int .i64 0) := kB.out.cell 3
                have z4 : wt5.cell? ⟨m11, 4, none⟩ = some (.int .i64 0) := kB.out.cell 4
                have fA := fun q => kB.out.frozen q
                have lA := kB.out.lt
                refine wpAnyH_ready (rs := [15]) (by kernel_rfl) (by simp) ?_
                refine AllReadyH.cons rfl (fun K hK => ?_) AllReadyH.nil
                go_simp
                obtain ⟨wt6, hW9, kN, hup⟩ := set_act' kB.out (.int .i64 a.kind) (.slice B3 a.ks.length d3) (.slice B4 a.ws.length d4) (.int .i64 a.mark) (.int .i64 a.n)
                rw [hW9]
                clear hW9
                have kA := hid (kA.out.upd hup fun e => (by have := hAB.out; omega))
                have kB := hid kN
                have oA := hid (oA.out.upd hup fun q hq e => by omega)
                have oB := hid (oB.out.upd hup fun q hq e => by omega)
                have hb6 := hid (hb5.out.trans (hup.below hb5.out.size fun q hq e => by have := lkA.out; have := lkB.out; omega))
                clear kN hup z0 z1 z2 z3 z4 fA lA
                refine hK.out _ _ ?_ (fun hHeld => ?_)
                · exact hb6.out
                clear hK K
                (try simp only [Act.put, List.setIfInBounds_toArray, List.set_cons_zero, List.set_cons_succ, List.getElem_toArray, List.getElem_cons_zero, List.getElem_cons_succ])
                refine wpAnyH_done (by kernel_rfl) ?_ _
                go_wp2_with fail
                go_meet
                case rel => exact ⟨m10, m11, B1, d1, B2, d2, B3, d3, B4, d4, rfl, rfl, kA.out, kB.out, ⟨oA.out.ks.more fun q hq _ => hq.1, oA.out.ws.more fun q hq _ => hq.1⟩, ⟨oB.out.ks.more fun q hq _ => hq.1, oB.out.ws.more fun q hq _ => hq.1⟩, hb6.out, lkA.out, lkB.out⟩
              exact AllReadyH.nil
            refine AllReadyH.cons rfl (fun K hK => ?_) ?_
            · go_simp
              have hb9 : Below wt2.heap.size wt2 (wt2.alloc (.cells #[.int .i64 0, .slice none 0 0, .slice none 0 0, .int .i64 0, .int .i64 0] 36)) := (Below.refl _ _).alloc (Nat.le_refl _) _
              have kA := hid (Blk.new wt2 36 #[.int .i64 0, .slice none 0 0, .slice none 0 0, .int .i64 0, .int .i64 0])
              have lkA : Hid (wr.heap.size ≤ wt2.heap.size) := hid hb2.out.size
              have hb3 := hid (hb2.out.trans (hb9.mono hb2.out.size))
              have hAB : Hid (m11 ≠ wt2.heap.size) := hid (by have := kB.out.lt; omega)
              have oA : Hid (OwnQ (fun q => wr.heap.size ≤ q ∧ q ≠ wt2.heap.size ∧ q ≠ m11) _ a _ _) := hid (((oA.out).more fun q hq hl => by omega).below hb9)
              have kB := hid (kB.out.below_all hb9)
              clear hb9
              generalize wt2.alloc (.cells #[.int .i64 0, .slice none 0 0, .slice none 0 0, .int .i64 0, .int .i64 0] 36) = wt3 at *
              generalize wt2.heap.size = m10 at *
              refine hK.out _ _ ?_ (fun hHeld => ?_)
              · exact hb3.out
              clear hK K
              (try simp only [Act.put, List.setIfInBounds_toArray, List.set_cons_zero, List.set_cons_succ, List.getElem_toArray, List.getElem_cons_zero, List.getElem_cons_succ])
              refine wpAnyH_ready (rs := [11]) (by kernel_rfl) (by simp) ?_
              refine AllReadyH.cons rfl (fun K hK => ?_) ?_
              · go_simp
                refine (zown_any a (hyy.out _ hb3.out).2.2.2.2.2.2 (by have := hpk.out.1; omega) (by have := hpk.out.2; omega)).mono ?_
                rintro e wt4 ⟨B3, d3, B4, d4, rfl, ho9, hb9⟩
                have oB : Hid (OwnQ (fun q => wr.heap.size ≤ q ∧ q ≠ m10 ∧ q ≠ m11) wt4 a B3 B4) := hid ((OwnQ.mk ho9.ks ho9.ws).more fun q hq _ => by have := hb3.out.size; have := kA.out.lt; have := kB.out.lt; omega)
                have hb4 := hid (hb3.out.trans (hb9.mono hb3.out.size))
                have oA := hid (oA.out.below hb9)
                have kA := hid (kA.out.below_all hb9)
                have kB := hid (kB.out.below_all hb9)
                clear ho9 hb9
                refine hK.out _ _ ?_ (fun hHeld => ?_)
                · exact hb4.out
                clear hK K
                (try simp only [Act.put, List.setIfInBounds_toArray, List.set_cons_zero, List.set_cons_succ, List.getElem_toArray, List.getElem_cons_zero, List.getElem_cons_succ])
                have z0 : wt4.cell? ⟨m10, 0, none⟩ = some (.int .i64 0) := kA.out.cell 0
                have z1 : wt4.cell? ⟨m10, 1, none⟩ = some (.slice none 0 0) := kA.out.cell 1
                have z2 : wt4.cell? ⟨m10, 2, none⟩ = some (.slice none 0 0) := kA.out.cell 2
                have z3 : wt4.cell? ⟨m10, 3, none⟩ = some (.int .i64 0) := kA.out.cell 3
                have z4 : wt4.cell? ⟨m10, 4, none⟩ = some (.int .i64 0) := kA.out.cell 4
                have fA := fun q => kA.out.frozen q
                have lA := kA.out.lt
                refine wpAnyH_ready (rs := [14]) (by kernel_rfl) (by simp) ?_
                refine AllReadyH.cons rfl (fun K hK => ?_) AllReadyH.nil
                go_simp
                obtain ⟨wt5, hW9, kN, hup⟩ := set_act' kA.out (.int .i64 a.kind) (.slice B1 a.ks.length d1) (.slice B2 a.ws.length d2) (.int .i64 a.mark) (.int .i64 a.n)
                rw [hW9]
                clear hW9
                have kB := hid (kB.out.upd hup fun e => (by have := hAB.out; omega))
                have kA := hid kN
                have oA := hid (oA.out.upd hup fun q hq e => by omega)
                have oB := hid (oB.out.upd hup fun q hq e => by omega)
                have hb5 := hid (hb4.out.trans (hup.below hb4.out.size fun q hq e => by have := lkA.out; have := lkB.out; omega))
                clear kN hup z0 z1 z2 z3 z4 fA lA
                refine hK.out _ _ ?_ (fun hHeld => ?_)
                · exact hb5.out
                clear hK K
                (try simp only [Act.put, List.setIfInBounds_toArray, List.set_cons_zero, List.set_cons_succ, List.getElem_toArray, List.getElem_cons_zero, List.getElem_cons_succ])
                have z0 : wt5.cell? ⟨m11, 0, none⟩ = some (.int .i64 0) := kB.out.cell 0
                have z1 : wt5.cell? ⟨m11, 1, none⟩ = some (.slice none 0 0) := kB.out.cell 1
                have z2 : wt5.cell? ⟨m11, 2, none⟩ = some (.slice none 0 0) := kB.out.cell 2
                have z3 : wt5.cell? ⟨m11, 3, none⟩ = some (.int .i64 0) := kB.out.cell 3
                have z4 : wt5.cell? ⟨m11, 4, none⟩ = some (.int .i64 0) := kB.out.cell 4
                have fA := fun q => kB.out.frozen q
                have lA := kB.out.lt
                refine wpAnyH_ready (rs := [15]) (by kernel_rfl) (by simp) ?_
                refine AllReadyH.cons rfl (fun K hK => ?_) AllReadyH.nil
                go_simp
                obtain ⟨wt6, hW9, kN, hup⟩ := set_act' kB.out (.int .i64 a.kind) (.slice B3 a.ks.length d3) (.slice B4 a.ws.length d4) (.int .i64 a.mark) (.int .i64 a.n)
                rw [hW9]
                clear hW9
                have kA := hid (kA.out.upd hup fun e => (by have := hAB.out; omega))
                have kB := hid kN
                have oA := hid (oA.out.upd hup fun q hq e => by omega)
                have oB := hid (oB.out.upd hup fun q hq e => by omega)
                have hb6 := hid (hb5.out.trans (hup.below hb5.out.size fun q hq e => by have := lkA.out; have := lkB.out; omega))
                clear kN hup z0 z1 z2 z3 z4 fA lA
                refine hK.out _ _ ?_ (fun hHeld => ?_)
                · exact hb6.out
                clear hK K
                (try simp only [Act.put, List.setIfInBounds_toArray, List.set_cons_zero, List.set_cons_succ, List.getElem_toArray, List.getElem_cons_zero, List.getElem_cons_succ])
                refine wpAnyH_done (by kernel_rfl) ?_ _
                go_wp2_with fail
                go_meet
                case rel => exact ⟨m10, m11, B1, d1, B2, d2, B3, d3, B4, d4, rfl, rfl, kA.out, kB.out, ⟨oA.out.ks.more fun q hq _ => hq.1, oA.out.ws.more fun q hq _ => hq.1⟩, ⟨oB.out.ks.more fun q hq _ => hq.1, oB.out.ws.more fun q hq _ => hq.1⟩, hb6.out, lkA.out, lkB.out⟩
              exact AllReadyH.nil
            exact AllReadyH.nil
          exact AllReadyH.nil
        refine AllReadyH.cons rfl (fun K hK => ?_) ?_
        · go_simp
          have hb9 : Below wd.heap.size wd (wd.alloc (.cells #[.int .i64 0, .slice none 0 0, .slice none 0 0, .int .i64 0, .int .i64 0] 36)) := (Below.refl _ _).alloc (Nat.le_refl _) _
          have kA := hid (Blk.new wd 36 #[.int .i64 0, .slice none 0 0, .slice none 0 0, .int .i64 0, .int .i64 0])
          have lkA : Hid (wr.heap.size ≤ wd.heap.size) := hid hb0.out.size
          have hb1 := hid (hb0.out.trans (hb9.mono hb0.out.size))
          clear hb9
          generalize wd.alloc (.cells #[.int .i64 0, .slice none 0 0, .slice none 0 0, .int .i64 0, .int .i64 0] 36) = wt1 at *
          generalize wd.heap.size = m10 at *
          refine hK.out _ _ ?_ (fun hHeld => ?_)
          · exact hb1.out
          clear hK K
          (try simp only [Act.put, List.setIfInBounds_toArray, List.set_cons_zero, List.set_cons_succ, List.getElem_toArray, List.getElem_cons_zero, List.getElem_cons_succ])
          refine wpAnyH_ready (rs := [5, 13]) (by kernel_rfl) (by simp) ?_
          refine AllReadyH.cons rfl (fun K hK => ?_) ?_
          · go_simp
            refine (zown_any a (hyy.out _ hb1.out).2.2.2.2.2.2 (by have := hpk.out.1; omega) (by have := hpk.out.2; omega)).mono ?_
            rintro e wt2 ⟨B1, d1, B2, d2, rfl, ho9, hb9⟩
            have oA : Hid (OwnQ (fun q => wr.heap.size ≤ q ∧ q ≠ m10) wt2 a B1 B2) := hid ((OwnQ.mk ho9.ks ho9.ws).more fun q hq _ => by have := hb1.out.size; have := kA.out.lt; omega)
            have hb2 := hid (hb1.out.trans (hb9.mono hb1.out.size))
            have kA := hid (kA.out.below_all hb9)
            clear ho9 hb9
            refine hK.out _ _ ?_ (fun hHeld => ?_)
            · exact hb2.out
            clear hK K
            (try simp only [Act.put, List.setIfInBounds_toArray, List.set_cons_zero, List.set_cons_succ, List.getElem_toArray, List.getElem_cons_zero, List.getElem_cons_succ])
            refine wpAnyH_ready (rs := [11, 13]) (by kernel_rfl) (by simp) ?_
            refine AllReadyH.cons rfl (fun K hK => ?_) ?_
            · go_simp
              refine (zown_any a (hyy.out _ hb2.out).2.2.2.2.2.2 (by have := hpk.out.1; omega) (by have := hpk.out.2; omega)).mono ?_
              rintro e wt3 ⟨B3, d3, B4, d4, rfl, ho9, hb9⟩
              have oB : Hid (OwnQ (fun q => wr.heap.size ≤ q ∧ q ≠ m10) wt3 a B3 B4) := hid ((OwnQ.mk ho9.ks ho9.ws).more fun q hq _ => by have := hb2.out.size; have := kA.out.lt; omega)
              have hb3 := hid (hb2.out.trans (hb9.mono hb2.out.size))
              have oA := hid (oA.out.below hb9)
              have kA := hid (kA.out.below_all hb9)
              clear ho9 hb9
              refine hK.out _ _ ?_ (fun hHeld => ?_)
              · exact hb3.out
              clear hK K
              (try simp only [Act.put, List.setIfInBounds_toArray, List.set_cons_zero, List.set_cons_succ, List.getElem_toArray, List.getElem_cons_zero, List.getElem_cons_succ])
              refine wpAnyH_ready (rs := [13]) (by kernel_rfl) (by simp) ?_
              refine AllReadyH.cons rfl (fun K hK => ?_) ?_
              · go_simp
                have hb9 : Below wt3.heap.size wt3 (wt3.alloc (.cells #[.int .i64 0, .slice none 0 0, .slice none 0 0, .int .i64 0, .int .i64 0] 36)) := (Below.refl _ _).alloc (Nat.le_refl _) _
                have kB := hid (Blk.new wt3 36 #[.int .i64 0, .slice none 0 0, .slice none 0 0, .int .i64 0, .int .i64 0])
                have lkB : Hid (wr.heap.size ≤ wt3.heap.size) := hid hb3.out.size
                have hb4 := hid (hb3.out.trans (hb9.mono hb3.out.size))
                have hAB : Hid (m10 ≠ wt3.heap.size) := hid (by have := kA.out.lt; omega)
                have oA : Hid (OwnQ (fun q => wr.heap.size ≤ q ∧ q ≠ m10 ∧ q ≠ wt3.heap.size) _ a _ _) := hid (((oA.out).more fun q hq hl => by omega).below hb9)
                have oB : Hid (OwnQ (fun q => wr.heap.size ≤ q ∧ q ≠ m10 ∧ q ≠ wt3.heap.size) _ a _ _) := hid (((oB.out).more fun q hq hl => by omega).below hb9)
                have kA := hid (kA.out.below_all hb9)
                clear hb9
                generalize wt3.alloc (.cells #[.int .i64 0, .slice none 0 0, .slice none 0 0, .int .i64 0, .int .i64 0] 36) = wt4 at *
                generalize wt3.heap.size = m11 at *
                refine hK.out _ _ ?_ (fun hHeld => ?_)
                · exact hb4.out
                clear hK K
                (try simp only [Act.put, List.setIfInBounds_toArray, List.set_cons_zero, List.set_cons_succ, List.getElem_toArray, List.getElem_cons_zero, List.getElem_cons_succ])
                have z0 : wt4.cell? ⟨m10, 0, none⟩ = some (.int .i64 0) := kA.out.cell 0
                have z1 : wt4.cell? ⟨m10, 1, none⟩ = some (.slice none 0 0) := kA.out.cell 1
                have z2 : wt4.cell? ⟨m10, 2, none⟩ = some (.slice none 0 0) := kA.out.cell 2
                have z3 : wt4.cell? ⟨m10, 3, none⟩ = some (.int .i64 0) := kA.out.cell 3
                have z4 : wt4.cell? ⟨m10, 4, none⟩ = some (.int .i64 0) := kA.out.cell 4
                have fA := fun q => kA.out.frozen q
                have lA := kA.out.lt
                refine wpAnyH_ready (rs := [14]) (by kernel_rfl) (by simp) ?_
                refine AllReadyH.cons rfl (fun K hK => ?_) AllReadyH.nil
                go_simp
                obtain ⟨wt5, hW9, kN, hup⟩ := set_act' kA.out (.int .i64 a.kind) (.slice B1 a.ks.length d1) (.slice B2 a.ws.length d2) (.int .i64 a.mark) (.int .i64 a.n)
                rw [hW9]
                clear hW9
                have kB := hid (kB.out.upd hup fun e => (by have := hAB.out; omega))
                have kA := hid kN
                have oA := hid (oA.out.upd hup fun q hq e => by omega)
                have oB := hid (oB.out.upd hup fun q hq e => by omega)
                have hb5 := hid (hb4.out.trans (hup.below hb4.out.size fun q hq e => by have := lkA.out; have := lkB.out; omega))
                clear kN hup z0 z1 z2 z3 z4 fA lA
                refine hK.out _ _ ?_ (fun hHeld => ?_)
                · exact hb5.out
                clear hK K
                (try simp only [Act.put, List.setIfInBounds_toArray, List.set_cons_zero, List.set_cons_succ, List.getElem_toArray, List.getElem_cons_zero, List.getElem_cons_succ])
                have z0 : wt5.cell? ⟨m11, 0, none⟩ = some (.int .i64 0) := kB.out.cell 0
                have z1 : wt5.cell? ⟨m11, 1, none⟩ = some (.slice none 0 0) := kB.out.cell 1
                have z2 : wt5.cell? ⟨m11, 2, none⟩ = some (.slice none 0 0) := kB.out.cell 2
                have z3 : wt5.cell? ⟨m11, 3, none⟩ = some (.int .i64 0) := kB.out.cell 3
                have z4 : wt5.cell? ⟨m11, 4, none⟩ = some (.int .i64 0) := kB.out.cell 4
                have fA := fun q => kB.out.frozen q
                have lA := kB.out.lt
                refine wpAnyH_ready (rs := [15]) (by kernel_rfl) (by simp) ?_
                refine AllReadyH.cons rfl (fun K hK => ?_) AllReadyH.nil
                go_simp
                obtain ⟨wt6, hW9, kN, hup⟩ := set_act' kB.out (.int .i64 a.kind) (.slice B3 a.ks.length d3) (.slice B4 a.ws.length d4) (.int .i64 a.mark) (.int .i64 a.n)
                rw [hW9]
                clear hW9
                have kA := hid (kA.out.upd hup fun e => (by have := hAB.out; omega))
                have kB := hid kN
                have oA := hid (oA.out.upd hup fun q hq e => by omega)
                have oB := hid (oB.out.upd hup fun q hq e => by omega)
                have hb6 := hid (hb5.out.trans (hup.below hb5.out.size fun q hq e => by have := lkA.out; have := lkB.out; omega))
                clear kN hup z0 z1 z2 z3 z4 fA lA
                refine hK.out _ _ ?_ (fun hHeld => ?_)
                · exact hb6.out
                clear hK K
                (try simp only [Act.put, List.setIfInBounds_toArray, List.set_cons_zero, List.set_cons_succ, List.getElem_toArray, List.getElem_cons_zero, List.getElem_cons_succ])
                refine wpAnyH_done (by kernel_rfl) ?_ _
                go_wp2_with fail
                go_meet
                case rel => exact ⟨m10, m11, B1, d1, B2, d2, B3, d3, B4, d4, rfl, rfl, kA.out, kB.out, ⟨oA.out.ks.more fun q hq _ => hq.1, oA.out.ws.more fun q hq _ => hq.1⟩, ⟨oB.out.ks.more fun q hq _ => hq.1, oB.out.ws.more fun q hq _ => hq.1⟩, hb6.out, lkA.out, lkB.out⟩
              exact AllReadyH.nil
            refine AllReadyH.cons rfl (fun K hK => ?_) ?_
            · go_simp
              have hb9 : Below wt2.heap.size wt2 (wt2.alloc (.cells #[.int .i64 0, .slice none 0 0, .slice none 0 0, .int .i64 0, .int .i64 0] 36)) := (Below.refl _ _).alloc (Nat.le_refl _) _
              have kB := hid (Blk.new wt2 36 #[.int .i64 0, .slice none 0 0, .slice none 0 0, .int .i64 0, .int .i64 0])
              have lkB : Hid (wr.heap.size ≤ wt2.heap.size) := hid hb2.out.size
              have hb3 := hid (hb2.out.trans (hb9.mono hb2.out.size))
              have hAB : Hid (m10 ≠ wt2.heap.size) := hid (by have := kA.out.lt; omega)
              have oA : Hid (OwnQ (fun q => wr.heap.size ≤ q ∧ q ≠ m10 ∧ q ≠ wt2.heap.size) _ a _ _) := hid (((oA.out).more fun q hq hl => by omega).below hb9)
              have kA := hid (kA.out.below_all hb9)
              clear hb9
              generalize wt2.alloc (.cells #[.int .i64 0, .slice none 0 0, .slice none 0 0, .int .i64 0, .int .i64 0] 36) = wt3 at *
              generalize wt2.heap.size = m11 at *
              refine hK.out _ _ ?_ (fun hHeld => ?_)
              · exact hb3.out
              clear hK K
              (try simp only [Act.put, List.setIfInBounds_toArray, List.set_cons_zero, List.set_cons_succ, List.getElem_toArray, List.getElem_cons_zero, List.getElem_cons_succ])
              refine wpAnyH_ready (rs := [11]) (by kernel_rfl) (by simp) ?_
              refine AllReadyH.cons rfl (fun K hK => ?_) ?_
              · go_simp
                refine (zown_any a (hyy.out _ hb3.out).2.2.2.2.2.2 (by have := hpk.out.1; omega) (by have := hpk.out.2; omega)).mono ?_
                rintro e wt4 ⟨B3, d3, B4, d4, rfl, ho9, hb9⟩
                have oB : Hid (OwnQ (fun q => wr.heap.size ≤ q ∧ q ≠ m10 ∧ q ≠ m11) wt4 a B3 B4) := hid ((OwnQ.mk ho9.ks ho9.ws).more fun q hq _ => by have := hb3.out.size; have := kA.out.lt; have := kB.out.lt; omega)
                have hb4 := hid (hb3.out.trans (hb9.mono hb3.out.size))
                have oA := hid (oA.out.below hb9)
                have kA := hid (kA.out.below_all hb9)
                have kB := hid (kB.out.below_all hb9)
                clear ho9 hb9
                refine hK.out _ _ ?_ (fun hHeld => ?_)
                · exact hb4.out
                clear hK K
                (try simp only [Act.put, List.setIfInBounds_toArray, List.set_cons_zero, List.set_cons_succ, List.getElem_toArray, List.getElem_cons_zero, List.getElem_cons_succ])
                have z0 : wt4.cell? ⟨m10, 0, none⟩ = some (.int .i64 0) := kA.out.cell 0
                have z1 : wt4.cell? ⟨m10, 1, none⟩ = some (.slice none 0 0) := kA.out.cell 1
                have z2 : wt4.cell? ⟨m10, 2, none⟩ = some (.slice none 0 0) := kA.out.cell 2
                have z3 : wt4.cell? ⟨m10, 3, none⟩ = some (.int .i64 0) := kA.out.cell 3
                have z4 : wt4.cell? ⟨m10, 4, none⟩ = some (.int .i64 0) := kA.out.cell 4
                have fA := fun q => kA.out.frozen q
                have lA := kA.out.lt
                refine wpAnyH_ready (rs := [14]) (by kernel_rfl) (by simp) ?_
                refine AllReadyH.cons rfl (fun K hK => ?_) AllReadyH.nil
                go_simp
                obtain ⟨wt5, hW9, kN, hup⟩ := set_act' kA.out (.int .i64 a.kind) (.slice B1 a.ks.length d1) (.slice B2 a.ws.length d2) (.int .i64 a.mark) (.int .i64 a.n)
                rw [hW9]
                clear hW9
                have kB := hid (kB.out.upd hup fun e => (by have := hAB.out; omega))
                have kA := hid kN
                have oA := hid (oA.out.upd hup fun q hq e => by omega)
                have oB := hid (oB.out.upd hup fun q hq e => by omega)
                have hb5 := hid (hb4.out.trans (hup.below hb4.out.size fun q hq e => by have := lkA.out; have := lkB.out; omega))
                clear kN hup z0 z1 z2 z3 z4 fA lA
                refine hK.out _ _ ?_ (fun hHeld => ?_)
                · exact hb5.out
                clear hK K
                (try simp only [Act.put, List.setIfInBounds_toArray, List.set_cons_zero, List.set_cons_succ, List.getElem_toArray, List.getElem_cons_zero, List.getElem_cons_succ])
                have z0 : wt5.cell? ⟨m11, 0, none⟩ = some (.int .i64 0) := kB.out.cell 0
                have z1 : wt5.cell? ⟨m11, 1, none⟩ = some (.slice none 0 0) := kB.out.cell 1
                have z2 : wt5.cell? ⟨m11, 2, none⟩ = some (.slice none 0 0) := kB.out.cell 2
                have z3 : wt5.cell? ⟨m11, 3, none⟩ = some (.int .i64 0) := kB.out.cell 3
                have z4 : wt5.cell? ⟨m11, 4, none⟩ = some (.int .i64 0) := kB.out.cell 4
                have fA := fun q => kB.out.frozen q
                have lA := kB.out.lt
                refine wpAnyH_ready (rs := [15]) (by kernel_rfl) (by simp) ?_
                refine AllReadyH.cons rfl (fun K hK => ?_) AllReadyH.nil
                go_simp
                obtain ⟨wt6, hW9, kN, hup⟩ := set_act' kB.out (.int .i64 a.kind) (.slice B3 a.ks.length d3) (.slice B4 a.ws.length d4) (.int .i64 a.mark) (.int .i64 a.n)
                rw [hW9]
                clear hW9
                have kA := hid (kA.out.upd hup fun e => (by have := hAB.out; omega))
                have kB := hid kN
                have oA := hid (oA.out.upd hup fun q hq e => by omega)
                have oB := hid (oB.out.upd hup fun q hq e => by omega)
                have hb6 := hid (hb5.out.trans (hup.below hb5.out.size fun q hq e => by have := lkA.out; have := lkB.out; omega))
                clear kN hup z0 z1 z2 z3 z4 fA lA
                refine hK.out _ _ ?_ (fun hHeld => ?_)
                · exact hb6.out
                clear hK K
                (try simp only [Act.put, List.setIfInBounds_toArray, List.set_cons_zero, List.set_cons_succ, List.getElem_toArray, List.getElem_cons_zero, List.getElem_cons_succ])
                refine wpAnyH_done (by kernel_rfl) ?_ _
                go_wp2_with fail
                go_meet
                case rel => exact ⟨m10, m11, B1, d1, B2, d2, B3, d3, B4, d4, rfl, rfl, kA.out, kB.out, ⟨oA.out.ks.more fun q hq _ => hq.1, oA.out.ws.more fun q hq _ => hq.1⟩, ⟨oB.out.ks.more fun q hq _ => hq.1, oB.out.ws.more fun q hq _ => hq.1⟩, hb6.out, lkA.out, lkB.out⟩
              exact AllReadyH.nil
            exact AllReadyH.nil
          refine AllReadyH.cons rfl (fun K hK => ?_) ?_
          · go_simp
            have hb9 : Below wt1.heap.size wt1 (wt1.alloc (.cells #[.int .i64 0, .slice none 0 0, .slice none 0 0, .int .i64 0, .int .i64 0] 36)) := (Below.refl _ _).alloc (Nat.le_refl _) _
            have kB := hid (Blk.new wt1 36 #[.int .i64 0, .slice none 0 0, .slice none 0 0, .int .i64 0, .int .i64 0])
            have lkB : Hid (wr.heap.size ≤ wt1.heap.size) := hid hb1.out.size
            have hb2 := hid (hb1.out.trans (hb9.mono hb1.out.size))
            have hAB : Hid (m10 ≠ wt1.heap.size) := hid (by have := kA.out.lt; omega)
            have kA := hid (kA.out.below_all hb9)
            clear hb9
            generalize wt1.alloc (.cells #[.int .i64 0, .slice none 0 0, .slice none 0 0, .int .i64 0, .int .i64 0] 36) = wt2 at *
            generalize wt1.heap.size = m11 at *
            refine hK.out _ _ ?_ (fun hHeld => ?_)
            · exact hb2.out
            clear hK K
            (try simp only [Act.put, List.setIfInBounds_toArray, List.set_cons_zero, List.set_cons_succ, List.getElem_toArray, List.getElem_cons_zero, List.getElem_cons_succ])
            refine wpAnyH_ready (rs := [5]) (by kernel_rfl) (by simp) ?_
            refine AllReadyH.cons rfl (fun K hK => ?_) ?_
            · go_simp
              refine (zown_any a (hyy.out _ hb2.out).2.2.2.2.2.2 (by have := hpk.out.1; omega) (by have := hpk.out.2; omega)).mono ?_
              rintro e wt3 ⟨B1, d1, B2, d2, rfl, ho9, hb9⟩
              have oA : Hid (OwnQ (fun q => wr.heap.size ≤ q ∧ q ≠ m10 ∧ q ≠ m11) wt3 a B1 B2) := hid ((OwnQ.mk ho9.ks ho9.ws).more fun q hq _ => by have := hb2.out.size; have := kA.out.lt; have := kB.out.lt; omega)
              have hb3 := hid (hb2.out.trans (hb9.mono hb2.out.size))
              have kA := hid (kA.out.below_all hb9)
              have kB := hid (kB.out.below_all hb9)
              clear ho9 hb9
              refine hK.out _ _ ?_ (fun hHeld => ?_)
              · exact hb3.out
              clear hK K
              (try simp only [Act.put, List.setIfInBounds_toArray, List.set_cons_zero, List.set_cons_succ, List.getElem_toArray, List.getElem_cons_zero, List.getElem_cons_succ])
              refine wpAnyH_ready (rs := [11]) (by kernel_rfl) (by simp) ?_
              refine AllReadyH.cons rfl (fun K hK => ?_) ?_
              · go_simp
                refine (zown_any a (hyy.out _ hb3.out).2.2.2.2.2.2 (by have := hpk.out.1; omega) (by have := hpk.out.2; omega)).mono ?_
                rintro e wt4 ⟨B3, d3, B4, d4, rfl, ho9, hb9⟩
                have oB : Hid (OwnQ (fun q => wr.heap.size ≤ q ∧ q ≠ m10 ∧ q ≠ m11) wt4 a B3 B4) := hid ((OwnQ.mk ho9.ks ho9.ws).more fun q hq _ => by have := hb3.out.size; have := kA.out.lt; have := kB.out.lt; omega)
                have hb4 := hid (hb3.out.trans (hb9.mono hb3.out.size))
                have oA := hid (oA.out.below hb9)
                have kA := hid (kA.out.below_all hb9)
                have kB := hid (kB.out.below_all hb9)
                clear ho9 hb9
                refine hK.out _ _ ?_ (fun hHeld => ?_)
                · exact hb4.out
                clear hK K
                (try simp only [Act.put, List.setIfInBounds_toArray, List.set_cons_zero, List.set_cons_succ, List.getElem_toArray, List.getElem_cons_zero, List.getElem_cons_succ])
                have z0 : wt4.cell? ⟨m10, 0, none⟩ = some (.int .i64 0) := kA.out.cell 0
                have z1 : wt4.cell? ⟨m10, 1, none⟩ = some (.slice none 0 0) := kA.out.cell 1
                have z2 : wt4.cell? ⟨m10, 2, none⟩ = some (.slice none 0 0) := kA.out.cell 2
                have z3 : wt4.cell? ⟨m10, 3, none⟩ = some (.int .i64 0) := kA.out.cell 3
                have z4 : wt4.cell? ⟨m10, 4, none⟩ = some (.int .i64 0) := kA.out.cell 4
                have fA := fun q => kA.out.frozen q
                have lA := kA.out.lt
                refine wpAnyH_ready (rs := [14]) (by kernel_rfl) (by simp) ?_
                refine AllReadyH.cons rfl (fun K hK => ?_) AllReadyH.nil
                go_simp
                obtain ⟨wt5, hW9, kN, hup⟩ := set_act' kA.out (.int .i64 a.kind) (.slice B1 a.ks.length d1) (.slice B2 a.ws.length d2) (.int .i64 a.mark) (.int .i64 a.n)
                rw [hW9]
                clear hW9
                have kB := hid (kB.out.upd hup fun e => (by have := hAB.out; omega))
                have kA := hid kN
                have oA := hid (oA.out.upd hup fun q hq e => by omega)
                have oB := hid (oB.out.upd hup fun q hq e => by omega)
                have hb5 := hid (hb4.out.trans (hup.below hb4.out.size fun q hq e => by have := lkA.out; have := lkB.out; omega))
                clear kN hup z0 z1 z2 z3 z4 fA lA
                refine hK.out _ _ ?_ (fun hHeld => ?_)
                · exact hb5.out
                clear hK K
                (try simp only [Act.put, List.setIfInBounds_toArray, List.set_cons_zero, List.set_cons_succ, List.getElem_toArray, List.getElem_cons_zero, List.getElem_cons_succ])
                have z0 : wt5.cell? ⟨m11, 0, none⟩ = some (.int .i64 0) := kB.out.cell 0
                have z1 : wt5.cell? ⟨m11, 1, none⟩ = some (.slice none 0 0) := kB.out.cell 1
                have z2 : wt5.cell? ⟨m11, 2, none⟩ = some (.slice none 0 0) := kB.out.cell 2
                have z3 : wt5.cell? ⟨m11, 3, none⟩ = some (.int .i64 0) := kB.out.cell 3
                have z4 : wt5.cell? ⟨m11, 4, none⟩ = some (.int .i64 0) := kB.out.cell 4
                have fA := fun q => kB.out.frozen q
                have lA := kB.out.lt
                refine wpAnyH_ready (rs := [15]) (by kernel_rfl) (by simp) ?_
                refine AllReadyH.cons rfl (fun K hK => ?_) AllReadyH.nil
                go_simp
                obtain ⟨wt6, hW9, kN, hup⟩ := set_act' kB.out (.int .i64 a.kind) (.slice B3 a.ks.length d3) (.slice B4 a.ws.length d4) (.int .i64 a.mark) (.int .i64 a.n)
                rw [hW9]
                clear hW9
                have kA := hid (kA.out.upd hup fun e => (by have := hAB.out; omega))
                have kB := hid kN
                have oA := hid (oA.out.upd hup fun q hq e => by omega)
                have oB := hid (oB.out.upd hup fun q hq e => by omega)
                have hb6 := hid (hb5.out.trans (hup.below hb5.out.size fun q hq e => by have := lkA.out; have := lkB.out; omega))
                clear kN hup z0 z1 z2 z3 z4 fA lA
                refine hK.out _ _ ?_ (fun hHeld => ?_)
                · exact hb6.out
                clear hK K
                (try simp only [Act.put, List.setIfInBounds_toArray, List.set_cons_zero, List.set_cons_succ, List.getElem_toArray, List.getElem_cons_zero, List.getElem_cons_succ])
                refine wpAnyH_done (by kernel_rfl) ?_ _
                go_wp2_with fail
                go_meet
                case rel => exact ⟨m10, m11, B1, d1, B2, d2, B3, d3, B4, d4, rfl, rfl, kA.out, kB.out, ⟨oA.out.ks.more fun q hq _ => hq.1, oA.out.ws.more fun q hq _ => hq.1⟩, ⟨oB.out.ks.more fun q hq _ => hq.1, oB.out.ws.more fun q hq _ => hq.1⟩, hb6.out, lkA.out, lkB.out⟩
              exact AllReadyH.nil
            exact AllReadyH.nil
          exact AllReadyH.nil
        refine AllReadyH.cons rfl (fun K hK => ?_) ?_
        · go_simp
          have hb9 : Below wd.heap.size wd (wd.alloc (.cells #[.int .i64 0, .slice none 0 0, .slice none 0 0, .int .i64 0, .int .i64 0] 36)) := (Below.refl _ _).alloc (Nat.le_refl _) _
          have kB := hid (Blk.new wd 36 #[.int .i64 0, .slice none 0 0, .slice none 0 0, .int .i64 0, .int .i64 0])
          have lkB : Hid (wr.heap.size ≤ wd.heap.size) := hid hb0.out.size
          have hb1 := hid (hb0.out.trans (hb9.mono hb0.out.size))
          clear hb9
          generalize wd.alloc (.cells #[.int .i64 0, .slice none 0 0, .slice none 0 0, .int .i64 0, .int .i64 0] 36) = wt1 at *
          generalize wd.heap.size = m11 at *
          refine hK.out _ _ ?_ (fun hHeld => ?_)
          · exact hb1.out
          clear hK K
          (try simp only [Act.put, List.setIfInBounds_toArray, List.set_cons_zero, List.set_cons_succ, List.getElem_toArray, List.getElem_cons_zero, List.getElem_cons_succ])
          refine wpAnyH_ready (rs := [5, 12]) (by kernel_rfl) (by simp) ?_
          refine AllReadyH.cons rfl (fun K hK => ?_) ?_
          · go_simp
            refine (zown_any a (hyy.out _ hb1.out).2.2.2.2.2.2 (by have := hpk.out.1; omega) (by have := hpk.out.2; omega)).mono ?_
            rintro e wt2 ⟨B1, d1, B2, d2, rfl, ho9, hb9⟩
            have oA : Hid (OwnQ (fun q => wr.heap.size ≤ q ∧ q ≠ m11) wt2 a B1 B2) := hid ((OwnQ.mk ho9.ks ho9.ws).more fun q hq _ => by have := hb1.out.size; have := kB.out.lt; omega)
            have hb2 := hid (hb1.out.trans (hb9.mono hb1.out.size))
            have kB := hid (kB.out.below_all hb9)
            clear ho9 hb9
            refine hK.out _ _ ?_ (fun hHeld => ?_)
            · exact hb2.out
            clear hK K
            (try simp only [Act.put, List.setIfInBounds_toArray, List.set_cons_zero, List.set_cons_succ, List.getElem_toArray, List.getElem_cons_zero, List.getElem_cons_succ])
            refine wpAnyH_ready (rs := [11, 12]) (by kernel_rfl) (by simp) ?_
            refine AllReadyH.cons rfl (fun K hK => ?_) ?_
            · go_simp
              refine (zown_any a (hyy.out _ hb2.out).2.2.2.2.2.2 (by have := hpk.out.1; omega) (by have := hpk.out.2; omega)).mono ?_
              rintro e wt3 ⟨B3, d3, B4, d4, rfl, ho9, hb9⟩
              have oB : Hid (OwnQ (fun q => wr.heap.size ≤ q ∧ q ≠ m11) wt3 a B3 B4) := hid ((OwnQ.mk ho9.ks ho9.ws).more fun q hq _ => by have := hb2.out.size; have := kB.out.lt; omega)
              have hb3 := hid (hb2.out.trans (hb9.mono hb2.out.size))
              have oA := hid (oA.out.below hb9)
              have kB := hid (kB.out.below_all hb9)
              clear ho9 hb9
              refine hK.out _ _ ?_ (fun hHeld => ?_)
              · exact hb3.out
              clear hK K
              (try simp only [Act.put, List.setIfInBounds_toArray, List.set_cons_zero, List.set_cons_succ, List.getElem_toArray, List.getElem_cons_zero, List.getElem_cons_succ])
              refine wpAnyH_ready (rs := [12]) (by kernel_rfl) (by simp) ?_
              refine AllReadyH.cons rfl (fun K hK => ?_) ?_
              · go_simp
                have hb9 : Below wt3.heap.size wt3 (wt3.alloc (.cells #[.int .i64 0, .slice none 0 0, .slice none 0 0, .int .i64 0, .int .i64 0] 36)) := (Below.refl _ _).alloc (Nat.le_refl _) _
                have kA := hid (Blk.new wt3 36 #[.int .i64 0, .slice none 0 0, .slice none 0 0, .int .i64 0, .int .i64 0])
                have lkA : Hid (wr.heap.size ≤ wt3.heap.size) := hid hb3.out.size
                have hb4 := hid (hb3.out.trans (hb9.mono hb3.out.size))
                have hAB : Hid (m11 ≠ wt3.heap.size) := hid (by have := kB.out.lt; omega)
                have oA : Hid (OwnQ (fun q => wr.heap.size ≤ q ∧ q ≠ wt3.heap.size ∧ q ≠ m11) _ a _ _) := hid (((oA.out).more fun q hq hl => by omega).below hb9)
                have oB : Hid (OwnQ (fun q => wr.heap.size ≤ q ∧ q ≠ wt3.heap.size ∧ q ≠ m11) _ a _ _) := hid (((oB.out).more fun q hq hl => by omega).below hb9)
                have kB := hid (kB.out.below_all hb9)
                clear hb9
                generalize wt3.alloc (.cells #[.int .i64 0, .slice none 0 0, .slice none 0 0, .int .i64 0, .int .i64 0] 36) = wt4 at *
                generalize wt3.heap.size = m10 at *
                refine hK.out _ _ ?_ (fun hHeld => ?_)
                · exact hb4.out
                clear hK K
                (try simp only [Act.put, List.setIfInBounds_toArray, List.set_cons_zero, List.set_cons_succ, List.getElem_toArray, List.getElem_cons_zero, List.getElem_cons_succ])
                have z0 : wt4.cell? ⟨m10, 0, none⟩ = some (.int .i64 0) := kA.out.cell 0
                have z1 : wt4.cell? ⟨m10, 1, none⟩ = some (.slice none 0 0) := kA.out.cell 1
                have z2 : wt4.cell? ⟨m10, 2, none⟩ = some (.slice none 0 0) := kA.out.cell 2
                have z3 : wt4.cell? ⟨m10, 3, none⟩ = some (.int .i64 0) := kA.out.cell 3
                have z4 : wt4.cell? ⟨m10, 4, none⟩ = some (.int .i64 0) := kA.out.cell 4
                have fA := fun q => kA.out.frozen q
                have lA := kA.out.lt
                refine wpAnyH_ready (rs := [14]) (by kernel_rfl) (by simp) ?_
                refine AllReadyH.cons rfl (fun K hK => ?_) AllReadyH.nil
                go_simp
                obtain ⟨wt5, hW9, kN, hup⟩ := set_act' kA.out (.int .i64 a.kind) (.slice B1 a.ks.length d1) (.slice B2 a.ws.length d2) (.int .i64 a.mark) (.int .i64 a.n)
                rw [hW9]
                clear hW9
                have kB := hid (kB.out.upd hup fun e => (by have := hAB.out; omega))
                have kA := hid kN
                have oA := hid (oA.out.upd hup fun q hq e => by omega)
                have oB := hid (oB.out.upd hup fun q hq e => by omega)
                have hb5 := hid (hb4.out.trans (hup.below hb4.out.size fun q hq e => by have := lkA.out; have := lkB.out; omega))
                clear kN hup z0 z1 z2 z3 z4 fA lA
                refine hK.out _ _ ?_ (fun hHeld => ?_)
                · exact hb5.out
                clear hK K
                (try simp only [Act.put, List.setIfInBounds_toArray, List.set_cons_zero, List.set_cons_succ, List.getElem_toArray, List.getElem_cons_zero, List.getElem_cons_succ])
                have z0 : wt5.cell? ⟨m11, 0, none⟩ = some (.int .i64 0) := kB.out.cell 0
                have z1 : wt5.cell? ⟨m11, 1, none⟩ = some (.slice none 0 0) := kB.out.cell 1
                have z2 : wt5.cell? ⟨m11, 2, none⟩ = some (.slice none 0 0) := kB.out.cell 2
                have z3 : wt5.cell? ⟨m11, 3, none⟩ = some (.int .i64 0) := kB.out.cell 3
                have z4 : wt5.cell? ⟨m11, 4, none⟩ = some (.int .i64 0) := kB.out.cell 4
                have fA := fun q => kB.out.frozen q
                have lA := kB.out.lt
                refine wpAnyH_ready (rs := [15]) (by kernel_rfl) (by simp) ?_
                refine AllReadyH.cons rfl (fun K hK => ?_) AllReadyH.nil
                go_simp
                obtain ⟨wt6, hW9, kN, hup⟩ := set_act' kB.out (.int .i64 a.kind) (.slice B3 a.ks.length d3) (.slice B4 a.ws.length d4) (.int .i64 a.mark) (.int .i64 a.n)
                rw [hW9]
                clear hW9
                have kA := hid (kA.out.upd hup fun e => (by have := hAB.out; omega))
                have kB := hid kN
                have oA := hid (oA.out.upd hup fun q hq e => by omega)
                have oB := hid (oB.out.upd hup fun q hq e => by omega)
                have hb6 := hid (hb5.out.trans (hup.below hb5.out.size fun q hq e => by have := lkA.out; have := lkB.out; omega))
                clear kN hup z0 z1 z2 z3 z4 fA lA
                refine hK.out _ _ ?_ (fun hHeld => ?_)
                · exact hb6.out
                clear hK K
                (try simp only [Act.put, List.setIfInBounds_toArray, List.set_cons_zero, List.set_cons_succ, List.getElem_toArray, List.getElem_cons_zero, List.getElem_cons_succ])
                refine wpAnyH_done (by kernel_rfl) ?_ _
                go_wp2_with fail
                go_meet
                case rel => exact ⟨m10, m11, B1, d1, B2, d2, B3, d3, B4, d4, rfl, rfl, kA.out, kB.out, ⟨oA.out.ks.more fun q hq _ => hq.1, oA.out.ws.more fun q hq _ => hq.1⟩, ⟨oB.out.ks.more fun q hq _ => hq.1, oB.out.ws.more fun q hq _ => hq.1⟩, hb6.out, lkA.out, lkB.out⟩
              exact AllReadyH.nil
            refine AllReadyH.cons rfl (fun K hK => ?_) ?_
            · go_simp
              have hb9 : Below wt2.heap.size wt2 (wt2.alloc (.cells #[.int .i64 0, .slice none 0 0, .slice none 0 0, .int .i64 0, .int .i64 0] 36)) := (Below.refl _ _).alloc (Nat.le_refl _) _
              have kA := hid (Blk.new wt2 36 #[.int .i64 0, .slice none 0 0, .slice none 0 0, .int .i64 0, .int .i64 0])
              have lkA : Hid (wr.heap.size ≤ wt2.heap.size) := hid hb2.out.size
              have hb3 := hid (hb2.out.trans (hb9.mono hb2.out.size))
              have hAB : Hid (m11 ≠ wt2.heap.size) := hid (by have := kB.out.lt; omega)
              have oA : Hid (OwnQ (fun q => wr.heap.size ≤ q ∧ q ≠ wt2.heap.size ∧ q ≠ m11) _ a _ _) := hid (((oA.out).more fun q hq hl => by omega).below hb9)
              have kB := hid (kB.out.below_all hb9)
              clear hb9
              generalize wt2.alloc (.cells #[.int .i64 0, .slice none 0 0, .slice none 0 0, .int .i64 0, .int .i64 0] 36) = wt3 at *
              generalize wt2.heap.size = m10 at *
              refine hK.out _ _ ?_ (fun hHeld => ?_)
              · exact hb3.out
              clear hK K
              (try simp only [Act.put, List.setIfInBounds_toArray, List.set_cons_zero, List.set_cons_succ, List.getElem_toArray, List.getElem_cons_zero, List.getElem_cons_succ])
              refine wpAnyH_ready (rs := [11]) (by kernel_rfl) (by simp) ?_
              refine AllReadyH.cons rfl (fun K hK => ?_) ?_
              · go_simp
                refine (zown_any a (hyy.out _ hb3.out).2.2.2.2.2.2 (by have := hpk.out.1; omega) (by have := hpk.out.2; omega)).mono ?_
                rintro e wt4 ⟨B3, d3, B4, d4, rfl, ho9, hb9⟩
                have oB : Hid (OwnQ (fun q => wr.heap.size ≤ q ∧ q ≠ m10 ∧ q ≠ m11) wt4 a B3 B4) := hid ((OwnQ.mk ho9.ks ho9.ws).more fun q hq _ => by have := hb3.out.size; have := kA.out.lt; have := kB.out.lt; omega)
                have hb4 := hid (hb3.out.trans (hb9.mono hb3.out.size))
                have oA := hid (oA.out.below hb9)
                have kA := hid (kA.out.below_all hb9)
                have kB := hid (kB.out.below_all hb9)
                clear ho9 hb9
                refine hK.out _ _ ?_ (fun hHeld => ?_)
                · exact hb4.out
                clear hK K
                (try simp only [Act.put, List.setIfInBounds_toArray, List.set_cons_zero, List.set_cons_succ, List.getElem_toArray, List.getElem_cons_zero, List.getElem_cons_succ])
                have z0 : wt4.cell? ⟨m10, 0, none⟩ = some (.int .i64 0) := kA.out.cell 0
                have z1 : wt4.cell? ⟨m10, 1, none⟩ = some (.slice none 0 0) := kA.out.cell 1
                have z2 : wt4.cell? ⟨m10, 2, none⟩ = some (.slice none 0 0) := kA.out.cell 2
                have z3 : wt4.cell? ⟨m10, 3, none⟩ = some (.int .i64 0) := kA.out.cell 3
                have z4 : wt4.cell? ⟨m10, 4, none⟩ = some (.int .i64 0) := kA.out.cell 4
                have fA := fun q => kA.out.frozen q
                have lA := kA.out.lt
                refine wpAnyH_ready (rs := [14]) (by kernel_rfl) (by simp) ?_
                refine AllReadyH.cons rfl (fun K hK => ?_) AllReadyH.nil
                go_simp
                obtain ⟨wt5, hW9, kN, hup⟩ := set_act' kA.out (.int .i64 a.kind) (.slice B1 a.ks.length d1) (.slice B2 a.ws.length d2) (.int .i64 a.mark) (.int .i64 a.n)
                rw [hW9]
                clear hW9
                have kB := hid (kB.out.upd hup fun e => (by have := hAB.out; omega))
                have kA := hid kN
                have oA := hid (oA.out.upd hup fun q hq e => by omega)
                have oB := hid (oB.out.upd hup fun q hq e => by omega)
                have hb5 := hid (hb4.out.trans (hup.below hb4.out.size fun q hq e => by have := lkA.out; have := lkB.out; omega))
                clear kN hup z0 z1 z2 z3 z4 fA lA
                refine hK.out _ _ ?_ (fun hHeld => ?_)
                · exact hb5.out
                clear hK K
                (try simp only [Act.put, List.setIfInBounds_toArray, List.set_cons_zero, List.set_cons_succ, List.getElem_toArray, List.getElem_cons_zero, List.getElem_cons_succ])
                have z0 : wt5.cell? ⟨m11, 0, none⟩ = some (.int .i64 0) := kB.out.cell 0
                have z1 : wt5.cell? ⟨m11, 1, none⟩ = some (.slice none 0 0) := kB.out.cell 1
                have z2 : wt5.cell? ⟨m11, 2, none⟩ = some (.slice none 0 0) := kB.out.cell 2
                have z3 : wt5.cell? ⟨m11, 3, none⟩ = some (.int .i64 0) := kB.out.cell 3
                have z4 : wt5.cell? ⟨m11, 4, none⟩ = some (.int .i64 0) := kB.out.cell 4
                have fA := fun q => kB.out.frozen q
                have lA := kB.out.lt
                refine wpAnyH_ready (rs := [15]) (by kernel_rfl) (by simp) ?_
                refine AllReadyH.cons rfl (fun K hK => ?_) AllReadyH.nil
                go_simp
                obtain ⟨wt6, hW9, kN, hup⟩ := set_act' kB.out (.int .i64 a.kind) (.slice B3 a.ks.length d3) (.slice B4 a.ws.length d4) (.int .i64 a.mark) (.int .i64 a.n)
                rw [hW9]
                clear hW9
                have kA := hid (kA.out.upd hup fun e => (by have := hAB.out; omega))
                have kB := hid kN
                have oA := hid (oA.out.upd hup fun q hq e => by omega)
                have oB := hid (oB.out.upd hup fun q hq e => by omega)
                have hb6 := hid (hb5.out.trans (hup.below hb5.out.size fun q hq e => by have := lkA.out; have := lkB.out; omega))
                clear kN hup z0 z1 z2 z3 z4 fA lA
                refine hK.out _ _ ?_ (fun hHeld => ?_)
                · exact hb6.out
                clear hK K
                (try simp only [Act.put, List.setIfInBounds_toArray, List.set_cons_zero, List.set_cons_succ, List.getElem_toArray, List.getElem_cons_zero, List.getElem_cons_succ])
                refine wpAnyH_done (by kernel_rfl) ?_ _
                go_wp2_with fail
                go_meet
                case rel => exact ⟨m10, m11, B1, d1, B2, d2, B3, d3, B4, d4, rfl, rfl, kA.out, kB.out, ⟨oA.out.ks.more fun q hq _ => hq.1, oA.out.ws.more fun q hq _ => hq.1⟩, ⟨oB.out.ks.more fun q hq _ => hq.1, oB.out.ws.more fun q hq _ => hq.1⟩, hb6.out, lkA.out, lkB.out⟩
              exact AllReadyH.nil
            exact AllReadyH.nil
          refine AllReadyH.cons rfl (fun K hK => ?_) ?_
          · go_simp
            have hb9 : Below wt1.heap.size wt1 (wt1.alloc (.cells #[.int .i64 0, .slice none 0 0, .slice none 0 0, .int .i64 0, .int .i64 0] 36)) := (Below.refl _ _).alloc (Nat.le_refl _) _
            have kA := hid (Blk.new wt1 36 #[.int .i64 0, .slice none 0 0, .slice none 0 0, .int .i64 0, .int .i64 0])
            have lkA : Hid (wr.heap.size ≤ wt1.heap.size) := hid hb1.out.size
            have hb2 := hid (hb1.out.trans (hb9.mono hb1.out.size))
            have hAB : Hid (m11 ≠ wt1.heap.size) := hid (by have := kB.out.lt; omega)
            have kB := hid (kB.out.below_all hb9)
            clear hb9
            generalize wt1.alloc (.cells #[.int .i64 0, .slice none 0 0, .slice none 0 0, .int .i64 0, .int .i64 0] 36) = wt2 at *
            generalize wt1.heap.size = m10 at *
            refine hK.out _ _ ?_ (fun hHeld => ?_)
            · exact hb2.out
            clear hK K
            (try simp only [Act.put, List.setIfInBounds_toArray, List.set_cons_zero, List.set_cons_succ, List.getElem_toArray, List.getElem_cons_zero, List.getElem_cons_succ])
            refine wpAnyH_ready (rs := [5]) (by kernel_rfl) (by simp) ?_
            refine AllReadyH.cons rfl (fun K hK => ?_) ?_
            · go_simp
              refine (zown_any a (hyy.out _ hb2.out).2.2.2.2.2.2 (by have := hpk.out.1; omega) (by have := hpk.out.2; omega)).mono ?_
              rintro e wt3 ⟨B1, d1, B2, d2, rfl, ho9, hb9⟩
              have oA : Hid (OwnQ (fun q => wr.heap.size ≤ q ∧ q ≠ m10 ∧ q ≠ m11) wt3 a B1 B2) := hid ((OwnQ.mk ho9.ks ho9.ws).more fun q hq _ => by have := hb2.out.size; have := kA.out.lt; have := kB.out.lt; omega)
              have hb3 := hid (hb2.out.trans (hb9.mono hb2.out.size))
              have kA := hid (kA.out.below_all hb9)
              have kB := hid (kB.out.below_all hb9)
              clear ho9 hb9
              refine hK.out _ _ ?_ (fun hHeld => ?_)
              · exact hb3.out
              clear hK K
              (try simp only [Act.put, List.setIfInBounds_toArray, List.set_cons_zero, List.set_cons_succ, List.getElem_toArray, List.getElem_cons_zero, List.getElem_cons_succ])
              refine wpAnyH_ready (rs := [11]) (by kernel_rfl) (by simp) ?_
              refine AllReadyH.cons rfl (fun K hK => ?_) ?_
              · go_simp
                refine (zown_any a (hyy.out _ hb3.out).2.2.2.2.2.2 (by have := hpk.out.1; omega) (by have := hpk.out.2; omega)).mono ?_
                rintro e wt4 ⟨B3, d3, B4, d4, rfl, ho9, hb9⟩
                have oB : Hid (OwnQ (fun q => wr.heap.size ≤ q ∧ q ≠ m10 ∧ q ≠ m11) wt4 a B3 B4) := hid ((OwnQ.mk ho9.ks ho9.ws).more fun q hq _ => by have := hb3.out.size; have := kA.out.lt; have := kB.out.lt; omega)
                have hb4 := hid (hb3.out.trans (hb9.mono hb3.out.size))
                have oA := hid (oA.out.below hb9)
                have kA := hid (kA.out.below_all hb9)
                have kB := hid (kB.out.below_all hb9)
                clear ho9 hb9
                refine hK.out _ _ ?_ (fun hHeld => ?_)
                · exact hb4.out
                clear hK K
                (try simp only [Act.put, List.setIfInBounds_toArray, List.set_cons_zero, List.set_cons_succ, List.getElem_toArray, List.getElem_cons_zero, List.getElem_cons_succ])
                have z0 : wt4.cell? ⟨m10, 0, none⟩ = some (.int .i64 0) := kA.out.cell 0
                have z1 : wt4.cell? ⟨m10, 1, none⟩ = some (.slice none 0 0) := kA.out.cell 1
                have z2 : wt4.cell? ⟨m10, 2, none⟩ = some (.slice none 0 0) := kA.out.cell 2
                have z3 : wt4.cell? ⟨m10, 3, none⟩ = some (.int .i64 0) := kA.out.cell 3
                have z4 : wt4.cell? ⟨m10, 4, none⟩ = some (.int .i64 0) := kA.out.cell 4
                have fA := fun q => kA.out.frozen q
                have lA := kA.out.lt
                refine wpAnyH_ready (rs := [14]) (by kernel_rfl) (by simp) ?_
                refine AllReadyH.cons rfl (fun K hK => ?_) AllReadyH.nil
                go_simp
                obtain ⟨wt5, hW9, kN, hup⟩ := set_act' kA.out (.int .i64 a.kind) (.slice B1 a.ks.length d1) (.slice B2 a.ws.length d2) (.int .i64 a.mark) (.int .i64 a.n)
                rw [hW9]
                clear hW9
                have kB := hid (kB.out.upd hup fun e => (by have := hAB.out; omega))
                have kA := hid kN
                have oA := hid (oA.out.upd hup fun q hq e => by omega)
                have oB := hid (oB.out.upd hup fun q hq e => by omega)
                have hb5 := hid (hb4.out.trans (hup.below hb4.out.size fun q hq e => by have := lkA.out; have := lkB.out; omega))
                clear kN hup z0 z1 z2 z3 z4 fA lA
                refine hK.out _ _ ?_ (fun hHeld => ?_)
                · exact hb5.out
                clear hK K
                (try simp only [Act.put, List.setIfInBounds_toArray, List.set_cons_zero, List.set_cons_succ, List.getElem_toArray, List.getElem_cons_zero, List.getElem_cons_succ])
                have z0 : wt5.cell? ⟨m11, 0, none⟩ = some (.int .i64 0) := kB.out.cell 0
                have z1 : wt5.cell? ⟨m11, 1, none⟩ = some (.slice none 0 0) := kB.out.cell 1
                have z2 : wt5.cell? ⟨m11, 2, none⟩ = some (.slice none 0 0) := kB.out.cell 2
                have z3 : wt5.cell? ⟨m11, 3, none⟩ = some (.int .i64 0) := kB.out.cell 3
                have z4 : wt5.cell? ⟨m11, 4, none⟩ = some (.int .i64 0) := kB.out.cell 4
                have fA := fun q => kB.out.frozen q
                have lA := kB.out.lt
                refine wpAnyH_ready (rs := [15]) (by kernel_rfl) (by simp) ?_
                refine AllReadyH.cons rfl (fun K hK => ?_) AllReadyH.nil
                go_simp
                obtain ⟨wt6, hW9, kN, hup⟩ := set_act' kB.out (.int .i64 a.kind) (.slice B3 a.ks.length d3) (.slice B4 a.ws.length d4) (.int .i64 a.mark) (.int .i64 a.n)
                rw [hW9]
                clear hW9
                have kA := hid (kA.out.upd hup fun e => (by have := hAB.out; omega))
                have kB := hid kN
                have oA := hid (oA.out.upd hup fun q hq e => by omega)
                have oB := hid (oB.out.upd hup fun q hq e => by omega)
                have hb6 := hid (hb5.out.trans (hup.below hb5.out.size fun q hq e => by have := lkA.out; have := lkB.out; omega))
                clear kN hup z0 z1 z2 z3 z4 fA lA
                refine hK.out _ _ ?_ (fun hHeld => ?_)
                · exact hb6.out
                clear hK K
                (try simp only [Act.put, List.setIfInBounds_toArray, List.set_cons_zero, List.set_cons_succ, List.getElem_toArray, List.getElem_cons_zero, List.getElem_cons_succ])
                refine wpAnyH_done (by kernel_rfl) ?_ _
                go_wp2_with fail
                go_meet
                case rel => exact ⟨m10, m11, B1, d1, B2, d2, B3, d3, B4, d4, rfl, rfl, kA.out, kB.out, ⟨oA.out.ks.more fun q hq _ => hq.1, oA.out.ws.more fun q hq _ => hq.1⟩, ⟨oB.out.ks.more fun q hq _ => hq.1, oB.out.ws.more fun q hq _ => hq.1⟩, hb6.out, lkA.out, lkB.out⟩
              exact AllReadyH.nil
            exact AllReadyH.nil
          exact AllReadyH.nil
        exact AllReadyH.nil
      case rest =>
        obtain ⟨m10, m11, B1, d1, B2, d2, B3, d3, B4, d4, rfl, rfl, kA0, kB0, oA0, oB0, hbc0, l100, l110⟩ := hcut
        have kA := hid kA0
        have kB := hid kB0
        have oA := hid oA0
        have oB := hid oB0
        have hbc := hid hbc0
        have l10 := hid l100
        have l11 := hid l110
        have R5 := hid (R.out.below hbc0)
        have hT1 : Hid (∀ q, T1 q → q < wr.heap.size) := hid R.out.two.a.lt
        have hT2 : Hid (∀ q, T2 q → q < wr.heap.size) := hid R.out.two.b.lt
        have hBc := hid (hB3.out.trans (hbc0.mono hB3.out.size))
        clear kA0 kB0 oA0 oB0 hbc0 l100 l110 R hyy x3
        have c0 : wc.cell? ⟨m10, 0, none⟩ = some (.int .i64 a.kind) := kA.out.cell 0
        go_upto_block 2 with fail
        go_cut [] (fun wx => ∃ (T1 T2 : Nat → Prop) (z1 z2 : Zg), ARel w2 wx g1 g2 z1 z2 T1 T2)
        case first =>
          as_aux_lemma =>
          by_cases e1 : a.kind = 1
          · have t11 : (a.kind == 1) = true := by rw [e1]; rfl
            have t12 : (a.kind == 2) = false := by rw [e1]; rfl
            have t13 : (a.kind == 3) = false := by rw [e1]; rfl
            have t14 : (a.kind == 4) = false := by rw [e1]; rfl
            have t15 : (a.kind == 5) = false := by rw [e1]; rfl
            have t16 : (a.kind == 6) = false := by rw [e1]; rfl
            clear e1
            go_upto_region 13 with fail
            refine wp_region_held_drew (S := fun w'' => Blk w'' m10 36 #[.int .i64 a.kind, .slice B1 a.ks.length d1, .slice B2 a.ws.length d2, .int .i64 a.mark, .int .i64 a.n] ∧ Blk w'' m11 36 #[.int .i64 a.kind, .slice B3 a.ks.length d3, .slice B4 a.ws.length d4, .int .i64 a.mark, .int .i64 a.n]) (by kernel_rfl) ?_ (fun hHeld => ?_)
            · exact ⟨kA.out.drew, kB.out.drew⟩
            have hdr := hid ((Below.refl wc.heap.size wc).drew)
            have R6 := hid (R5.out.below hdr.out)
            have oA := hid (show OwnZ wr.heap.size _ a B1 d1 B2 d2 from oA.out.below hdr.out)
            have oB := hid (show OwnZ wr.heap.size _ a B3 d3 B4 d4 from oB.out.below hdr.out)
            clear hdr R5
            generalize World.drew wc = wd at *
            refine wpAnyH_take (i := 0) (v := ?v11) rfl (by kernel_rfl) (by kernel_rfl) (by kernel_rfl) (fun _ _ _ h => h) (Or.inl ⟨by rfl, ?hy11⟩) (by assumption) ?rest11
            case hy11 => intro w' hSw; have q1 : w'.cell? ⟨m10, 1, none⟩ = some (.slice B1 a.ks.length d1) := hSw.1.cell 1; have q2 : w'.cell? ⟨m11, 1, none⟩ = some (.slice B3 a.ks.length d3) := hSw.2.cell 1; (try dsimp only at hSw); go_simp; try with_reducible rfl
            (try simp only [Act.put, List.setIfInBounds_toArray, List.set_cons_zero, List.set_cons_succ, List.getElem_toArray, List.getElem_cons_zero, List.getElem_cons_succ])
            refine wpAnyH_take (i := 1) (v := ?v12) rfl (by kernel_rfl) (by kernel_rfl) (by kernel_rfl) (fun _ _ _ h => h) (Or.inl ⟨by rfl, ?hy12⟩) (by assumption) ?rest12
            case hy12 => intro w' hSw; have q1 : w'.cell? ⟨m10, 1, none⟩ = some (.slice B1 a.ks.length d1) := hSw.1.cell 1; have q2 : w'.cell? ⟨m11, 1, none⟩ = some (.slice B3 a.ks.length d3) := hSw.2.cell 1; (try dsimp only at hSw); go_simp; try with_reducible rfl
            (try simp only [Act.put, List.setIfInBounds_toArray, List.set_cons_zero, List.set_cons_succ, List.getElem_toArray, List.getElem_cons_zero, List.getElem_cons_succ])
            refine wpAnyH_take (i := 2) (v := ?v13) rfl (by kernel_rfl) (by kernel_rfl) (by kernel_rfl) (fun _ _ _ h => h) (Or.inl ⟨by rfl, ?hy13⟩) (by assumption) ?rest13
            case hy13 => intro w' hSw; have q1 : w'.cell? ⟨m10, 1, none⟩ = some (.slice B1 a.ks.length d1) := hSw.1.cell 1; have q2 : w'.cell? ⟨m11, 1, none⟩ = some (.slice B3 a.ks.length d3) := hSw.2.cell 1; (try dsimp only at hSw); go_simp; try with_reducible rfl
            (try simp only [Act.put, List.setIfInBounds_toArray, List.set_cons_zero, List.set_cons_succ, List.getElem_toArray, List.getElem_cons_zero, List.getElem_cons_succ])
            refine wpAnyH_take (i := 4) (v := ?v14) rfl (by kernel_rfl) (by kernel_rfl) (by kernel_rfl) (fun _ _ _ h => h) (Or.inl ⟨by rfl, ?hy14⟩) (by assumption) ?rest14
            case hy14 => intro w' hSw; have q1 : w'.cell? ⟨m10, 1, none⟩ = some (.slice B1 a.ks.length d1) := hSw.1.cell 1; have q2 : w'.cell? ⟨m11, 1, none⟩ = some (.slice B3 a.ks.length d3) := hSw.2.cell 1; (try dsimp only at hSw); go_simp; try with_reducible rfl
            (try simp only [Act.put, List.setIfInBounds_toArray, List.set_cons_zero, List.set_cons_succ, List.getElem_toArray, List.getElem_cons_zero, List.getElem_cons_succ])
            refine wpAnyH_take (i := 5) (v := ?v15) rfl (by kernel_rfl) (by kernel_rfl) (by kernel_rfl) (fun _ _ _ h => h) (Or.inl ⟨by rfl, ?hy15⟩) (by assumption) ?rest15
            case hy15 => intro w' hSw; have q1 : w'.cell? ⟨m10, 1, none⟩ = some (.slice B1 a.ks.length d1) := hSw.1.cell 1; have q2 : w'.cell? ⟨m11, 1, none⟩ = some (.slice B3 a.ks.length d3) := hSw.2.cell 1; (try dsimp only at hSw); go_simp; try with_reducible rfl
            (try simp only [Act.put, List.setIfInBounds_toArray, List.set_cons_zero, List.set_cons_succ, List.getElem_toArray, List.getElem_cons_zero, List.getElem_cons_succ])
            refine wpAnyH_take (i := 6) (v := ?v16) rfl (by kernel_rfl) (by kernel_rfl) (by kernel_rfl) (fun _ _ _ h => h) (Or.inl ⟨by rfl, ?hy16⟩) (by assumption) ?rest16
            case hy16 => intro w' hSw; have q1 : w'.cell? ⟨m10, 1, none⟩ = some (.slice B1 a.ks.length d1) := hSw.1.cell 1; have q2 : w'.cell? ⟨m11, 1, none⟩ = some (.slice B3 a.ks.length d3) := hSw.2.cell 1; (try dsimp only at hSw); go_simp; try with_reducible rfl
            (try simp only [Act.put, List.setIfInBounds_toArray, List.set_cons_zero, List.set_cons_succ, List.getElem_toArray, List.getElem_cons_zero, List.getElem_cons_succ])
            refine wpAnyH_ready (rs := [3]) (by kernel_rfl) (by simp) ?_
            refine AllReadyH.cons rfl (fun K hK => ?_) AllReadyH.nil
            go_simp
            refine (zclaim_any (c := d1) a.ks R6.out.two.a oA.out.ks (fun q hq hT => by have := hT1.out q hT; omega) hzk.out.1 (by have := hpk.out.1; omega)).mono ?_
            rintro e wa ⟨rfl, hgo⟩
            obtain ⟨T1', hz7, hu7⟩ := R6.out.two.goA hgo
            have hz7 := hid hz7
            have oB := hid (oB.out.upd hu7 fun q hq hT => by have := hT1.out q hT; omega)
            have hk7 : Hid (Blk wa m10 36 #[.int .i64 a.kind, .slice B1 a.ks.length d1, .slice B2 a.ws.length d2, .int .i64 a.mark, .int .i64 a.n] ∧ Blk wa m11 36 #[.int .i64 a.kind, .slice B3 a.ks.length d3, .slice B4 a.ws.length d4, .int .i64 a.mark, .int .i64 a.n]) := hid ⟨hHeld.1.upd hu7 fun hT => by have := hT1.out _ hT; have := l10.out; omega, hHeld.2.upd hu7 fun hT => by have := hT1.out _ hT; have := l11.out; omega⟩
            clear hgo hu7
            refine hK.out _ _ ?_ (fun hHeld => ?_)
            · exact hk7.out
            clear hK K
            (try simp only [Act.put, List.setIfInBounds_toArray, List.set_cons_zero, List.set_cons_succ, List.getElem_toArray, List.getElem_cons_zero, List.getElem_cons_succ])
            refine wpAnyH_ready (rs := [7]) (by kernel_rfl) (by simp) ?_
            refine AllReadyH.cons rfl (fun K hK => ?_) AllReadyH.nil
            go_simp
            have h9 := zclaim_any (c := d3) a.ks hz7.out.b oB.out.ks (fun q hq hT => by have := hT2.out q hT; omega) hzk.out.1 (by have := hpk.out.1; omega)
            rw [← R6.out.one] at h9
            refine h9.mono ?_
            clear h9
            rintro e wb ⟨rfl, hgo⟩
            obtain ⟨T2', hz8, hu8⟩ := hz7.out.goB hgo
            have hz8 := hid hz8
            have hk8 : Hid (Blk wb m10 36 #[.int .i64 a.kind, .slice B1 a.ks.length d1, .slice B2 a.ws.length d2, .int .i64 a.mark, .int .i64 a.n] ∧ Blk wb m11 36 #[.int .i64 a.kind, .slice B3 a.ks.length d3, .slice B4 a.ws.length d4, .int .i64 a.mark, .int .i64 a.n]) := hid ⟨hHeld.1.upd hu8 fun hT => by have := hT2.out _ hT; have := l10.out; omega, hHeld.2.upd hu8 fun hT => by have := hT2.out _ hT; have := l11.out; omega⟩
            have R8 : Hid (ARel w2 wb g1 g2 (z1.claim a.ks) (z2.claim a.ks) T1' T2') := hid ⟨hz8.out, by rw [claim_s, claim_s, R6.out.one], rngz_claim R6.out.r1 _, rngz_claim R6.out.r2 _⟩
            clear hgo hu8 hz8 R6
            refine hK.out _ _ ?_ (fun hHeld => ?_)
            · exact hk8.out
            clear hK K
            (try simp only [Act.put, List.setIfInBounds_toArray, List.set_cons_zero, List.set_cons_succ, List.getElem_toArray, List.getElem_cons_zero, List.getElem_cons_succ])
            have hne : (claimE z1.s a.ks != claimE z1.s a.ks) = false := by simp
            refine wpAnyH_take (i := 8) (v := ?v17) rfl (by kernel_rfl) (by kernel_rfl) (by kernel_rfl) (fun _ _ _ h => h) (Or.inl ⟨by rfl, ?hy17⟩) (by assumption) ?rest17
            case hy17 => intro w' hSw; (try dsimp only at hSw); go_simp; try with_reducible rfl
            (try simp only [Act.put, List.setIfInBounds_toArray, List.set_cons_zero, List.set_cons_succ, List.getElem_toArray, List.getElem_cons_zero, List.getElem_cons_succ])
            refine wpAnyH_done (by kernel_rfl) ?_ _
            go_wp2_with fail
            go_meet
            case rel => exact ⟨T1', T2', _, _, R8.out⟩
          have tk1 : (a.kind == 1) = false := by simpa using e1
          clear e1
          by_cases e2 : a.kind = 2
          · have t22 : (a.kind == 2) = true := by rw [e2]; rfl
            have t23 : (a.kind == 3) = false := by rw [e2]; rfl
            have t24 : (a.kind == 4) = false := by rw [e2]; rfl
            have t25 : (a.kind == 5) = false := by rw [e2]; rfl
            have t26 : (a.kind == 6) = false := by rw [e2]; rfl
            clear e2
            go_upto_region 16 with fail
            refine wp_region_held_drew (S := fun w'' => Blk w'' m10 36 #[.int .i64 a.kind, .slice B1 a.ks.length d1, .slice B2 a.ws.length d2, .int .i64 a.mark, .int .i64 a.n] ∧ Blk w'' m11 36 #[.int .i64 a.kind, .slice B3 a.ks.length d3, .slice B4 a.ws.length d4, .int .i64 a.mark, .int .i64 a.n]) (by kernel_rfl) ?_ (fun hHeld => ?_)
            · exact ⟨kA.out.drew, kB.out.drew⟩
            have hdr := hid ((Below.refl wc.heap.size wc).drew)
            have R6 := hid (R5.out.below hdr.out)
            have oA := hid (show OwnZ wr.heap.size _ a B1 d1 B2 d2 from oA.out.below hdr.out)
            have oB := hid (show OwnZ wr.heap.size _ a B3 d3 B4 d4 from oB.out.below hdr.out)
            clear hdr R5
            generalize World.drew wc = wd at *
            refine wpAnyH_take (i := 0) (v := ?v18) rfl (by kernel_rfl) (by kernel_rfl) (by kernel_rfl) (fun _ _ _ h => h) (Or.inl ⟨by rfl, ?hy18⟩) (by assumption) ?rest18
            case hy18 => intro w' hSw; have q1 : w'.cell? ⟨m10, 2, none⟩ = some (.slice B2 a.ws.length d2) := hSw.1.cell 2; have q2 : w'.cell? ⟨m11, 2, none⟩ = some (.slice B4 a.ws.length d4) := hSw.2.cell 2; (try dsimp only at hSw); go_simp; try with_reducible rfl
            (try simp only [Act.put, List.setIfInBounds_toArray, List.set_cons_zero, List.set_cons_succ, List.getElem_toArray, List.getElem_cons_zero, List.getElem_cons_succ])
            refine wpAnyH_take (i := 1) (v := ?v19) rfl (by kernel_rfl) (by kernel_rfl) (by kernel_rfl) (fun _ _ _ h => h) (Or.inl ⟨by rfl, ?hy19⟩) (by assumption) ?rest19
            case hy19 => intro w' hSw; have q1 : w'.cell? ⟨m10, 2, none⟩ = some (.slice B2 a.ws.length d2) := hSw.1.cell 2; have q2 : w'.cell? ⟨m11, 2, none⟩ = some (.slice B4 a.ws.length d4) := hSw.2.cell 2; (try dsimp only at hSw); go_simp; try with_reducible rfl
            (try simp only [Act.put, List.setIfInBounds_toArray, List.set_cons_zero, List.set_cons_succ, List.getElem_toArray, List.getElem_cons_zero, List.getElem_cons_succ])
            refine wpAnyH_take (i := 2) (v := ?v20) rfl (by kernel_rfl) (by kernel_rfl) (by kernel_rfl) (fun _ _ _ h => h) (Or.inl ⟨by rfl, ?hy20⟩) (by assumption) ?rest20
            case hy20 => intro w' hSw; have q1 : w'.cell? ⟨m10, 2, none⟩ = some (.slice B2 a.ws.length d2) := hSw.1.cell 2; have q2 : w'.cell? ⟨m11, 2, none⟩ = some (.slice B4 a.ws.length d4) := hSw.2.cell 2; (try dsimp only at hSw); go_simp; try with_reducible rfl
            (try simp only [Act.put, List.setIfInBounds_toArray, List.set_cons_zero, List.set_cons_succ, List.getElem_toArray, List.getElem_cons_zero, List.getElem_cons_succ])
            refine wpAnyH_take (i := 4) (v := ?v21) rfl (by kernel_rfl) (by kernel_rfl) (by kernel_rfl) (fun _ _ _ h => h) (Or.inl ⟨by rfl, ?hy21⟩) (by assumption) ?rest21
            case hy21 => intro w' hSw; have q1 : w'.cell? ⟨m10, 2, none⟩ = some (.slice B2 a.ws.length d2) := hSw.1.cell 2; have q2 : w'.cell? ⟨m11, 2, none⟩ = some (.slice B4 a.ws.length d4) := hSw.2.cell 2; (try dsimp only at hSw); go_simp; try with_reducible rfl
            (try simp only [Act.put, List.setIfInBounds_toArray, List.set_cons_zero, List.set_cons_succ, List.getElem_toArray, List.getElem_cons_zero, List.getElem_cons_succ])
            refine wpAnyH_take (i := 5) (v := ?v22) rfl (by kernel_rfl) (by kernel_rfl) (by kernel_rfl) (fun _ _ _ h => h) (Or.inl ⟨by rfl, ?hy22⟩) (by assumption) ?rest22
            case hy22 => intro w' hSw; have q1 : w'.cell? ⟨m10, 2, none⟩ = some (.slice B2 a.ws.length d2) := hSw.1.cell 2; have q2 : w'.cell? ⟨m11, 2, none⟩ = some (.slice B4 a.ws.length d4) := hSw.2.cell 2; (try dsimp only at hSw); go_simp; try with_reducible rfl
            (try simp only [Act.put, List.setIfInBounds_toArray, List.set_cons_zero, List.set_cons_succ, List.getElem_toArray, List.getElem_cons_zero, List.getElem_cons_succ])
            refine wpAnyH_take (i := 6) (v := ?v23) rfl (by kernel_rfl) (by kernel_rfl) (by kernel_rfl) (fun _ _ _ h => h) (Or.inl ⟨by rfl, ?hy23⟩) (by assumption) ?rest23
            case hy23 => intro w' hSw; have q1 : w'.cell? ⟨m10, 2, none⟩ = some (.slice B2 a.ws.length d2) := hSw.1.cell 2; have q2 : w'.cell? ⟨m11, 2, none⟩ = some (.slice B4 a.ws.length d4) := hSw.2.cell 2; (try dsimp only at hSw); go_simp; try with_reducible rfl
            (try simp only [Act.put, List.setIfInBounds_toArray, List.set_cons_zero, List.set_cons_succ, List.getElem_toArray, List.getElem_cons_zero, List.getElem_cons_succ])
            refine wpAnyH_ready (rs := [3]) (by kernel_rfl) (by simp) ?_
            refine AllReadyH.cons rfl (fun K hK => ?_) AllReadyH.nil
            go_simp
            refine (zapply_any (c := d2) a.ws R6.out.two.a oA.out.ws (fun q hq hT => by have := hT1.out q hT; omega) hzk.out.2 (by have := hpk.out.2; omega)).mono ?_
            rintro e wa ⟨rfl, hgo⟩
            obtain ⟨T1', hz7, hu7⟩ := R6.out.two.goA hgo
            have hz7 := hid hz7
            have oB := hid (oB.out.upd hu7 fun q hq hT => by have := hT1.out q hT; omega)
            have hk7 : Hid (Blk wa m10 36 #[.int .i64 a.kind, .slice B1 a.ks.length d1, .slice B2 a.ws.length d2, .int .i64 a.mark, .int .i64 a.n] ∧ Blk wa m11 36 #[.int .i64 a.kind, .slice B3 a.ks.length d3, .slice B4 a.ws.length d4, .int .i64 a.mark, .int .i64 a.n]) := hid ⟨hHeld.1.upd hu7 fun hT => by have := hT1.out _ hT; have := l10.out; omega, hHeld.2.upd hu7 fun hT => by have := hT1.out _ hT; have := l11.out; omega⟩
            clear hgo hu7
            refine hK.out _ _ ?_ (fun hHeld => ?_)
            · exact hk7.out
            clear hK K
            (try simp only [Act.put, List.setIfInBounds_toArray, List.set_cons_zero, List.set_cons_succ, List.getElem_toArray, List.getElem_cons_zero, List.getElem_cons_succ])
            refine wpAnyH_ready (rs := [7]) (by kernel_rfl) (by simp) ?_
            refine AllReadyH.cons rfl (fun K hK => ?_) AllReadyH.nil
            go_simp
            have h9 := zapply_any (c := d4) a.ws hz7.out.b oB.out.ws (fun q hq hT => by have := hT2.out q hT; omega) hzk.out.2 (by have := hpk.out.2; omega)
            rw [← R6.out.one] at h9
            refine h9.mono ?_
            clear h9
            rintro e wb ⟨rfl, hgo⟩
            obtain ⟨T2', hz8, hu8⟩ := hz7.out.goB hgo
            have hz8 := hid hz8
            have hk8 : Hid (Blk wb m10 36 #[.int .i64 a.kind, .slice B1 a.ks.length d1, .slice B2 a.ws.length d2, .int .i64 a.mark, .int .i64 a.n] ∧ Blk wb m11 36 #[.int .i64 a.kind, .slice B3 a.ks.length d3, .slice B4 a.ws.length d4, .int .i64 a.mark, .int .i64 a.n]) := hid ⟨hHeld.1.upd hu8 fun hT => by have := hT2.out _ hT; have := l10.out; omega, hHeld.2.upd hu8 fun hT => by have := hT2.out _ hT; have := l11.out; omega⟩
            have R8 : Hid (ARel w2 wb g1 g2 (z1.apply a.ws) (z2.apply a.ws) T1' T2') := hid ⟨hz8.out, by rw [apply_s, apply_s, R6.out.one], rngz_apply R6.out.r1 hvk.out, rngz_apply R6.out.r2 hvk.out⟩
            clear hgo hu8 hz8 R6
            refine hK.out _ _ ?_ (fun hHeld => ?_)
            · exact hk8.out
            clear hK K
            (try simp only [Act.put, List.setIfInBounds_toArray, List.set_cons_zero, List.set_cons_succ, List.getElem_toArray, List.getElem_cons_zero, List.getElem_cons_succ])
            have hne : (applyE z1.s a.ws != applyE z1.s a.ws) = false := by simp
            refine wpAnyH_take (i := 8) (v := ?v24) rfl (by kernel_rfl) (by kernel_rfl) (by kernel_rfl) (fun _ _ _ h => h) (Or.inl ⟨by rfl, ?hy24⟩) (by assumption) ?rest24
            case hy24 => intro w' hSw; (try dsimp only at hSw); go_simp; try with_reducible rfl
            (try simp only [Act.put, List.setIfInBounds_toArray, List.set_cons_zero, List.set_cons_succ, List.getElem_toArray, List.getElem_cons_zero, List.getElem_cons_succ])
            refine wpAnyH_done (by kernel_rfl) ?_ _
            go_wp2_with fail
            go_meet
            case rel => exact ⟨T1', T2', _, _, R8.out⟩
          have tk2 : (a.kind == 2) = false := by simpa using e2
          clear e2
          by_cases e3 : a.kind = 3
          · have t33 : (a.kind == 3) = true := by rw [e3]; rfl
            have t34 : (a.kind == 4) = false := by rw [e3]; rfl
            have t35 : (a.kind == 5) = false := by rw [e3]; rfl
            have t36 : (a.kind == 6) = false := by rw [e3]; rfl
            clear e3
            have c3 : wc.cell? ⟨m10, 3, none⟩ = some (.int .i64 a.mark) := kA.out.cell 3
            go_wp2_with fail
            refine (zbegin_any a.mark R5.out.two.a).mono ?_
            rintro e wa ⟨rfl, hgo⟩
            obtain ⟨T1', hz7, _⟩ := R5.out.two.goA hgo
            have R8 : Hid (ARel w2 wa g1 g2 (z1.begin a.mark) z2 T1' T2) := hid ⟨hz7, by rw [begin_s, R5.out.one], rngz_begin R5.out.r1 _, R5.out.r2⟩
            clear hgo hz7 R5
            go_wp2_with fail
            go_meet
            case rel => exact ⟨T1', T2, _, _, R8.out⟩
          have tk3 : (a.kind == 3) = false := by simpa using e3
          clear e3
          by_cases e4 : a.kind = 4
          · have t44 : (a.kind == 4) = true := by rw [e4]; rfl
            have t45 : (a.kind == 5) = false := by rw [e4]; rfl
            have t46 : (a.kind == 6) = false := by rw [e4]; rfl
            clear e4
            have c4 : wc.cell? ⟨m10, 4, none⟩ = some (.int .i64 a.n) := kA.out.cell 4
            go_wp2_with fail
            refine (zstep_any a.n R5.out.two.a).mono ?_
            rintro e wa ⟨rfl, hgo⟩
            obtain ⟨T1', hz7, _⟩ := R5.out.two.goA hgo
            have R8 : Hid (ARel w2 wa g1 g2 (z1.step a.n) z2 T1' T2) := hid ⟨hz7, by rw [step_s, R5.out.one], rngz_step R5.out.r1 _, R5.out.r2⟩
            clear hgo hz7 R5
            go_wp2_with fail
            go_meet
            case rel => exact ⟨T1', T2, _, _, R8.out⟩
          have tk4 : (a.kind == 4) = false := by simpa using e4
          clear e4
          by_cases e5 : a.kind = 5
          · have t55 : (a.kind == 5) = true := by rw [e5]; rfl
            have t56 : (a.kind == 6) = false := by rw [e5]; rfl
            clear e5
            go_wp2_with fail
            refine (ztake_any R5.out.two.a (fun W hW => hE.out.below (hBc.out.trans (hW.below hBc.out.size fun q hq e => by have := R5.out.two.ge.1 q e; have := hB2.out.size; omega))) R5.out.r1).mono ?_
            rintro e wa ⟨hgo, mk, A12, n12, c12, rfl, _, _⟩
            obtain ⟨T1', hz7, _⟩ := R5.out.two.goA hgo
            have R8 : Hid (ARel w2 wa g1 g2 (z1.take) z2 T1' T2) := hid ⟨hz7, by rw [take_s, R5.out.one], rngz_take R5.out.r1, R5.out.r2⟩
            clear hgo hz7 R5
            go_wp2_with fail
            go_meet
            case rel => exact ⟨T1', T2, _, _, R8.out⟩
          have tk5 : (a.kind == 5) = false := by simpa using e5
          clear e5
          by_cases e6 : a.kind = 6
          · have t66 : (a.kind == 6) = true := by rw [e6]; rfl
            clear e6
            go_wp2_with fail
            refine (zdrop_any R5.out.two.a).mono ?_
            rintro e wa ⟨rfl, hgo⟩
            obtain ⟨T1', hz7, _⟩ := R5.out.two.goA hgo
            have R8 : Hid (ARel w2 wa g1 g2 (z1.drop) z2 T1' T2) := hid ⟨hz7, by rw [drop_s, R5.out.one], rngz_drop R5.out.r1, R5.out.r2⟩
            clear hgo hz7 R5
            go_wp2_with fail
            go_meet
            case rel => exact ⟨T1', T2, _, _, R8.out⟩
          have tk6 : (a.kind == 6) = false := by simpa using e6
          clear e6
          go_wp2_with fail
          go_meet
          case rel => exact ⟨T1, T2, _, _, R5.out⟩
        case rest =>
          obtain ⟨T1, T2, z1, z2, Rc⟩ := hcut
          have R := hid Rc
          clear Rc R5 kA kB oA oB hbc l10 l11 hT1 hT2 hBc c0 hpk hzk hvk
          rename World => wc
          go_wp2_with fail
          go_loopw [12] (fun v wz => ∃ i : Nat, v = .int .i64 i ∧ i ≤ ks.length ∧ ARel w2 wz g1 g2 z1 z2 T1 T2) (fun v _ => ks.length - (intOf v).toNat)
          case atStart => exact ⟨0, rfl, Nat.zero_le _, R.out⟩
          case round =>
            rename World => wz
            clear R
            obtain ⟨i, rfl, hil, R0⟩ := hrel
            have R5 := hid R0
            clear R0
            by_cases hli : i < ks.length
            · as_aux_lemma =>
              have i1 : (i : Int) < (ks.length : Int) := by omega
              have i3 : IntKind.i64.wrap ((i : Int) + 1) = (i : Int) + 1 := by rw [IntKind.wrap_i64]; have := hkn.out; omega
              obtain ⟨b9, o9, hA9, _, _, _⟩ := rd_strs (hks.out.below_all (hB2.out.trans (R5.out.two.bel.mono hB2.out.size))) hli
              obtain rfl := hA9
              have hyk : Hid (∀ w', Below wz.heap.size wz w' → w'.cell? ⟨b9, o9 + i, none⟩ = some (.string (ks[i]'hli))) := hid fun w' hb => by
                obtain ⟨b', o', e', _, _, y⟩ := rd_strs (hks.out.below_all ((hB2.out.trans (R5.out.two.bel.mono hB2.out.size)).trans (hb.mono (by have := R5.out.two.bel.size; have := hB2.out.size; omega)))) hli
                cases e'
                exact y
              generalize ks[i] = key at *
              go_upto_region 29 with fail
              refine wp_region_held_drew (S := fun w'' => Below wz.heap.size wz w'') (by kernel_rfl) ?_ (fun hHeld => ?_)
              · exact (Below.refl _ _).drew
              have hb0 : Hid (Below wz.heap.size wz wz.drew) := hid (Below.refl _ _).drew
              have R6 := hid (R5.out.below hb0.out)
              generalize World.drew wz = wd at *
              refine wpAnyH_take (i := 0) (v := ?v25) rfl (by kernel_rfl) (by kernel_rfl) (by kernel_rfl) (fun _ _ _ h => h) (Or.inl ⟨by rfl, ?hy25⟩) (by assumption) ?rest25
              case hy25 => intro w' hSw; have q1 := hyk.out w' hSw; (try dsimp only at hSw); go_simp; try with_reducible rfl
              (try simp only [Act.put, List.setIfInBounds_toArray, List.set_cons_zero, List.set_cons_succ, List.getElem_toArray, List.getElem_cons_zero, List.getElem_cons_succ])
              refine wpAnyH_take (i := 1) (v := ?v26) rfl (by kernel_rfl) (by kernel_rfl) (by kernel_rfl) (fun _ _ _ h => h) (Or.inl ⟨by rfl, ?hy26⟩) (by assumption) ?rest26
              case hy26 => intro w' hSw; have q1 := hyk.out w' hSw; (try dsimp only at hSw); go_simp; try with_reducible rfl
              (try simp only [Act.put, List.setIfInBounds_toArray, List.set_cons_zero, List.set_cons_succ, List.getElem_toArray, List.getElem_cons_zero, List.getElem_cons_succ])
              refine wpAnyH_take (i := 2) (v := ?v27) rfl (by kernel_rfl) (by kernel_rfl) (by kernel_rfl) (fun _ _ _ h => h) (Or.inl ⟨by rfl, ?hy27⟩) (by assumption) ?rest27
              case hy27 => intro w' hSw; have q1 := hyk.out w' hSw; (try dsimp only at hSw); go_simp; try with_reducible rfl
              (try simp only [Act.put, List.setIfInBounds_toArray, List.set_cons_zero, List.set_cons_succ, List.getElem_toArray, List.getElem_cons_zero, List.getElem_cons_succ])
              refine wpAnyH_take (i := 3) (v := ?v28) rfl (by kernel_rfl) (by kernel_rfl) (by kernel_rfl) (fun _ _ _ h => h) (Or.inl ⟨by rfl, ?hy28⟩) (by assumption) ?rest28
              case hy28 => intro w' hSw; have q1 := hyk.out w' hSw; (try dsimp only at hSw); go_simp; try with_reducible rfl
              (try simp only [Act.put, List.setIfInBounds_toArray, List.set_cons_zero, List.set_cons_succ, List.getElem_toArray, List.getElem_cons_zero, List.getElem_cons_succ])
              refine wpAnyH_take (i := 4) (v := ?v29) rfl (by kernel_rfl) (by kernel_rfl) (by kernel_rfl) (fun _ _ _ h => h) (Or.inl ⟨by rfl, ?hy29⟩) (by assumption) ?rest29
              case hy29 => intro w' hSw; have q1 := hyk.out w' hSw; (try dsimp only at hSw); go_simp; try with_reducible rfl
              (try simp only [Act.put, List.setIfInBounds_toArray, List.set_cons_zero, List.set_cons_succ, List.getElem_toArray, List.getElem_cons_zero, List.getElem_cons_succ])
              refine wpAnyH_take (i := 6) (v := ?v30) rfl (by kernel_rfl) (by kernel_rfl) (by kernel_rfl) (fun _ _ _ h => h) (Or.inl ⟨by rfl, ?hy30⟩) (by assumption) ?rest30
              case hy30 => intro w' hSw; have q1 := hyk.out w' hSw; (try dsimp only at hSw); go_simp; try with_reducible rfl
              (try simp only [Act.put, List.setIfInBounds_toArray, List.set_cons_zero, List.set_cons_succ, List.getElem_toArray, List.getElem_cons_zero, List.getElem_cons_succ])
              refine wpAnyH_take (i := 7) (v := ?v31) rfl (by kernel_rfl) (by kernel_rfl) (by kernel_rfl) (fun _ _ _ h => h) (Or.inl ⟨by rfl, ?hy31⟩) (by assumption) ?rest31
              case hy31 => intro w' hSw; have q1 := hyk.out w' hSw; (try dsimp only at hSw); go_simp; try with_reducible rfl
              (try simp only [Act.put, List.setIfInBounds_toArray, List.set_cons_zero, List.set_cons_succ, List.getElem_toArray, List.getElem_cons_zero, List.getElem_cons_succ])
              refine wpAnyH_take (i := 8) (v := ?v32) rfl (by kernel_rfl) (by kernel_rfl) (by kernel_rfl) (fun _ _ _ h => h) (Or.inl ⟨by rfl, ?hy32⟩) (by assumption) ?rest32
              case hy32 => intro w' hSw; have q1 := hyk.out w' hSw; (try dsimp only at hSw); go_simp; try with_reducible rfl
              (try simp only [Act.put, List.setIfInBounds_toArray, List.set_cons_zero, List.set_cons_succ, List.getElem_toArray, List.getElem_cons_zero, List.getElem_cons_succ])
              refine wpAnyH_take (i := 9) (v := ?v33) rfl (by kernel_rfl) (by kernel_rfl) (by kernel_rfl) (fun _ _ _ h => h) (Or.inl ⟨by rfl, ?hy33⟩) (by assumption) ?rest33
              case hy33 => intro w' hSw; have q1 := hyk.out w' hSw; (try dsimp only at hSw); go_simp; try with_reducible rfl
              (try simp only [Act.put, List.setIfInBounds_toArray, List.set_cons_zero, List.set_cons_succ, List.getElem_toArray, List.getElem_cons_zero, List.getElem_cons_succ])
              refine wpAnyH_take (i := 10) (v := ?v34) rfl (by kernel_rfl) (by kernel_rfl) (by kernel_rfl) (fun _ _ _ h => h) (Or.inl ⟨by rfl, ?hy34⟩) (by assumption) ?rest34
              case hy34 => intro w' hSw; have q1 := hyk.out w' hSw; (try dsimp only at hSw); go_simp; try with_reducible rfl
              (try simp only [Act.put, List.setIfInBounds_toArray, List.set_cons_zero, List.set_cons_succ, List.getElem_toArray, List.getElem_cons_zero, List.getElem_cons_succ])
              refine wpAnyH_ready (rs := [5]) (by kernel_rfl) (by simp) ?_
              refine AllReadyH.cons rfl (fun K hK => ?_) AllReadyH.nil
              go_simp
              have h9 := zget_any key R6.out.two.a
              rw [Zg.get_eq R6.out.two.a.ok] at h9
              refine h9.mono ?_
              clear h9
              rintro e wa ⟨rfl, hba⟩
              have hb1 := hid (hb0.out.trans (hba.mono hb0.out.size))
              have R7 := hid (R6.out.below hba)
              clear hba R6
              refine hK.out _ _ ?_ (fun hHeld => ?_)
              · exact hb1.out
              clear hK K
              (try simp only [Act.put, List.setIfInBounds_toArray, List.set_cons_zero, List.set_cons_succ, List.getElem_toArray, List.getElem_cons_zero, List.getElem_cons_succ])
              refine wpAnyH_ready (rs := [11]) (by kernel_rfl) (by simp) ?_
              refine AllReadyH.cons rfl (fun K hK => ?_) AllReadyH.nil
              go_simp
              have h9 := zget_any key R7.out.two.b
              rw [Zg.get_eq R7.out.two.b.ok, ← R7.out.one] at h9
              refine h9.mono ?_
              clear h9
              rintro e wb ⟨rfl, hba⟩
              have hb2 := hid (hb1.out.trans (hba.mono hb1.out.size))
              have R8 := hid (R7.out.below hba)
              clear hba R7
              refine hK.out _ _ ?_ (fun hHeld => ?_)
              · exact hb2.out
              clear hK K
              (try simp only [Act.put, List.setIfInBounds_toArray, List.set_cons_zero, List.set_cons_succ, List.getElem_toArray, List.getElem_cons_zero, List.getElem_cons_succ])
              generalize valK key z1.s.L = vv at *
              refine wpAnyH_take (i := 12) (v := ?v35) rfl (by kernel_rfl) (by kernel_rfl) (by kernel_rfl) (fun _ _ _ h => h) (Or.inl ⟨by rfl, ?hy35⟩) (by assumption) ?rest35
              case hy35 => intro w' hSw; have qe := neqValZ vv; (try dsimp only at hSw); go_simp; try with_reducible rfl
              (try simp only [Act.put, List.setIfInBounds_toArray, List.set_cons_zero, List.set_cons_succ, List.getElem_toArray, List.getElem_cons_zero, List.getElem_cons_succ])
              refine wpAnyH_done (by kernel_rfl) ?_ _
              go_wp2_with fail
              go_roundw
              case rel => exact ⟨i + 1, by go_num, hli, R8.out⟩
              case measure => simp [intOf]; omega
            · as_aux_lemma =>
              obtain rfl : i = ks.length := by omega
              go_wp2_with fail
              go_roundw
              case rel => exact ⟨k + 1, T1, T2, z1, z2, by go_num, hlt, R5.out⟩
              case measure => simp [intOf]; omega
    · as_aux_lemma =>
      obtain rfl : k = us.length := by omega
      clear hlt hkl
      generalize us.length = n9 at *
      go_upto_region 31 with fail
      refine wp_region_held_drew (S := fun _ => True) (by kernel_rfl) ?_ (fun hHeld => ?_)
      · exact True.intro
      have RD := hid (R.out.below (Below.refl _ _).drew)
      have hBD := hid (hB2.out.trans (RD.out.two.bel.mono hB2.out.size))
      generalize World.drew wr = wd at *
      refine wpAnyH_take (i := 0) (v := ?v36) rfl (by kernel_rfl) (by kernel_rfl) (by kernel_rfl) (fun _ _ _ h => h) (Or.inl ⟨by rfl, ?hy36⟩) (by assumption) ?rest36
      case hy36 => intro w' hSw; (try dsimp only at hSw); go_simp; try with_reducible rfl
      (try simp only [Act.put, List.setIfInBounds_toArray, List.set_cons_zero, List.set_cons_succ, List.getElem_toArray, List.getElem_cons_zero, List.getElem_cons_succ])
      refine wpAnyH_take (i := 3) (v := ?v37) rfl (by kernel_rfl) (by kernel_rfl) (by kernel_rfl) (fun _ _ _ h => h) (Or.inl ⟨by rfl, ?hy37⟩) (by assumption) ?rest37
      case hy37 => intro w' hSw; (try dsimp only at hSw); go_simp; try with_reducible rfl
      (try simp only [Act.put, List.setIfInBounds_toArray, List.set_cons_zero, List.set_cons_succ, List.getElem_toArray, List.getElem_cons_zero, List.getElem_cons_succ])
      refine wpAnyH_ready (rs := [1]) (by kernel_rfl) (by simp) ?_
      refine AllReadyH.cons rfl (fun K hK => ?_) AllReadyH.nil
      go_simp
      refine (zbytes_any RD.out.two.a (hE.out.below hBD.out) RD.out.r1.2.2).mono ?_
      rintro e w8 ⟨A8, n8, d8, rfl, hcvR, hbR⟩

      have hcv8 := hid hcvR
      have hb8 := hid hbR
      clear hcvR hbR
      have hB8 := hid ((hBD.out).trans (hb8.out.mono (hBD.out).size))
      refine hK.out _ _ ?_ (fun hHeld => ?_)
      · exact True.intro
      clear hK K
      (try simp only [Act.put, List.setIfInBounds_toArray, List.set_cons_zero, List.set_cons_succ, List.getElem_toArray, List.getElem_cons_zero, List.getElem_cons_succ])
      refine wpAnyH_more (S' := fun w'' => Below w8.heap.size w8 w'') (fun _ _ => True.intro) _ _ _ _ ?_
      have hHeld := Below.refl w8.heap.size w8
      refine wpAnyH_take (i := 2) (v := ?v38) rfl (by kernel_rfl) (by kernel_rfl) (by kernel_rfl) (fun _ _ _ h => h) (Or.inl ⟨by rfl, ?hy38⟩) (by assumption) ?rest38
      case hy38 => intro w' hSw; have hq := hcv8.out w' hSw; (try dsimp only at hSw); go_simp; try with_reducible rfl
      (try simp only [Act.put, List.setIfInBounds_toArray, List.set_cons_zero, List.set_cons_succ, List.getElem_toArray, List.getElem_cons_zero, List.getElem_cons_succ])
      refine wpAnyH_ready (rs := [4]) (by kernel_rfl) (by simp) ?_
      refine AllReadyH.cons rfl (fun K hK => ?_) AllReadyH.nil
      go_simp
      refine (zbytes_any (RD.out.two.b.below hb8.out) (hE.out.below hB8.out) RD.out.r2.2.2).mono ?_
      rintro e w9 ⟨A9, n9, d9, rfl, hcvR, hbR⟩
      rw [← RD.out.one] at hcvR
      have hcv9 := hid hcvR
      have hb9 := hid hbR
      clear hcvR hbR
      have hB9 := hid ((hB8.out).trans (hb9.out.mono (hB8.out).size))
      refine hK.out _ _ ?_ (fun hHeld => ?_)
      · exact hb9.out
      clear hK K
      (try simp only [Act.put, List.setIfInBounds_toArray, List.set_cons_zero, List.set_cons_succ, List.getElem_toArray, List.getElem_cons_zero, List.getElem_cons_succ])
      refine wpAnyH_more (S' := fun w'' => Below w9.heap.size w9 w'') (fun w h => hb9.out.trans (Below.mono h hb9.out.size)) _ _ _ _ ?_
      have hHeld := Below.refl w9.heap.size w9
      refine wpAnyH_take (i := 5) (v := ?v39) rfl (by kernel_rfl) (by kernel_rfl) (by kernel_rfl) (fun _ _ _ h => h) (Or.inl ⟨by rfl, ?hy39⟩) (by assumption) ?rest39
      case hy39 => intro w' hSw; have hq := hcv9.out w' hSw; (try dsimp only at hSw); go_simp; try with_reducible rfl
      (try simp only [Act.put, List.setIfInBounds_toArray, List.set_cons_zero, List.set_cons_succ, List.getElem_toArray, List.getElem_cons_zero, List.getElem_cons_succ])
      generalize btS z1.s = bb at *
      refine wpAnyH_take (i := 6) (v := ?v40) rfl (by kernel_rfl) (by kernel_rfl) (by kernel_rfl) (fun _ _ _ h => h) (Or.inl ⟨by rfl, ?hy40⟩) (by assumption) ?rest40
      case hy40 => intro w' hSw; (try dsimp only at hSw); go_simp; try with_reducible rfl
      (try simp only [Act.put, List.setIfInBounds_toArray, List.set_cons_zero, List.set_cons_succ, List.getElem_toArray, List.getElem_cons_zero, List.getElem_cons_succ])
      refine wpAnyH_take (i := 7) (v := ?v41) rfl (by kernel_rfl) (by kernel_rfl) (by kernel_rfl) (fun _ _ _ h => h) (Or.inl ⟨by rfl, ?hy41⟩) (by assumption) ?rest41
      case hy41 => intro w' hSw; (try dsimp only at hSw); go_simp; try with_reducible rfl
      (try simp only [Act.put, List.setIfInBounds_toArray, List.set_cons_zero, List.set_cons_succ, List.getElem_toArray, List.getElem_cons_zero, List.getElem_cons_succ])
      refine wpAnyH_ready (rs := [8]) (by kernel_rfl) (by simp) ?_
      refine AllReadyH.cons rfl (fun K hK => ?_) AllReadyH.nil
      rw [if_pos (by rfl)]
      go_simp
      refine (live_any _ (hE.out.below hB9.out)).mono ?_
      rintro e wv ⟨rfl, hbv⟩
      have hfb : Hid (Below w.heap.size w wv) := hid (hB9.out.trans (hbv.mono hB9.out.size))
      have hbv := hid hbv
      refine hK.out _ _ ?_ (fun hHeld => ?_)
      · exact hbv.out
      clear hK K
      (try simp only [Act.put, List.setIfInBounds_toArray, List.set_cons_zero, List.set_cons_succ, List.getElem_toArray, List.getElem_cons_zero, List.getElem_cons_succ])
      refine wpAnyH_take (i := 9) (v := ?v42) rfl (by kernel_rfl) (by kernel_rfl) (by kernel_rfl) (fun _ _ _ h => h) (Or.inl ⟨by rfl, ?hy42⟩) (by assumption) ?rest42
      case hy42 => intro w' hSw; (try dsimp only at hSw); go_simp; try with_reducible rfl
      (try simp only [Act.put, List.setIfInBounds_toArray, List.set_cons_zero, List.set_cons_succ, List.getElem_toArray, List.getElem_cons_zero, List.getElem_cons_succ])
      refine wpAnyH_take (i := 10) (v := ?v43) rfl (by kernel_rfl) (by kernel_rfl) (by kernel_rfl) (fun _ _ _ h => h) (Or.inl ⟨by rfl, ?hy43⟩) (by assumption) ?rest43
      case hy43 => intro w' hSw; (try dsimp only at hSw); go_simp; try with_reducible rfl
      (try simp only [Act.put, List.setIfInBounds_toArray, List.set_cons_zero, List.set_cons_succ, List.getElem_toArray, List.getElem_cons_zero, List.getElem_cons_succ])
      refine wpAnyH_done (by kernel_rfl) ?_ _
      go_wp2_with fail
      go_ret
      exact ⟨rfl, hfb.out⟩
end
end Go.Proofs.YtefigpmkiemfhaaDoor

namespace Go.Proofs.YtefigpmkiemfhaaDoor
open Go.RowKit Go.Deep Go.ChangeShapes
set_option linter.unusedVariables false

theorem bulk_app {H : Type} (l r : List (DataW H)) : Rows.uptoBulkAll (l ++ r) = Rows.uptoBulkAll l + Rows.uptoBulkAll r := by
  induction l with
  | nil => simp [Rows.uptoBulkAll]
  | cons x l ih => simp only [List.cons_append, Rows.uptoBulkAll, ih]; omega
theorem cell_lt {w : World} {a : Addr} {v : Value} (h : w.cell? a = some v) : a.block < w.heap.size := by
  by_cases hl : a.block < w.heap.size
  · exact hl
  · exfalso
    have : w.heap[a.block]? = none := by simp; omega
    unfold World.cell? at h
    split at h <;> simp_all
theorem add_plain (b o j : Nat) : (⟨b, o, none⟩ : Addr).add j = ⟨b, o + j, none⟩ := by
  unfold Addr.add; split <;> simp_all
theorem flat_len {α : Type} (f : α → List Value) (sz : Nat) (hf : ∀ a, (f a).length = sz) (us : List α) : (us.flatMap f).length = us.length * sz := by
  induction us with
  | nil => simp
  | cons r l ih => rw [List.flatMap_cons, List.length_append, hf, ih, List.length_cons, Nat.succ_mul]; omega
/-- rows chosen one by one -/
theorem pick {α H : Type} (D : Nat → DataW H) (μ : α → Nat) (R : Nat → α → Prop) : ∀ len : Nat, (∀ i, i < len → ∃ a, R i a ∧ μ a ≤ Rows.uptoBulk (D i)) →
    ∃ us : List α, us.length = len ∧ (∀ i (h : i < us.length), R i us[i]) ∧ (us.map μ).sum ≤ Rows.uptoBulkAll ((List.range len).map D) := by
  intro len
  induction len with
  | zero => intro _; exact ⟨[], rfl, fun i h => absurd h (by simp), by simp⟩
  | succ n ih =>
    intro h
    obtain ⟨us, hl, hR, hs⟩ := ih fun i hi => h i (by omega)
    obtain ⟨a, ha, hm⟩ := h n (by omega)
    refine ⟨us ++ [a], by simp [hl], fun i hi => ?_, ?_⟩
    · by_cases hin : i < us.length
      · rw [List.getElem_append_left hin]; exact hR i hin
      · have : i = us.length := by simp at hi; omega
        subst this
        rw [List.getElem_append_right (by omega)]
        simpa [hl] using ha
    · rw [List.range_succ, List.map_append (f := D), bulk_app]
      simp only [List.map_append, List.sum_append, List.map_cons, List.map_nil, List.sum_cons, List.sum_nil, Rows.uptoBulkAll]
      omega

/-- a slice's cells, element by element -/
theorem open_rows {α H : Type} {enc : TypeId × Value → H} {w : World} {base : Nat} {spare : Nat → Bool} {held : Bool} {t e : TypeId} {fuel : Nat} {cs : List Value} {x : DataW H × List MemPlace}
    (cf : α → List Value) (μ : α → Nat) (ok : α → Prop) (sz : Nat) (hsz : 0 < sz) (hcf : ∀ a, (cf a).length = sz) (ht : Tryd.prog.underlying t = some (.slice e)) (hce : Tryd.prog.cellsOf e = sz)
    (hE : ∀ n cs' y, DataW.trod enc Tryd.prog w base spare held n e cs' = some y → ∃ a, cs' = cf a ∧ ok a ∧ μ a ≤ Rows.uptoBulk y.1)
    (h : DataW.trod enc Tryd.prog w base spare held fuel t cs = some x) :
    ∃ (A : Option Addr) (us : List α) (c : Nat), cs = [.slice A us.length c] ∧ Rd (fun b => b < w.heap.size) w sz A us.length (us.flatMap cf) ∧ (∀ a ∈ us, ok a) ∧ (us.map μ).sum + 1 ≤ Rows.uptoBulk x.1 := by
  rcases open_slice ht h with ⟨rfl, rfl⟩ | ⟨a, len, cap, m, n, D, Pl, rfl, hb, hl, hm, hmm, rfl, hx⟩
  · exact ⟨none, [], 0, rfl, Rd.nil_, by simp, by simp [Rows.uptoBulk]⟩
  · have hlm : len ≤ m := by rw [hmm]; split <;> omega
    obtain ⟨us, hal, hR, hs⟩ := pick D μ (fun i r => ok r ∧ ∃ cs', cs' = cf r ∧ w.cells? base (a.add (i * sz)) sz = some cs') len (fun i hi => by
      obtain ⟨cs', h1, h2⟩ := hx i (by omega)
      rw [hce] at h1
      obtain ⟨r, e1, e2, e3⟩ := hE _ _ _ h2
      exact ⟨r, ⟨e2, cs', e1, h1⟩, e3⟩)
    refine ⟨some a, us, cap, by rw [hal], ⟨?_, fun h0 => ?_⟩, fun r hr => ?_, ?_⟩
    · exact flat_len cf sz hcf us
    · obtain ⟨_, cs0, e1, e2⟩ := hR 0 h0
      obtain ⟨_, h3, h4⟩ := World.cells?_some e2
      have h5 := h4 0 hsz
      rw [List.getElem?_eq_getElem (by omega)] at h5
      simp at h5
      obtain ⟨b, o, sp⟩ := a
      have h8 : sp = none := by have := World.cell?_spot h5; simpa [Addr.add] using this
      have h9 : b < w.heap.size := by have := cell_lt h5; simpa [Addr.add] using this
      subst h8
      refine ⟨b, o, rfl, h9, h9, fun j u hu => ?_⟩
      have hj : j / sz < us.length := by
        have h1 := (List.getElem?_eq_some_iff.1 hu).1
        rw [flat_len cf sz hcf] at h1
        exact Nat.div_lt_of_lt_mul (by rw [Nat.mul_comm]; exact h1)
      have hjm := Nat.mod_lt j hsz
      have hdm : j / sz * sz + j % sz = j := by rw [Nat.mul_comm]; exact Nat.div_add_mod j sz
      obtain ⟨_, cs1, f1, f2⟩ := hR _ hj
      obtain ⟨_, f3, f4⟩ := World.cells?_some f2
      have f5 := f4 _ hjm
      rw [add_plain, add_plain, Nat.add_assoc, hdm] at f5
      rw [← hdm, aflat_at cf sz hcf us _ _ hj hjm, ← f1, ← f5] at hu
      exact hu
    · obtain ⟨i, hi, rfl⟩ := List.mem_iff_getElem.1 hr
      exact (hR i hi).1
    · simp only [Rows.uptoBulk]; omega

end Go.Proofs.YtefigpmkiemfhaaDoor

namespace Go.Proofs.YtefigpmkiemfhaaDoor
open Go.RowKit Go.Deep Go.ChangeShapes
set_option linter.unusedVariables false
set_option linter.unusedSimpArgs false

theorem cof_int : Tryd.prog.cellsOf 3 = 1 := by kernel_rfl
theorem cof_i64 : Tryd.prog.cellsOf 2 = 1 := by kernel_rfl
theorem cof_bool : Tryd.prog.cellsOf 4 = 1 := by kernel_rfl
theorem cof_str : Tryd.prog.cellsOf 9 = 1 := by kernel_rfl
theorem cof_strs : Tryd.prog.cellsOf 26 = 1 := by kernel_rfl
theorem cof_val : Tryd.prog.cellsOf 47 = 3 := by kernel_rfl
theorem cof_wr : Tryd.prog.cellsOf 67 = 5 := by kernel_rfl
theorem cof_wrs : Tryd.prog.cellsOf 34 = 1 := by kernel_rfl
/-- an int64's range -/
def rng64 (n : Int) : Prop := -9223372036854775808 ≤ n ∧ n ≤ 9223372036854775807
theorem rng_wf {n : Int} (h : (Lit.int IntKind.i64 n).wf = true) : rng64 n := by
  unfold Lit.wf at h
  simp at h
  obtain ⟨h1, h2⟩ := h
  simp only [IntKind.min, IntKind.max] at h1 h2
  exact ⟨h1, h2⟩
def muK (k : ByteArray) : Nat := k.size + 1
def muW (x : Wr) : Nat := x.key.size + x.v.s.size + 2
def muA (a : SA) : Nat := (a.ks.map muK).sum + (a.ws.map muW).sum + 3
section
variable {α : Type}
theorem sum_mem {f : α → Nat} : ∀ {l : List α} {a : α}, a ∈ l → f a ≤ (l.map f).sum
  | b :: l, a, h => by
    rw [List.map_cons, List.sum_cons]
    rcases List.mem_cons.1 h with rfl | h
    · omega
    · have := sum_mem (f := f) h; omega
theorem sum_mono {f h : α → Nat} (hf : ∀ a, f a ≤ h a) : ∀ l : List α, (l.map f).sum ≤ (l.map h).sum
  | [] => Nat.le_refl _
  | b :: l => by
    rw [List.map_cons, List.sum_cons, List.map_cons, List.sum_cons]
    have := sum_mono hf l; have := hf b; omega
theorem sum_len {f : α → Nat} (hf : ∀ a, 1 ≤ f a) : ∀ l : List α, l.length ≤ (l.map f).sum
  | [] => Nat.le_refl _
  | b :: l => by
    rw [List.map_cons, List.sum_cons, List.length_cons]
    have := sum_len hf l; have := hf b; omega
end
theorem muK_one (k : ByteArray) : 1 ≤ muK k := by unfold muK; omega
theorem muW_one (x : Wr) : 1 ≤ muW x := by unfold muW; omega
theorem muA_part (a : SA) : partA a + 3 ≤ muA a := by
  have h1 := sum_len muK_one a.ks
  have h2 := sum_len muW_one a.ws
  unfold partA muA
  omega
theorem muA_ok {a : SA} (h : muA a ≤ 1048576) : okKs a.ks ∧ okWs a.ws := by
  unfold muA at h
  refine ⟨fun k hk => ?_, fun x hx => ?_⟩
  · have := sum_mem (f := muK) hk
    unfold muK at this h
    omega
  · have := sum_mem (f := muW) hx
    have : muW x ≤ 1048576 := by omega
    unfold muW at this
    constructor <;> omega
theorem story_fits {us : List SA} (h : (us.map muA).sum ≤ 1048576) : us.length ≤ 1048576 ∧ partsA us ≤ 1048576 ∧ ∀ a ∈ us, okKs a.ks ∧ okWs a.ws := by
  have h1 := sum_len (f := muA) (fun a => by have := muA_part a; omega) us
  have h2 := sum_mono (f := partA) (h := muA) (fun a => by have := muA_part a; omega) us
  refine ⟨by omega, by unfold partsA; omega, fun a ha => muA_ok ?_⟩
  have := sum_mem (f := muA) ha
  omega
section
variable {H : Type} {enc : TypeId × Value → H} {w : World} {base : Nat} {spare : Nat → Bool} {held : Bool} {fuel : Nat} {cs : List Value} {x : DataW H × List MemPlace}

theorem fieldAt {fs : Array Field} {xs : List (DataW H × List MemPlace)} {n : Nat} (hf : ∀ (i : Nat) (f : Field), fs[i]? = some f → DataW.trod enc Tryd.prog w base spare held n f.type ((cs.drop f.offset).take (Tryd.prog.cellsOf f.type)) = xs[i]?) (i : Nat) {f : Field} (T : TypeId) (o k : Nat) {y : DataW H × List MemPlace}
    (hi : fs[i]? = some f) (hT : f.type = T) (ho : f.offset = o) (hc : Tryd.prog.cellsOf T = k) (hx : xs[i]? = some y) : DataW.trod enc Tryd.prog w base spare held n T ((cs.drop o).take k) = some y := by
  have := hf i f hi
  rw [hT, ho, hc, hx] at this
  exact this
set_option maxRecDepth 100000 in
theorem open_vl (h : DataW.trod enc Tryd.prog w base spare held fuel 47 cs = some x) : ∃ v : Vl, cs = [.int .i64 v.k, .int .i64 v.n, .string v.s] ∧ v.s.size + 1 ≤ Rows.uptoBulk x.1 ∧ rng64 v.n := by
  obtain ⟨xs, n, _, rfl, hl, hlen, hf⟩ := DataW.trod_struct Tryd.underlying47 h
  rw [cof_val] at hl
  match cs, hl, xs, hlen with
  | [c0, c1, c2], _, [y0, y1, y2], _ =>
    have h0 := fieldAt hf 0 3 0 1 (y := y0) rfl rfl rfl cof_int rfl
    have h1 := fieldAt hf 1 2 1 1 (y := y1) rfl rfl rfl cof_i64 rfl
    have h2 := fieldAt hf 2 9 2 1 (y := y2) rfl rfl rfl cof_str rfl
    obtain ⟨k, e0, r0, _⟩ := DataW.trod_int Tryd.underlying3 (x := y0) h0
    obtain ⟨i, e1, r1, w1⟩ := DataW.trod_int Tryd.underlying2 (x := y1) h1
    obtain ⟨s, e2, r2, _⟩ := DataW.trod_string Tryd.underlying9 (x := y2) h2
    simp at e0 e1 e2
    subst e0 e1 e2
    refine ⟨⟨k, i, s⟩, rfl, ?_, rng_wf w1⟩
    rw [r2]
    simp only [Rows.uptoBulk, Rows.uptoBulkAll, List.map_cons, List.map_nil]
    have : s.data.toList.length = s.size := Array.length_toList
    omega
set_option maxRecDepth 100000 in
theorem open_texts (h : DataW.trod enc Tryd.prog w base spare held fuel 26 cs = some x) :
    ∃ (A : Option Addr) (l : List ByteArray) (c : Nat), cs = [.slice A l.length c] ∧ Rd (fun b => b < w.heap.size) w 1 A l.length (strs l) ∧ (l.map muK).sum + 1 ≤ Rows.uptoBulk x.1 := by
  obtain ⟨A, l, c, e, hr, ho, hb⟩ := open_rows (α := ByteArray) (fun s => [Value.string s]) muK (fun _ => True) 1 (by omega) (fun _ => rfl) Tryd.underlying26 cof_str (fun n cs' y hy => by
    obtain ⟨s, e, r, _⟩ := DataW.trod_string Tryd.underlying9 hy
    refine ⟨s, e, trivial, ?_⟩
    rw [r]
    simp only [Rows.uptoBulk, muK]
    have : s.data.toList.length = s.size := Array.length_toList
    omega) h
  refine ⟨A, l, c, e, ?_, by omega⟩
  have : l.flatMap (fun s => [Value.string s]) = strs l := by
    clear hr hb e ho
    induction l with
    | nil => rfl
    | cons a l ih => rw [List.flatMap_cons, ih]; rfl
  rw [← this]; exact hr
set_option maxRecDepth 100000 in
theorem open_write (h : DataW.trod enc Tryd.prog w base spare held fuel 67 cs = some x) : ∃ y : Wr, cs = [.string y.key, .bool y.gone, .int .i64 y.v.k, .int .i64 y.v.n, .string y.v.s] ∧ muW y ≤ Rows.uptoBulk x.1 ∧ rng64 y.v.n := by
  obtain ⟨xs, n, _, rfl, hl, hlen, hf⟩ := DataW.trod_struct Tryd.underlying67 h
  rw [cof_wr] at hl
  match cs, hl, xs, hlen with
  | [c0, c1, c2, c3, c4], _, [y0, y1, y2], _ =>
    have h0 := fieldAt hf 0 9 0 1 (y := y0) rfl rfl rfl cof_str rfl
    have h1 := fieldAt hf 1 4 1 1 (y := y1) rfl rfl rfl cof_bool rfl
    have h2 := fieldAt hf 2 47 2 3 (y := y2) rfl rfl rfl cof_val rfl
    obtain ⟨k, e0, r0, _⟩ := DataW.trod_string Tryd.underlying9 (x := y0) h0
    obtain ⟨gn, e1, r1, _⟩ := DataW.trod_bool Tryd.underlying4 (x := y1) h1
    obtain ⟨v, e2, r2, hv⟩ := open_vl (x := y2) h2
    simp at e0 e1 e2
    obtain ⟨f1, f2, f3⟩ := e2
    subst e0 e1 f1 f2 f3
    refine ⟨⟨k, gn, v⟩, rfl, ?_, hv⟩
    simp only [Rows.uptoBulk, Rows.uptoBulkAll, List.map_cons, List.map_nil, muW]
    rw [r0]
    simp only [Rows.uptoBulk]
    have : k.data.toList.length = k.size := Array.length_toList
    omega
set_option maxRecDepth 100000 in
theorem open_writes (h : DataW.trod enc Tryd.prog w base spare held fuel 34 cs = some x) :
    ∃ (A : Option Addr) (l : List Wr) (c : Nat), cs = [.slice A l.length c] ∧ Rd (fun b => b < w.heap.size) w 5 A l.length (wrCells l) ∧ (l.map muW).sum + 1 ≤ Rows.uptoBulk x.1 ∧ ∀ x ∈ l, rng64 x.v.n := by
  obtain ⟨A, l, c, e, hr, ho, hb⟩ := open_rows (α := Wr) (fun x => [.string x.key, .bool x.gone, .int .i64 x.v.k, .int .i64 x.v.n, .string x.v.s]) muW (fun x => rng64 x.v.n) 5 (by omega) (fun _ => rfl) Tryd.underlying34 cof_wr (fun n cs' y hy => by
    obtain ⟨s, e, r, hv⟩ := open_write hy
    exact ⟨s, e, hv, r⟩) h
  exact ⟨A, l, c, e, hr, hb, ho⟩
end
end Go.Proofs.YtefigpmkiemfhaaDoor

namespace Go.Proofs.YtefigpmkiemfhaaDoor
open Go.RowKit Go.Deep Go.ChangeShapes
set_option linter.unusedVariables false
set_option linter.unusedSimpArgs false

theorem cof_u8z : Tryd.prog.cellsOf 5 = 1 := by kernel_rfl
theorem cof_bytz : Tryd.prog.cellsOf 22 = 1 := by kernel_rfl
theorem cof_actz : Tryd.prog.cellsOf 36 = 5 := by kernel_rfl
theorem cof_actsz : Tryd.prog.cellsOf 23 = 1 := by kernel_rfl
theorem cof_storyz : Tryd.prog.cellsOf 25 = 4 := by kernel_rfl
def muZ (a : ZA) : Nat := (a.ks.map muK).sum + (a.ws.map muW).sum + 5
theorem muZ_part (a : ZA) : partZ a + 5 ≤ muZ a := by
  have h1 := sum_len muK_one a.ks
  have h2 := sum_len muW_one a.ws
  unfold partZ muZ
  omega
theorem muZ_ok {a : ZA} (h : muZ a ≤ 1048576) : okKs a.ks ∧ okWs a.ws := by
  unfold muZ at h
  refine ⟨fun k hk => ?_, fun x hx => ?_⟩
  · have := sum_mem (f := muK) hk
    unfold muK at this h
    omega
  · have := sum_mem (f := muW) hx
    have : muW x ≤ 1048576 := by omega
    unfold muW at this
    constructor <;> omega
theorem storyZ_fits {us : List ZA} (h : (us.map muZ).sum ≤ 1048576) : us.length ≤ 1048576 ∧ partsZ us ≤ 1048576 ∧ ∀ a ∈ us, okKs a.ks ∧ okWs a.ws := by
  have h1 := sum_len (f := muZ) (fun a => by have := muZ_part a; omega) us
  have h2 := sum_mono (f := partZ) (h := muZ) (fun a => by have := muZ_part a; omega) us
  refine ⟨by omega, by unfold partsZ; omega, fun a ha => muZ_ok ?_⟩
  have := sum_mem (f := muZ) ha
  omega
section
variable {H : Type} {enc : TypeId × Value → H} {w : World} {base : Nat} {spare : Nat → Bool} {held : Bool} {fuel : Nat} {cs : List Value} {x : DataW H × List MemPlace}
set_option maxRecDepth 100000 in
theorem open_raw (h : DataW.trod enc Tryd.prog w base spare held fuel 22 cs = some x) : ∃ (A : Option Addr) (n c : Nat), cs = [.slice A n c] ∧ n + 1 ≤ Rows.uptoBulk x.1 := by
  obtain ⟨A, l, c, e, hr, ho, hb⟩ := open_rows (α := Int) (fun s => [Value.int .u8 s]) (fun _ => 1) (fun _ => True) 1 (by omega) (fun _ => rfl) Tryd.underlying22 cof_u8z (fun n cs' y hy => by
    obtain ⟨s, e, r, _⟩ := DataW.trod_int Tryd.underlying5 hy
    refine ⟨s, e, trivial, ?_⟩
    rw [r]
    simp only [Rows.uptoBulk]
    omega) h
  exact ⟨A, l.length, c, e, by have := sum_len (f := fun _ : Int => 1) (fun _ => Nat.le_refl _) l; omega⟩
set_option maxRecDepth 100000 in
theorem open_actZ (h : DataW.trod enc Tryd.prog w base spare held fuel 36 cs = some x) : ∃ a : ZA, cs = zcells a ∧ (a.ok (fun b => b < w.heap.size) w ∧ ∀ x ∈ a.ws, rng64 x.v.n) ∧ muZ a ≤ Rows.uptoBulk x.1 := by
  obtain ⟨xs, n, _, rfl, hl, hlen, hf⟩ := DataW.trod_struct Tryd.underlying36 h
  rw [cof_actz] at hl
  match cs, hl, xs, hlen with
  | [c0, c1, c2, c3, c4], _, [y0, y1, y2, y3, y4], _ =>
    have h0 := fieldAt hf 0 3 0 1 (y := y0) rfl rfl rfl cof_int rfl
    have h1 := fieldAt hf 1 26 1 1 (y := y1) rfl rfl rfl cof_strs rfl
    have h2 := fieldAt hf 2 34 2 1 (y := y2) rfl rfl rfl cof_wrs rfl
    have h3 := fieldAt hf 3 2 3 1 (y := y3) rfl rfl rfl cof_i64 rfl
    have h4 := fieldAt hf 4 3 4 1 (y := y4) rfl rfl rfl cof_int rfl
    obtain ⟨kind, e0, r0, _⟩ := DataW.trod_int Tryd.underlying3 (x := y0) h0
    obtain ⟨A1, ks, d1, e1, q1, b1⟩ := open_texts (x := y1) h1
    obtain ⟨A2, ws, d2, e2, q2, b2, v2⟩ := open_writes (x := y2) h2
    obtain ⟨mark, e3, r3, _⟩ := DataW.trod_int Tryd.underlying2 (x := y3) h3
    obtain ⟨n, e4, r4, _⟩ := DataW.trod_int Tryd.underlying3 (x := y4) h4
    simp at e0 e1 e2 e3 e4
    subst e0 e1 e2 e3 e4
    refine ⟨⟨kind, ks, ws, A1, d1, A2, d2, mark, n⟩, rfl, ⟨⟨q1, q2⟩, v2⟩, ?_⟩
    simp only [Rows.uptoBulk, Rows.uptoBulkAll, List.map_cons, List.map_nil, muZ]
    rw [r0, r3, r4]
    simp only [Rows.uptoBulk]
    omega
set_option maxRecDepth 100000 in
theorem open_actsZ (h : DataW.trod enc Tryd.prog w base spare held fuel 23 cs = some x) :
    ∃ (A : Option Addr) (us : List ZA) (c : Nat), cs = [.slice A us.length c] ∧ ZActs (fun b => b < w.heap.size) w A us ∧ (us.map muZ).sum + 1 ≤ Rows.uptoBulk x.1 ∧ ∀ a ∈ us, ∀ x ∈ a.ws, rng64 x.v.n := by
  obtain ⟨A, l, c, e, hr, ho, hb⟩ := open_rows zcells muZ (fun a => a.ok (fun b => b < w.heap.size) w ∧ ∀ x ∈ a.ws, rng64 x.v.n) 5 (by omega) (fun _ => rfl) Tryd.underlying23 cof_actz (fun n cs' y hy => open_actZ hy) h
  exact ⟨A, l, c, e, ⟨hr, fun a ha => (ho a ha).1⟩, hb, fun a ha => (ho a ha).2⟩
set_option maxRecDepth 100000 in
theorem open_storyZ (h : DataW.trod enc Tryd.prog w base spare held fuel 25 cs = some x) :
    ∃ (B : Option Addr) (nb cb : Nat) (p r : Int) (A : Option Addr) (us : List ZA) (c : Nat), cs = [.slice B nb cb, .int .i64 p, .int .i64 r, .slice A us.length c] ∧ ZActs (fun b => b < w.heap.size) w A us ∧ (us.map muZ).sum + nb ≤ Rows.uptoBulk x.1 ∧ ∀ a ∈ us, ∀ x ∈ a.ws, rng64 x.v.n := by
  obtain ⟨xs, k, _, rfl, hl, hlen, hf⟩ := DataW.trod_struct Tryd.underlying25 h
  rw [cof_storyz] at hl
  match cs, hl, xs, hlen with
  | [c0, c1, c2, c3], _, [y0, y1, y2, y3], _ =>
    have h0 := fieldAt hf 0 22 0 1 (y := y0) rfl rfl rfl cof_bytz rfl
    have h1 := fieldAt hf 1 3 1 1 (y := y1) rfl rfl rfl cof_int rfl
    have h2 := fieldAt hf 2 3 2 1 (y := y2) rfl rfl rfl cof_int rfl
    have h3 := fieldAt hf 3 23 3 1 (y := y3) rfl rfl rfl cof_actsz rfl
    obtain ⟨B, nb, cb, e0, b0⟩ := open_raw (x := y0) h0
    obtain ⟨p, e1, r1, _⟩ := DataW.trod_int Tryd.underlying3 (x := y1) h1
    obtain ⟨r, e2, r2, _⟩ := DataW.trod_int Tryd.underlying3 (x := y2) h2
    obtain ⟨A, us, c, e3, ho, hb, hv⟩ := open_actsZ (x := y3) h3
    simp at e0 e1 e2 e3
    subst e0 e1 e2 e3
    exact ⟨B, nb, cb, p, r, A, us, c, rfl, ho, by simp only [Rows.uptoBulk, Rows.uptoBulkAll, List.map_cons, List.map_nil]; omega, hv⟩
end
end Go.Proofs.YtefigpmkiemfhaaDoor

