/- store: Dump, View, a view's Get. -/
import Derived.Test.YtnbbdjbjbjlcpaaDoorSDump
import Derived.Test.YtnbbdjbjbjlcpaaDoorSNew
namespace Go.Proofs.YtnbbdjbjbjlcpaaDoor
open Go.RowKit
set_option linter.unusedVariables false
set_option linter.unusedSimpArgs false

/-- a view at block g: its values' map has what L had -/
structure VIn (S : Nat → Prop) (w : World) (g : Nat) (L : List Kv) (vb : Nat) : Prop where
  blk : Blk w g 83 #[.map (some vb)]
  vals : MapF strE w vb (Dv L)
  inS : S g ∧ S vb
  lt : ∀ j, S j → j < w.heap.size
def VAt (S : Nat → Prop) (w : World) (g : Nat) (L : List Kv) : Prop := ∃ vb, VIn S w g L vb
section
variable {S : Nat → Prop} {w w' : World} {g vb : Nat} {L : List Kv}
theorem VIn.keep (h : VIn S w g L vb) (hk : ∀ b, S b → w'.heap[b]? = w.heap[b]?) (hs : w.heap.size ≤ w'.heap.size) : VIn S w' g L vb :=
  ⟨(hk _ h.inS.1).trans h.blk, h.vals.keep (hk _ h.inS.2), h.inS, fun j hj => Nat.lt_of_lt_of_le (h.lt j hj) hs⟩
theorem VAt.below (h : VAt S w g L) (hb : Below w.heap.size w w') : VAt S w' g L := by obtain ⟨_, h⟩ := h; exact ⟨_, h.keep (fun b hb' => hb.block b (h.lt b hb')) hb.size⟩
theorem VAt.upd {M : Nat → Prop} (h : VAt S w g L) (hu : Upd M w w') (hM : ∀ b, S b → ¬ M b) : VAt S w' g L := by obtain ⟨_, h⟩ := h; exact ⟨_, h.keep (fun b hb => hu.block b (h.lt b hb) (hM b hb)) hu.size⟩
theorem VAt.lt (h : VAt S w g L) : ∀ j, S j → j < w.heap.size := by obtain ⟨_, h⟩ := h; exact h.lt
end
theorem valK_zero {s : St} (h : s.Ok) {k : ByteArray} (h0 : (valK k s.L).k = 0) : valK k s.L = vl0 := by
  cases hh : hasK k s.L with
  | false => exact valK_none hh
  | true =>
    obtain ⟨x, hx, hk⟩ := hasK_mem.1 hh
    have h1 := valK_mem h.asc hx
    rw [hk] at h1
    have h2 := h.val x hx
    rw [← h1] at h2
    unfold Vl.ok at h2
    rw [if_pos h0] at h2
    simp at h2
    have e : valK k s.L = ⟨(valK k s.L).k, (valK k s.L).n, (valK k s.L).s⟩ := rfl
    rw [e, h0, h2.1, h2.2]; rfl
theorem dv_get {s : St} (h : s.Ok) (k : ByteArray) : (Dv s.L k).getD (.agg #[.int .i64 0, .int .i64 0, .string ⟨#[]⟩]) = .agg #[.int .i64 (valK k s.L).k, .int .i64 (valK k s.L).n, .string (valK k s.L).s] := by
  unfold Dv
  by_cases h0 : (valK k s.L).k = 0
  · rw [if_pos h0, valK_zero h h0]; rfl
  · rw [if_neg h0]; rfl
theorem zero_val (w : World) : (zeroValue 50).run Tryd.prog w = .ok (.agg #[.int .i64 0, .int .i64 0, .string ⟨#[]⟩]) w := by kernel_rfl
section
variable {S : Nat → Prop} {w w' : World} {g : Nat} {s : St}
set_option maxRecDepth 100000 in
theorem vget_any (k : ByteArray) (h : VAt S w g s.L) (hok : s.Ok) : Calls Tryd.prog 23 #[.pointer (some ⟨g, 0, none⟩), .string k] w fun e w' => e = .returned (.agg #[.int .i64 (valK k s.L).k, .int .i64 (valK k s.L).n, .string (valK k s.L).s]) ∧ Below w.heap.size w w' := by
  have hB : Below w.heap.size w (w.alloc (.cells #[.int .i64 0, .int .i64 0, .string ⟨#[]⟩] 50)) := (Below.refl _ _).alloc (Nat.le_refl _) _
  obtain ⟨vb, h2⟩ := h.below hB
  have hl0 := h2.vals.lookup Tryd.underlying56 zero_val k
  rw [dv_get hok] at hl0
  have hl : (Instr.lookup 56 (.map (some vb)) (.string k) false).run Tryd.prog _ = .ok _ _ := hl0
  have c2 : (w.alloc (.cells #[.int .i64 0, .int .i64 0, .string ⟨#[]⟩] 50)).cell? ⟨g, 0, none⟩ = some (.map (some vb)) := h2.blk.cell 0
  generalize (valK k s.L).k = a at *
  generalize (valK k s.L).n = b at *
  generalize (valK k s.L).s = c at *
  clear h h2 hB hl0 hok
  go_enter Tryd.func23, Tryd.ntmps23
  go_wp2_with fail
  refine bodyPost_ret (v := .agg #[.int .i64 a, .int .i64 b, .string c]) ?_ rfl ?_
  · exact results_cell_row (P := Tryd.prog) rfl _ _ w.heap.size 50 _ (0, 0) _ rfl (Blk.new w _ _) Tryd.underlying50 rfl (by kernel_rfl)
  · exact ⟨rfl, (Below.refl _ _).alloc (Nat.le_refl _) _⟩
set_option maxRecDepth 100000 in
theorem dumpM_any (h : PAt S w g s) : Calls Tryd.prog 21 #[.pointer (some ⟨g, 0, none⟩)] w fun e w' => ∃ A c, e = .returned (.slice A (dumpL s.L).length c) ∧ w'.ownsRow (w.heap.size + 1) 64 4 (.slice A (dumpL s.L).length c) (dumpL s.L).length (kvCells (dumpL s.L)) ∧ Below w.heap.size w w' := by
  obtain ⟨cb, cc, mb, vb, h⟩ := h
  have c2 := h.cells.2.2
  have hd := hid (dump_any h.vals h.ok)
  clear h
  go_enter Tryd.func21, Tryd.ntmps21
  go_wp2_with fail
  refine hd.out.mono ?_
  rintro e w2 ⟨A, c, rfl, h1, h2⟩
  have h1 := hid h1
  have h2 := hid h2
  go_wp2_with fail
  go_ret
  exact ⟨A, c, rfl, h1.out, h2.out⟩
set_option maxRecDepth 100000 in
set_option maxHeartbeats 4000000 in
theorem view_any (h : PAt S w g s) : Calls Tryd.prog 20 #[.pointer (some ⟨g, 0, none⟩)] w fun e w' => ∃ S' v, e = .returned (.pointer (some ⟨v, 0, none⟩)) ∧ VAt S' w' v s.L ∧ (∀ j, S' j → w.heap.size ≤ j) ∧ Below w.heap.size w w' := by
  obtain ⟨cb, cc, mb, vb, h⟩ := h
  have hok := hid h.ok
  have hb0 : Below w.heap.size w ((w.alloc (.map #[] 0)).alloc (.cells #[.map (some w.heap.size)] 83)) := below_two _ _
  have h2 := h.below hb0
  have c2 := h2.cells.2.2
  obtain ⟨l, hml, hd⟩ := h2.vals
  obtain ⟨es, clock, hes, hpr, hst⟩ := id hml
  have hmm := @run_makeMap Tryd.prog
  have hrg := run_range_map (P := Tryd.prog) ((w.alloc (.map #[] 0)).alloc (.cells #[.map (some w.heap.size)] 83)) 56 9 50 vb es clock Tryd.underlying56 hes
  have kv0 := hid (Blk.new' (w.alloc (.map #[] 0)) 83 #[.map (some w.heap.size)] (g := w.heap.size + 1) (by simp))
  have hm0 := hid ((MapF.new (E := strE) w).keep (Below.heap_alloc (w.alloc (.map #[] 0)) (.cells #[.map (some w.heap.size)] 83) _ (by simp)))
  have hsz := hid (show ((w.alloc (.map #[] 0)).alloc (.cells #[.map (some w.heap.size)] 83)).heap.size = w.heap.size + 2 by simp)
  have hM := hid hml
  have hD := hid hd
  have hP := hid hpr
  have hS := hid hst
  have hE := hid hes
  have hV := hid h.vals.lt
  have hB1 := hid hb0
  clear h h2 hml hd hpr hst hes hb0
  go_enter Tryd.func20, Tryd.ntmps20
  go_upto_region 4 with fail
  generalize (w.alloc (.map #[] 0)).alloc (.cells #[.map (some w.heap.size)] 83) = W1 at *
  go_wp2_with fail
  have hvlt : Hid (vb < W1.heap.size) := hid (by have := hV.out; have := hsz.out; omega)
  rw [hsz.out]
  go_loopw [] (fun wr => ∃ (seen : Array Nat) (c0 : Nat) (out : List (ByteArray × Value)), wr.heap[w.heap.size + 2]? = some (.mapIter (some vb) clock seen c0) ∧ clock ≤ c0 ∧ MapF strE wr w.heap.size (fun y => getK y out) ∧ Blk wr (w.heap.size + 1) 83 #[.map (some w.heap.size)] ∧ Below w.heap.size w wr ∧ (doneOf es seen).Perm (encs strE out) ∧ (∀ x ∈ out, ∃ v : Vl, x.2 = vlV v)) (fun wr => (leftOf es (wr.iterSeen (w.heap.size + 2))).size)
  case atStart =>
    refine ⟨#[], clock, [], ?_, Nat.le_refl _, ?_, kv0.out.alloc _, hB1.out.alloc hB1.out.size _, by rw [done_none]; exact List.Perm.nil, fun x hx => by cases hx⟩
    · rw [← hsz.out]; exact heap_alloc_new _ _
    · exact (hm0.out.keep (Below.heap_alloc _ _ _ (by have := hsz.out; omega))).congr fun y => rfl
  case round =>
    clear hrg
    obtain ⟨seen, c0, out, hr, hc0, hmo, hkv, hB0, hdone, hvs⟩ := hrel
    have hesr := (hB0.block _ hV.out).trans ((hB1.out.block _ hV.out).symm.trans hE.out)
    have hseen0 := hid (seen_of hr)
    rcases range_step (P := Tryd.prog) hr hesr hS.out hc0 with ⟨h0, hnx⟩ | ⟨e, wn, he, hns, hsh, hun, hszn, hrn, hesn, hnx, hent⟩
    · have hpl : l.Perm out := encs_inj (E := strE) W1 (by rw [← hP.out, ← done_all h0]; exact hdone)
      have hfin : Hid (VAt (fun j => w.heap.size ≤ j ∧ j < wr.heap.size) wr (w.heap.size + 1) s.L) := hid ⟨_, hkv, hmo.congr fun y => by
        rw [← hD.out]
        have hno : (out.map (·.1)).Nodup := (hpl.map _).nodup_iff.1 hM.out.nodup
        cases hg : getK y l with
        | none =>
          rw [getK_none] at hg ⊢
          exact fun p hp => hg p (hpl.symm.subset hp)
        | some u => exact (getK_mem hno).2 (hpl.subset ((getK_mem hM.out.nodup).1 hg)), ⟨⟨by omega, hkv.lt⟩, ⟨Nat.le_refl _, hmo.lt⟩⟩, fun j hj => hj.2⟩
      have hB := hid hB0
      clear hpl h0 hr hesr hmo hkv hB0 hdone hvs
      go_wp2_with fail
      go_ret
      exact ⟨_, _, rfl, hfin.out, fun j hj => hj.1, hB.out⟩
    · obtain ⟨p, hp, hek, hev⟩ := done_list (E := strE) (w := W1) (b := vb) (clock := clock) hP.out he
      have hget := (getK_mem hM.out.nodup).2 (show (p.1, p.2) ∈ l from hp)
      rw [hD.out] at hget
      obtain ⟨hdm, hev2⟩ := dv_some hok.out.asc hget
      obtain ⟨y, hy⟩ : ∃ y, y = p.1 := ⟨_, rfl⟩
      obtain ⟨v, hv⟩ : ∃ v, v = valK p.1 s.L := ⟨_, rfl⟩
      rw [← hv] at hev2
      have hek : e.key = .string y := by rw [hek, hy]; rfl
      have hev : e.val = .agg #[.int .i64 v.k, .int .i64 v.n, .string v.s] := by rw [hev, hev2]; rfl
      have hpush := hid ((done_push hS.out.2.1 he hns).trans (hdone.cons _))
      rw [hek, hev] at hnx hent hpush
      have hwl : w.heap.size + 2 < wn.heap.size := (Array.getElem?_eq_some_iff.1 hrn).1
      have hmon := hmo.upd hun (fun e => by omega)
      have hkvn := hkv.upd hun (fun e => by omega)
      have hBn : Below w.heap.size w wn := hB0.trans (hun.below (B := w.heap.size) hB0.size fun k hk e => by omega)
      have hvs' := hid hvs
      have hsh' := hid hsh
      clear hp hget hdm hev2 hek hev hy hv hmo hkv hB0 hdone hr hesr hun hesn he hns hsh hszn hvs
      go_upto_region 7 with fail
      have kz := Blk.new wn 50 #[.int .i64 v.k, .int .i64 v.n, .string v.s]
      have hkv5 := hid (hkvn.alloc (.cells #[.int .i64 v.k, .int .i64 v.n, .string v.s] 50))
      have hmo5 := hmon.keep (Below.heap_alloc wn (.cells #[.int .i64 v.k, .int .i64 v.n, .string v.s] 50) _ (by omega))
      have hr5 := (Below.heap_alloc wn (.cells #[.int .i64 v.k, .int .i64 v.n, .string v.s] 50) _ hwl).trans hrn
      have hB5 := hid (hBn.alloc hBn.size (.cells #[.int .i64 v.k, .int .i64 v.n, .string v.s] 50))
      generalize wn.alloc (.cells #[.int .i64 v.k, .int .i64 v.n, .string v.s] 50) = w5 at *
      have x0 := kz.cell 0
      have x1 := kz.cell 1
      have x2 := kz.cell 2
      simp only [List.getElem?_toArray, List.getElem?_cons_zero, List.getElem?_cons_succ] at x0 x1 x2
      have v0 : w5.cell? ⟨w.heap.size + 1, 0, none⟩ = some (.map (some w.heap.size)) := hkv5.out.cell 0
      generalize wn.heap.size = m at *
      have hmod : MapF strE w5.drew w.heap.size _ := hmo5
      obtain ⟨w6, hmu0, hm60, hg60, _⟩ := hmod.update Tryd.underlying56 y (.agg #[.int .i64 v.k, .int .i64 v.n, .string v.s])
      have hmu : (Instr.mapUpdate 56 (.map (some w.heap.size)) (.string y) (.agg #[.int .i64 v.k, .int .i64 v.n, .string v.s])).run Tryd.prog w5.drew = .ok () w6 := hmu0
      have hu6 : Upd (fun j => j = w.heap.size) w5 w6 := (Upd.refl (fun j => j = w.heap.size) w5).drew.trans (upd_grown hg60 fun j hj => by injection hj with hj; exact hj.symm) fun _ _ h => h
      have hm6 := hid hm60
      have hU6 := hid hu6
      have hr6 := hid ((hu6.block _ (Array.getElem?_eq_some_iff.1 hr5).1 (by omega)).trans hr5)
      clear kz hmon hkvn hBn hmo5 hmod hmu0 hm60 hg60 hu6 hwl hrn hr5
      go_still_tail 6, (by kernel_rfl)
      change wpList _ _ _ _ _ w5.drew
      go_wp2_with fail
      go_roundw
      case rel =>
        refine ⟨seen.push e.born, clock, (y, vlV v) :: out, hr6.out, Nat.le_refl _, hm6.out.congr fun z => by rw [getK_cons]; rfl, hkv5.out.upd hU6.out (by omega), hB5.out.trans (hU6.out.below (B := w.heap.size) hB5.out.size fun k hk e => by omega), hpush.out, fun x hx => ?_⟩
        rcases List.mem_cons.1 hx with rfl | hx
        · exact ⟨v, rfl⟩
        · exact hvs'.out x hx
      case measure =>
        rw [seen_of hr6.out, hseen0.out]
        exact hsh'.out
end
end Go.Proofs.YtnbbdjbjbjlcpaaDoor
