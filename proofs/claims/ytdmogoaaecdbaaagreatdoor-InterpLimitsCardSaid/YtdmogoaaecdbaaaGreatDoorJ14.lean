/- Texts of the proof, joined: VNumber, VNumA, KTkA, IOne. -/
import Derived.Test.YtdmogoaaecdbaaaGreatDoorJ13
import Derived.Test.YtdmogoaaecdbaaaGreatDoorJ08
import Derived.Test.YtdmogoaaecdbaaaGreatDoorJ11
namespace Go.Proofs.YtdmogoaaecdbaaaGreatDoor
open Go.RowKit
set_option linter.unusedVariables false
set_option linter.unusedSimpArgs false

theorem scan_form2 : ∀ (n : Nat) (r : List UInt8) (i : Nat) (out : List UInt8), r.length ≤ n → (scanL r i out).e = 0 ∨ (scanL r i out).v = vl0 := by
  intro n
  induction n with
  | zero => intro r i out hr; obtain rfl := List.eq_nil_of_length_eq_zero (by omega : r.length = 0); right; rfl
  | succ n ih =>
    intro r i out hr
    cases r with
    | nil => right; rfl
    | cons c r =>
      by_cases h4 : c = 92
      · subst h4
        cases r with
        | nil => rw [scan_b1]; split <;> exact .inr rfl
        | cons d r' =>
          rw [scan_b2]
          split
          · exact .inr rfl
          · split
            · exact ih _ _ _ (by simp at hr; omega)
            · exact .inr rfl
      · rw [scan_c h4]
        split
        · split
          · exact .inl rfl
          · exact .inr rfl
        · split
          · exact .inr rfl
          · split
            · exact .inr rfl
            · exact ih _ _ _ (by simpa using hr)
theorem want_form : ∀ (q r : List UInt8) (i : Nat), (wantL r q i).v = vl0
  | [], [], _ => rfl
  | [], _ :: _, _ => rfl
  | _ :: _, [], _ => rfl
  | d :: q, c :: r, i => by
    unfold wantL
    split
    · exact want_form q r _
    · rfl
theorem numE_form (neg : Bool) (ds : List UInt8) (len : Nat) : (numE neg ds len).e = 0 ∨ (numE neg ds len).v = vl0 := by
  unfold numE
  simp only
  repeat' split
  all_goals first | exact .inr rfl | exact .inl rfl
theorem parse_form (s : List UInt8) : (parseL s).e = 0 ∨ (parseL s).v = vl0 := by
  cases s with
  | nil => exact .inr rfl
  | cons c r =>
    simp only [parseL]
    split
    · exact scan_form2 _ _ _ _ (Nat.le_refl _)
    · split
      · exact numE_form _ _ _
      · exact .inr (want_form _ _ _)
/-- what Number gives -/
theorem numR_zero (s : List UInt8) (h : ¬ ((parseL s).e = 0 ∧ (parseL s).v.k = 1)) : numR (parseL s) = (0, false) := by
  unfold numR
  rw [decide_eq_false h]
  rcases parse_form s with he | hv
  · obtain ⟨v, e1, e2, e3, _⟩ := parse_good he
    rw [e1] at h ⊢
    rcases ok_forms e2 with rfl | ⟨h1, _⟩ | ⟨_, h2, _⟩
    · rfl
    · exact absurd ⟨rfl, h1⟩ h
    · show (v.n, false) = _; rw [h2]
  · rw [hv]; rfl

set_option maxRecDepth 100000 in
set_option maxHeartbeats 1000000 in
theorem number_any (s : ByteArray) (hs : s.size ≤ 140737488351232) (w : World) (he : Env w) : Calls Tryz.prog 149 #[.string s] w fun e w' => e = .returned (.tuple #[.int .i64 (numR (parseL s.data.toList)).1, .bool (numR (parseL s.data.toList)).2]) ∧ Below w.heap.size w w' := by
  have hk := parse_any s w hs he
  have hzr := numR_zero s.data.toList
  generalize parseL s.data.toList = p at *
  have hk := hid hk
  clear he hs
  clear hzr
  by_cases h0 : p.e = 0
  · have t1 : (p.e == 0) = true := by simpa using h0
    have hn : Hid (numR p = (p.v.n, (p.v.k == 1))) := hid (by unfold numR; congr 1; rw [Bool.eq_iff_iff]; simp [h0])
    clear h0
    go_enter Tryz.func149, Tryz.ntmps149
    go_wp2_with fail
    refine hk.out.mono ?_
    rintro e w1 ⟨rfl, hb10⟩
    have hb1 := hid hb10
    clear hb10 hk
    go_upto_region 2 with fail
    have kv := hid (Blk.new w1 55 #[.int .i64 p.v.k, .int .i64 p.v.n, .string p.v.s])
    have hB2 : Below w1.heap.size w1 (w1.alloc (.cells #[.int .i64 p.v.k, .int .i64 p.v.n, .string p.v.s] 55)) := (Below.refl _ _).alloc (Nat.le_refl _) _
    have hb2 := hid (hb1.out.trans (hB2.mono hb1.out.size))
    have x0 : (w1.alloc (.cells #[.int .i64 p.v.k, .int .i64 p.v.n, .string p.v.s] 55)).cell? ⟨w1.heap.size, 0, none⟩ = some (.int .i64 p.v.k) := kv.out.cell 0
    have x1 : (w1.alloc (.cells #[.int .i64 p.v.k, .int .i64 p.v.n, .string p.v.s] 55)).cell? ⟨w1.heap.size, 1, none⟩ = some (.int .i64 p.v.n) := kv.out.cell 1
    obtain ⟨g, hg⟩ : ∃ g, g = w1.heap.size := ⟨_, rfl⟩
    rw [← hg] at x0 x1
    generalize w1.alloc (.cells #[.int .i64 p.v.k, .int .i64 p.v.n, .string p.v.s] 55) = w2 at *
    simp only [← hg]
    clear hB2 hb1 hg kv
    go_quiet (fail)
    go_wp2_with fail
    refine bodyPost_ret (v := .tuple #[.int .i64 (p.v.n), .bool (p.v.k == 1)]) (by simp [results, Tryz.results149, go_sem]) rfl ⟨?_, ⟨hb2.out.os, hb2.out.tape, hb2.out.output, hb2.out.size, hb2.out.block⟩⟩
    rw [hn.out]
  · have t1 : (p.e == 0) = false := by simpa using h0
    have hn : Hid (numR p = (p.v.n, false)) := hid (by unfold numR; congr 1; exact decide_eq_false (fun e => h0 e.1))
    clear h0
    go_enter Tryz.func149, Tryz.ntmps149
    go_wp2_with fail
    refine hk.out.mono ?_
    rintro e w1 ⟨rfl, hb10⟩
    have hb1 := hid hb10
    clear hb10 hk
    go_upto_region 2 with fail
    have kv := hid (Blk.new w1 55 #[.int .i64 p.v.k, .int .i64 p.v.n, .string p.v.s])
    have hB2 : Below w1.heap.size w1 (w1.alloc (.cells #[.int .i64 p.v.k, .int .i64 p.v.n, .string p.v.s] 55)) := (Below.refl _ _).alloc (Nat.le_refl _) _
    have hb2 := hid (hb1.out.trans (hB2.mono hb1.out.size))
    have x0 : (w1.alloc (.cells #[.int .i64 p.v.k, .int .i64 p.v.n, .string p.v.s] 55)).cell? ⟨w1.heap.size, 0, none⟩ = some (.int .i64 p.v.k) := kv.out.cell 0
    have x1 : (w1.alloc (.cells #[.int .i64 p.v.k, .int .i64 p.v.n, .string p.v.s] 55)).cell? ⟨w1.heap.size, 1, none⟩ = some (.int .i64 p.v.n) := kv.out.cell 1
    obtain ⟨g, hg⟩ : ∃ g, g = w1.heap.size := ⟨_, rfl⟩
    rw [← hg] at x0 x1
    generalize w1.alloc (.cells #[.int .i64 p.v.k, .int .i64 p.v.n, .string p.v.s] 55) = w2 at *
    simp only [← hg]
    clear hB2 hb1 hg kv
    go_quiet (fail)
    go_wp2_with fail
    refine bodyPost_ret (v := .tuple #[.int .i64 (p.v.n), .bool false]) (by simp [results, Tryz.results149, go_sem]) rfl ⟨?_, ⟨hb2.out.os, hb2.out.tape, hb2.out.output, hb2.out.size, hb2.out.block⟩⟩
    rw [hn.out]

end Go.Proofs.YtdmogoaaecdbaaaGreatDoor

namespace Go.Proofs.YtdmogoaaecdbaaaGreatDoor
open Go.RowKit
theorem vnumber_any (s : ByteArray) (hs : s.size ≤ 140737488351232) (w : World) (he : Env w) : Calls Tryz.prog 149 #[.string s] w fun e w' => e = .returned (.tuple #[.int .i64 (numR (parseL s.data.toList)).1, .bool (numR (parseL s.data.toList)).2]) ∧ Below w.heap.size w w' := number_any s hs w he
end Go.Proofs.YtdmogoaaecdbaaaGreatDoor

namespace Go.Proofs.YtdmogoaaecdbaaaGreatDoor
open Go.RowKit
theorem iof_any (n : Int) (w : World) : Calls Tryz.prog 150 #[.int .i64 n] w fun e w' => e = .returned (.agg #[.int .i64 1, .int .i64 n, .string ⟨#[]⟩]) ∧ Below w.heap.size w w' := of_any n w
end Go.Proofs.YtdmogoaaecdbaaaGreatDoor

namespace Go.Proofs.YtdmogoaaecdbaaaGreatDoor
open Go.RowKit
set_option linter.unusedVariables false
set_option linter.unusedSimpArgs false

section
variable {S S2 : Nat → Prop} {w w' w5 : World} {g : Nat} {F : Fr} {m m' : Mc}
theorem field_kI (v : Vl) (w : World) : (Instr.field 55 (.agg #[.int .i64 v.k, .int .i64 v.n, .string v.s]) 0).run Tryz.prog w = .ok (.int .i64 v.k) w := by kernel_rfl
theorem load_st (m : Mc) (src : List Kv) (k : ByteArray) (r : List Vl) : ({ m with st := r } : Mc).load src k = (match m.load src k with | .ok x => (Except.ok (x.1, { x.2 with st := r }) : Rs (Vl × Mc)) | .error e => (Except.error e : Rs (Vl × Mc))) := by
  have e1 : ({ m with st := r } : Mc).load src k = (match getW k m.writes with | some x => (Except.ok (x.v, { m with st := r }) : Rs (Vl × Mc)) | none => if roomB m k = true then Except.ok (srcV src k, { m with st := r, reads := m.reads ++ [k] }) else Except.error (78, 0)) := rfl
  have e2 : m.load src k = (match getW k m.writes with | some x => (Except.ok (x.v, m) : Rs (Vl × Mc)) | none => if roomB m k = true then Except.ok (srcV src k, { m with reads := m.reads ++ [k] }) else Except.error (78, 0)) := rfl
  rw [e1, e2]
  cases getW k m.writes with
  | some x => rfl
  | none =>
    by_cases h : roomB m k = true
    · simp only [if_pos h]
    · simp only [if_neg h]
set_option maxRecDepth 100000 in
set_option maxHeartbeats 2000000 in
theorem one12 (a : Vl) (r : List Vl) (h : MAt S w g F m) (hs : m.st = a :: r) (hn : m.st.length ≤ 100) (ho : m.Ok0) : Calls Tryz.prog 107 #[.pointer (some ⟨g, 0, none⟩), .int .i64 12] w (OpPost S w g F m (oneP 12 F.src m a r)) := by
  have va := hid (ho.st a (by rw [hs]; exact List.mem_cons_self ..))
  have hor : Hid (Mc.Ok0 { m with st := r }) := hid (ho.stk fun v hv => ho.st v (by rw [hs]; exact List.mem_cons_of_mem _ hv))
  have hrl : Hid (r.length ≤ 99) := hid (by rw [hs] at hn; simp at hn; omega)
  have hr : Hid (oneP 12 F.src m a r = if a.k = 1 then (if a.n = minI then .error (70, 0) else .ok { m with st := numVl (-a.n) :: r }) else .error (72, 0)) := hid rfl
  obtain ⟨res, hres⟩ : ∃ res, Hid (oneP 12 F.src m a r = res) := ⟨_, hid rfl⟩
  rw [hres.out]
  have hp1 := hid (pop_any a r h hs (by have := hrl.out; omega))
  have hlt := hid h.lt
  clear h hs hn ho
  go_enter Tryz.func107, Tryz.ntmps107
  go_wp2_with fail
  refine hp1.out.mono ?_
  rintro e w2 ⟨rfl, S2, hA0, s1, s2, hU⟩
  have hA := hid hA0
  have s1 := hid s1
  have s2 := hid s2
  have hU := hid hU
  clear hp1
  go_upto_region 1 with fail
  have hb5 : Hid (Below w2.heap.size w2 (w2.alloc (.cells #[.int .i64 a.k, .int .i64 a.n, .string a.s] 55))) := hid ((Below.refl _ _).alloc (Nat.le_refl _) _)
  have ka := hid (Blk.new w2 55 #[.int .i64 a.k, .int .i64 a.n, .string a.s])
  have R := hid (hA.out.below hb5.out)
  have hU := hid (hU.out.trans (Upd.of_below' hb5.out (fun _ => False)) fun _ _ e => e.elim)
  clear hA hb5
  generalize w2.alloc (.cells #[.int .i64 a.k, .int .i64 a.n, .string a.s] 55) = w5 at *
  have hsz5 : Hid (w.heap.size ≤ w5.heap.size) := hid hU.out.size
  have hp3 : Hid (∀ q, S2 q → q < w2.heap.size) := hid hA0.lt
  generalize w2.heap.size = p3 at *
  have B := hid (Below.refl w5.heap.size w5)
  clear hA0
  have hSl : Hid (∀ q, S2 q → q < w5.heap.size) := hid R.out.lt
  have y0 := ka.out.cell 0
  have y1 := ka.out.cell 1
  have y2 := ka.out.cell 2
  simp only [List.getElem?_toArray, List.getElem?_cons_zero, List.getElem?_cons_succ] at y0 y1 y2
  by_cases hk : a.k = 1
  · have hne : Hid (numsE [a] = .returned (.tuple #[])) := hid (by unfold numsE; rw [if_pos (by simp [hk])])
    have hr2 := hid (hr.out.trans (if_pos hk))
    clear hk hr
    go_wp2_with fail
    have hbs := hid ((Below.refl w5.heap.size w5).alloc (Nat.le_refl _) (.cells #[.int .i64 a.k, .int .i64 a.n, .string a.s] 55))
    have hnu := hid (numbers_any (S := fun q => q = w5.heap.size) (A := some ⟨w5.heap.size, 0, none⟩) (c := 1) [a] (w5.alloc (.cells #[.int .i64 a.k, .int .i64 a.n, .string a.s] 55)) (Rd.new w5 55 3 1 #[.int .i64 a.k, .int .i64 a.n, .string a.s] w5.heap.size rfl rfl) (by simp))
    rw [hne.out] at hnu
    refine hnu.out.mono ?_
    rintro e w10 ⟨rfl, hb100⟩
    have hb10 := hid (hbs.out.trans (hb100.mono hbs.out.size))
    have R := hid (R.out.below hb10.out)
    have B := hid (B.out.trans (hb10.out.mono B.out.size))
    have ka := hid (ka.out.below_all hb10.out)
    clear hb100 hb10 hbs hnu hne y0 y1 y2
    have y0 := ka.out.cell 0
    have y1 := ka.out.cell 1
    have y2 := ka.out.cell 2
    simp only [List.getElem?_toArray, List.getElem?_cons_zero, List.getElem?_cons_succ] at y0 y1 y2
    by_cases hm : a.n = minI
    · have t1 : (a.n != -9223372036854775808) = false := by rw [hm]; rfl
      have hr3 := hid (hr2.out.trans (if_pos hm))
      clear hm hr2
      go_wp2_with fail
      refine (inumber_f _ _).mono ?_
      rintro e w13 ⟨rfl, hb13⟩
      have R := hid (R.out.below hb13)
      have B := hid (B.out.trans (hb13.mono B.out.size))
      have ka := hid (ka.out.below_all hb13)
      clear hb13 y0 y1 y2
      go_wp2_with fail
      refine ⟨rfl, ?_⟩
      rw [← hres.out, hr3.out]
      exact ⟨rfl, r, MGo.comp s1.out s2.out hU.out ((R.out.go (Below.refl _ _)).pre B.out hSl.out)⟩
    · have t1 : (a.n != -9223372036854775808) = true := by unfold minI at hm; simpa using hm
      have hr3 := hid (hr2.out.trans (if_neg hm))
      have i1 : IntKind.i64.wrap (-a.n) = -a.n := by rw [IntKind.wrap_i64]; have := va.out.2; unfold Vl.rng at this; unfold minI at hm; omega
      clear hm hr2
      go_wp2_with fail
      refine (inumber_l _ _).mono ?_
      rintro e w14 ⟨rfl, hb14⟩
      have R := hid (R.out.below hb14)
      have B := hid (B.out.trans (hb14.mono B.out.size))
      have ka := hid (ka.out.below_all hb14)
      clear hb14 y0 y1 y2
      have y0 := ka.out.cell 0
      have y1 := ka.out.cell 1
      have y2 := ka.out.cell 2
      simp only [List.getElem?_toArray, List.getElem?_cons_zero, List.getElem?_cons_succ] at y0 y1 y2
      go_wp2_with fail
      refine (push_num _ R.out (by have := hrl.out; show r.length ≤ 1000; omega)).mono ?_
      rintro e w9 ⟨rfl, hg⟩
      have hg := hid (MGo.comp s1.out s2.out hU.out (hg.pre B.out hSl.out))
      go_wp2_with fail
      refine ⟨rfl, .tuple #[], by simp [results, Tryz.results107, go_sem], ?_⟩
      rw [← hres.out, hr3.out]
      exact ⟨rfl, hg.out⟩
  · have hne : Hid (numsE [a] = .panicked [{ v := .iface 92 (.agg #[.int .i64 72, .int .i64 0]), recovered := false }]) := hid (by unfold numsE; rw [if_neg (by simpa using hk)])
    have hr2 := hid (hr.out.trans (if_neg hk))
    clear hk hr
    go_wp2_with fail
    have hbs := hid ((Below.refl w5.heap.size w5).alloc (Nat.le_refl _) (.cells #[.int .i64 a.k, .int .i64 a.n, .string a.s] 55))
    have hnu := hid (numbers_any (S := fun q => q = w5.heap.size) (A := some ⟨w5.heap.size, 0, none⟩) (c := 1) [a] (w5.alloc (.cells #[.int .i64 a.k, .int .i64 a.n, .string a.s] 55)) (Rd.new w5 55 3 1 #[.int .i64 a.k, .int .i64 a.n, .string a.s] w5.heap.size rfl rfl) (by simp))
    rw [hne.out] at hnu
    refine hnu.out.mono ?_
    rintro e w10 ⟨rfl, hb100⟩
    have hb10 := hid (hbs.out.trans (hb100.mono hbs.out.size))
    have R := hid (R.out.below hb10.out)
    have B := hid (B.out.trans (hb10.out.mono B.out.size))
    have ka := hid (ka.out.below_all hb10.out)
    clear hb100 hb10 hbs hnu hne y0 y1 y2
    go_wp2_with fail
    refine ⟨rfl, ?_⟩
    rw [← hres.out, hr2.out]
    exact ⟨rfl, r, MGo.comp s1.out s2.out hU.out ((R.out.go (Below.refl _ _)).pre B.out hSl.out)⟩
set_option maxRecDepth 100000 in
set_option maxHeartbeats 2000000 in
theorem one15 (a : Vl) (r : List Vl) (h : MAt S w g F m) (hs : m.st = a :: r) (hn : m.st.length ≤ 100) (ho : m.Ok0) : Calls Tryz.prog 107 #[.pointer (some ⟨g, 0, none⟩), .int .i64 15] w (OpPost S w g F m (oneP 15 F.src m a r)) := by
  have va := hid (ho.st a (by rw [hs]; exact List.mem_cons_self ..))
  have hor : Hid (Mc.Ok0 { m with st := r }) := hid (ho.stk fun v hv => ho.st v (by rw [hs]; exact List.mem_cons_of_mem _ hv))
  have hrl : Hid (r.length ≤ 99) := hid (by rw [hs] at hn; simp at hn; omega)
  have hr : Hid (oneP 15 F.src m a r = if a.k = 1 then .ok { m with st := truV (decide (a.n = 0)) :: r } else .error (72, 0)) := hid rfl
  obtain ⟨res, hres⟩ : ∃ res, Hid (oneP 15 F.src m a r = res) := ⟨_, hid rfl⟩
  rw [hres.out]
  have hp1 := hid (pop_any a r h hs (by have := hrl.out; omega))
  have hlt := hid h.lt
  clear h hs hn ho
  go_enter Tryz.func107, Tryz.ntmps107
  go_wp2_with fail
  refine hp1.out.mono ?_
  rintro e w2 ⟨rfl, S2, hA0, s1, s2, hU⟩
  have hA := hid hA0
  have s1 := hid s1
  have s2 := hid s2
  have hU := hid hU
  clear hp1
  go_upto_region 1 with fail
  have hb5 : Hid (Below w2.heap.size w2 (w2.alloc (.cells #[.int .i64 a.k, .int .i64 a.n, .string a.s] 55))) := hid ((Below.refl _ _).alloc (Nat.le_refl _) _)
  have ka := hid (Blk.new w2 55 #[.int .i64 a.k, .int .i64 a.n, .string a.s])
  have R := hid (hA.out.below hb5.out)
  have hU := hid (hU.out.trans (Upd.of_below' hb5.out (fun _ => False)) fun _ _ e => e.elim)
  clear hA hb5
  generalize w2.alloc (.cells #[.int .i64 a.k, .int .i64 a.n, .string a.s] 55) = w5 at *
  have hsz5 : Hid (w.heap.size ≤ w5.heap.size) := hid hU.out.size
  have hp3 : Hid (∀ q, S2 q → q < w2.heap.size) := hid hA0.lt
  generalize w2.heap.size = p3 at *
  have B := hid (Below.refl w5.heap.size w5)
  clear hA0
  have hSl : Hid (∀ q, S2 q → q < w5.heap.size) := hid R.out.lt
  have y0 := ka.out.cell 0
  have y1 := ka.out.cell 1
  have y2 := ka.out.cell 2
  simp only [List.getElem?_toArray, List.getElem?_cons_zero, List.getElem?_cons_succ] at y0 y1 y2
  by_cases hk : a.k = 1
  · have hne : Hid (numsE [a] = .returned (.tuple #[])) := hid (by unfold numsE; rw [if_pos (by simp [hk])])
    have hr2 := hid (hr.out.trans (if_pos hk))
    clear hk hr
    go_wp2_with fail
    have hbs := hid ((Below.refl w5.heap.size w5).alloc (Nat.le_refl _) (.cells #[.int .i64 a.k, .int .i64 a.n, .string a.s] 55))
    have hnu := hid (numbers_any (S := fun q => q = w5.heap.size) (A := some ⟨w5.heap.size, 0, none⟩) (c := 1) [a] (w5.alloc (.cells #[.int .i64 a.k, .int .i64 a.n, .string a.s] 55)) (Rd.new w5 55 3 1 #[.int .i64 a.k, .int .i64 a.n, .string a.s] w5.heap.size rfl rfl) (by simp))
    rw [hne.out] at hnu
    refine hnu.out.mono ?_
    rintro e w10 ⟨rfl, hb100⟩
    have hb10 := hid (hbs.out.trans (hb100.mono hbs.out.size))
    have R := hid (R.out.below hb10.out)
    have B := hid (B.out.trans (hb10.out.mono B.out.size))
    have ka := hid (ka.out.below_all hb10.out)
    clear hb100 hb10 hbs hnu hne y0 y1 y2
    have y0 := ka.out.cell 0
    have y1 := ka.out.cell 1
    have y2 := ka.out.cell 2
    simp only [List.getElem?_toArray, List.getElem?_cons_zero, List.getElem?_cons_succ] at y0 y1 y2
    by_cases hm : a.n = 0
    · have t1 : (a.n == 0) = true := by simpa using hm
      have hv : Hid (decide (a.n = 0) = true) := hid (decide_eq_true hm)
      clear hm
      go_wp2_with fail
      refine (truth_any true _).mono ?_
      rintro e w15 ⟨rfl, hb15⟩
      have R := hid (R.out.below hb15)
      have B := hid (B.out.trans (hb15.mono B.out.size))
      have ka := hid (ka.out.below_all hb15)
      clear hb15 y0 y1 y2
      have y0 := ka.out.cell 0
      have y1 := ka.out.cell 1
      have y2 := ka.out.cell 2
      simp only [List.getElem?_toArray, List.getElem?_cons_zero, List.getElem?_cons_succ] at y0 y1 y2
      go_wp2_with fail
      refine (push_any (truV true) R.out (by have := hrl.out; show r.length ≤ 1000; omega)).mono ?_
      rintro e w9 ⟨rfl, hg⟩
      have hg := hid (MGo.comp s1.out s2.out hU.out (hg.pre B.out hSl.out))
      go_wp2_with fail
      refine ⟨rfl, .tuple #[], by simp [results, Tryz.results107, go_sem], ?_⟩
      rw [← hres.out, hr2.out, hv.out]
      exact ⟨rfl, hg.out⟩
    · have t1 : (a.n == 0) = false := by simpa using hm
      have hv : Hid (decide (a.n = 0) = false) := hid (decide_eq_false hm)
      clear hm
      go_wp2_with fail
      refine (truth_any false _).mono ?_
      rintro e w16 ⟨rfl, hb16⟩
      have R := hid (R.out.below hb16)
      have B := hid (B.out.trans (hb16.mono B.out.size))
      have ka := hid (ka.out.below_all hb16)
      clear hb16 y0 y1 y2
      have y0 := ka.out.cell 0
      have y1 := ka.out.cell 1
      have y2 := ka.out.cell 2
      simp only [List.getElem?_toArray, List.getElem?_cons_zero, List.getElem?_cons_succ] at y0 y1 y2
      go_wp2_with fail
      refine (push_any (truV false) R.out (by have := hrl.out; show r.length ≤ 1000; omega)).mono ?_
      rintro e w9 ⟨rfl, hg⟩
      have hg := hid (MGo.comp s1.out s2.out hU.out (hg.pre B.out hSl.out))
      go_wp2_with fail
      refine ⟨rfl, .tuple #[], by simp [results, Tryz.results107, go_sem], ?_⟩
      rw [← hres.out, hr2.out, hv.out]
      exact ⟨rfl, hg.out⟩
  · have hne : Hid (numsE [a] = .panicked [{ v := .iface 92 (.agg #[.int .i64 72, .int .i64 0]), recovered := false }]) := hid (by unfold numsE; rw [if_neg (by simpa using hk)])
    have hr2 := hid (hr.out.trans (if_neg hk))
    clear hk hr
    go_wp2_with fail
    have hbs := hid ((Below.refl w5.heap.size w5).alloc (Nat.le_refl _) (.cells #[.int .i64 a.k, .int .i64 a.n, .string a.s] 55))
    have hnu := hid (numbers_any (S := fun q => q = w5.heap.size) (A := some ⟨w5.heap.size, 0, none⟩) (c := 1) [a] (w5.alloc (.cells #[.int .i64 a.k, .int .i64 a.n, .string a.s] 55)) (Rd.new w5 55 3 1 #[.int .i64 a.k, .int .i64 a.n, .string a.s] w5.heap.size rfl rfl) (by simp))
    rw [hne.out] at hnu
    refine hnu.out.mono ?_
    rintro e w10 ⟨rfl, hb100⟩
    have hb10 := hid (hbs.out.trans (hb100.mono hbs.out.size))
    have R := hid (R.out.below hb10.out)
    have B := hid (B.out.trans (hb10.out.mono B.out.size))
    have ka := hid (ka.out.below_all hb10.out)
    clear hb100 hb10 hbs hnu hne y0 y1 y2
    go_wp2_with fail
    refine ⟨rfl, ?_⟩
    rw [← hres.out, hr2.out]
    exact ⟨rfl, r, MGo.comp s1.out s2.out hU.out ((R.out.go (Below.refl _ _)).pre B.out hSl.out)⟩
set_option maxRecDepth 100000 in
set_option maxHeartbeats 2000000 in
theorem one20 (a : Vl) (r : List Vl) (h : MAt S w g F m) (hs : m.st = a :: r) (hn : m.st.length ≤ 100) (ho : m.Ok0) (hsrc : ∀ x ∈ F.src, x.2.s.size ≤ 9223372036854775806) (hsl : F.src.length ≤ 1000000) : Calls Tryz.prog 107 #[.pointer (some ⟨g, 0, none⟩), .int .i64 20] w (OpPost S w g F m (oneP 20 F.src m a r)) := by
  have va := hid (ho.st a (by rw [hs]; exact List.mem_cons_self ..))
  have hor : Hid (Mc.Ok0 { m with st := r }) := hid (ho.stk fun v hv => ho.st v (by rw [hs]; exact List.mem_cons_of_mem _ hv))
  have hrl : Hid (r.length ≤ 99) := hid (by rw [hs] at hn; simp at hn; omega)
  have hr : Hid (oneP 20 F.src m a r = if keyE a ≠ 0 then .error (keyE a, 0) else match m.load F.src a.s with | .ok (v, m9) => .ok { m9 with st := v :: r } | .error e => .error e) := hid rfl
  have hsrc := hid hsrc
  have hsl := hid hsl
  obtain ⟨res, hres⟩ : ∃ res, Hid (oneP 20 F.src m a r = res) := ⟨_, hid rfl⟩
  rw [hres.out]
  have hp1 := hid (pop_any a r h hs (by have := hrl.out; omega))
  have hlt := hid h.lt
  clear h hs hn ho
  go_enter Tryz.func107, Tryz.ntmps107
  go_wp2_with fail
  refine hp1.out.mono ?_
  rintro e w2 ⟨rfl, S2, hA0, s1, s2, hU⟩
  have hA := hid hA0
  have s1 := hid s1
  have s2 := hid s2
  have hU := hid hU
  clear hp1
  go_upto_region 1 with fail
  have hb5 : Hid (Below w2.heap.size w2 (w2.alloc (.cells #[.int .i64 a.k, .int .i64 a.n, .string a.s] 55))) := hid ((Below.refl _ _).alloc (Nat.le_refl _) _)
  have ka := hid (Blk.new w2 55 #[.int .i64 a.k, .int .i64 a.n, .string a.s])
  have R := hid (hA.out.below hb5.out)
  have hU := hid (hU.out.trans (Upd.of_below' hb5.out (fun _ => False)) fun _ _ e => e.elim)
  clear hA hb5
  generalize w2.alloc (.cells #[.int .i64 a.k, .int .i64 a.n, .string a.s] 55) = w5 at *
  have hsz5 : Hid (w.heap.size ≤ w5.heap.size) := hid hU.out.size
  have hp3 : Hid (∀ q, S2 q → q < w2.heap.size) := hid hA0.lt
  generalize w2.heap.size = p3 at *
  have B := hid (Below.refl w5.heap.size w5)
  clear hA0
  have hSl : Hid (∀ q, S2 q → q < w5.heap.size) := hid R.out.lt
  have y0 := ka.out.cell 0
  have y1 := ka.out.cell 1
  have y2 := ka.out.cell 2
  simp only [List.getElem?_toArray, List.getElem?_cons_zero, List.getElem?_cons_succ] at y0 y1 y2
  by_cases hk : keyE a = 0
  · have hky : Hid (∀ w : World, Calls Tryz.prog 145 #[.agg #[.int .i64 a.k, .int .i64 a.n, .string a.s]] w fun e w' => e = .returned (.string a.s) ∧ Below w.heap.size w w') := hid fun w => by
      have h9 := key_any a w (by have := isz_le va.out.1; omega)
      have he : keyEnd a = .returned (.string a.s) := by unfold keyEnd; rw [if_pos hk]
      rw [he] at h9
      exact h9
    have hr2 := hid (hr.out.trans (if_neg fun h => h hk))
    clear hk hr
    go_wp2_with fail
    refine (hky.out _).mono ?_
    rintro e w17 ⟨rfl, hb17⟩
    have R := hid (R.out.below hb17)
    have B := hid (B.out.trans (hb17.mono B.out.size))
    have ka := hid (ka.out.below_all hb17)
    clear hb17 y0 y1 y2
    have y0 := ka.out.cell 0
    have y1 := ka.out.cell 1
    have y2 := ka.out.cell 2
    simp only [List.getElem?_toArray, List.getElem?_cons_zero, List.getElem?_cons_succ] at y0 y1 y2
    go_wp2_with fail
    have hld := hid (load_any a.s R.out hor.out hsrc.out hsl.out)
    have hst := hid (load_st m F.src a.s r)
    cases hq : m.load F.src a.s with
    | ok x =>
      obtain ⟨v, m9⟩ := x
      rw [hq] at hr2 hst
      rw [hst.out] at hld
      refine hld.out.mono ?_
      rintro e w8 ⟨rfl, S8, hA8, h81, h82, hU8⟩
      have hR8 := hid hA8
      have h81 := hid h81
      have h82 := hid h82
      have hU8 := hid hU8
      have hl8 : Hid (({ m9 with st := r } : Mc).st.length ≤ 1000) := hid (by have := hrl.out; show r.length ≤ 1000; omega)
      clear hA8 hld
      have hb8 := hid (Below.refl w8.heap.size w8)
      go_wp2_with fail
      refine (push_any v (hR8.out.below hb8.out) hl8.out).mono ?_
      rintro e w9 ⟨rfl, hg⟩
      have hg := hid (MGo.comp s1.out s2.out hU.out ((MGo.comp h81.out h82.out hU8.out (hg.pre hb8.out hR8.out.lt)).pre B.out hSl.out))
      go_wp2_with fail
      refine ⟨rfl, .tuple #[], by simp [results, Tryz.results107, go_sem], ?_⟩
      rw [← hres.out, hr2.out]
      exact ⟨rfl, hg.out⟩
    | error er =>
      rw [hq] at hr2 hst
      rw [hst.out] at hld
      refine hld.out.mono ?_
      rintro e w8 ⟨rfl, hg8⟩
      have hg := hid (MGo.comp s1.out s2.out hU.out (hg8.pre B.out hSl.out))
      go_wp2_with fail
      refine ⟨rfl, ?_⟩
      rw [← hres.out, hr2.out]
      exact ⟨rfl, r, hg.out⟩
  · obtain ⟨c9, hc9⟩ : ∃ c9, Hid (keyE a = c9) := ⟨_, hid rfl⟩
    have hky : Hid (∀ w : World, Calls Tryz.prog 145 #[.agg #[.int .i64 a.k, .int .i64 a.n, .string a.s]] w fun e w' => e = .panicked [{ v := .iface 92 (.agg #[.int .i64 c9, .int .i64 0]), recovered := false }] ∧ Below w.heap.size w w') := hid fun w => by
      have h9 := key_any a w (by have := isz_le va.out.1; omega)
      have he : keyEnd a = .panicked [{ v := .iface 92 (.agg #[.int .i64 c9, .int .i64 0]), recovered := false }] := by unfold keyEnd; rw [if_neg hk, hc9.out]
      rw [he] at h9
      exact h9
    have hr2 := hid (hr.out.trans (if_pos hk))
    rw [hc9.out] at hr2
    clear hk hr
    go_wp2_with fail
    refine (hky.out _).mono ?_
    rintro e w18 ⟨rfl, hb18⟩
    have R := hid (R.out.below hb18)
    have B := hid (B.out.trans (hb18.mono B.out.size))
    have ka := hid (ka.out.below_all hb18)
    clear hb18 y0 y1 y2
    go_wp2_with fail
    refine ⟨rfl, ?_⟩
    rw [← hres.out, hr2.out]
    exact ⟨rfl, r, MGo.comp s1.out s2.out hU.out ((R.out.go (Below.refl _ _)).pre B.out hSl.out)⟩
set_option maxRecDepth 100000 in
set_option maxHeartbeats 2000000 in
theorem one21 (a : Vl) (r : List Vl) (h : MAt S w g F m) (hs : m.st = a :: r) (hn : m.st.length ≤ 100) (ho : m.Ok0) (hsrc : ∀ x ∈ F.src, x.2.s.size ≤ 9223372036854775806) (hsl : F.src.length ≤ 1000000) : Calls Tryz.prog 107 #[.pointer (some ⟨g, 0, none⟩), .int .i64 21] w (OpPost S w g F m (oneP 21 F.src m a r)) := by
  have va := hid (ho.st a (by rw [hs]; exact List.mem_cons_self ..))
  have hor : Hid (Mc.Ok0 { m with st := r }) := hid (ho.stk fun v hv => ho.st v (by rw [hs]; exact List.mem_cons_of_mem _ hv))
  have hrl : Hid (r.length ≤ 99) := hid (by rw [hs] at hn; simp at hn; omega)
  have hr : Hid (oneP 21 F.src m a r = if keyE a ≠ 0 then .error (keyE a, 0) else match m.load F.src a.s with | .ok (v, m9) => .ok { m9 with st := truV (decide (v.k ≠ 0)) :: r } | .error e => .error e) := hid rfl
  have hsrc := hid hsrc
  have hsl := hid hsl
  obtain ⟨res, hres⟩ : ∃ res, Hid (oneP 21 F.src m a r = res) := ⟨_, hid rfl⟩
  rw [hres.out]
  have hp1 := hid (pop_any a r h hs (by have := hrl.out; omega))
  have hlt := hid h.lt
  clear h hs hn ho
  go_enter Tryz.func107, Tryz.ntmps107
  go_wp2_with fail
  refine hp1.out.mono ?_
  rintro e w2 ⟨rfl, S2, hA0, s1, s2, hU⟩
  have hA := hid hA0
  have s1 := hid s1
  have s2 := hid s2
  have hU := hid hU
  clear hp1
  go_upto_region 1 with fail
  have hb5 : Hid (Below w2.heap.size w2 (w2.alloc (.cells #[.int .i64 a.k, .int .i64 a.n, .string a.s] 55))) := hid ((Below.refl _ _).alloc (Nat.le_refl _) _)
  have ka := hid (Blk.new w2 55 #[.int .i64 a.k, .int .i64 a.n, .string a.s])
  have R := hid (hA.out.below hb5.out)
  have hU := hid (hU.out.trans (Upd.of_below' hb5.out (fun _ => False)) fun _ _ e => e.elim)
  clear hA hb5
  generalize w2.alloc (.cells #[.int .i64 a.k, .int .i64 a.n, .string a.s] 55) = w5 at *
  have hsz5 : Hid (w.heap.size ≤ w5.heap.size) := hid hU.out.size
  have hp3 : Hid (∀ q, S2 q → q < w2.heap.size) := hid hA0.lt
  generalize w2.heap.size = p3 at *
  have B := hid (Below.refl w5.heap.size w5)
  clear hA0
  have hSl : Hid (∀ q, S2 q → q < w5.heap.size) := hid R.out.lt
  have y0 := ka.out.cell 0
  have y1 := ka.out.cell 1
  have y2 := ka.out.cell 2
  simp only [List.getElem?_toArray, List.getElem?_cons_zero, List.getElem?_cons_succ] at y0 y1 y2
  by_cases hk : keyE a = 0
  · have hky : Hid (∀ w : World, Calls Tryz.prog 145 #[.agg #[.int .i64 a.k, .int .i64 a.n, .string a.s]] w fun e w' => e = .returned (.string a.s) ∧ Below w.heap.size w w') := hid fun w => by
      have h9 := key_any a w (by have := isz_le va.out.1; omega)
      have he : keyEnd a = .returned (.string a.s) := by unfold keyEnd; rw [if_pos hk]
      rw [he] at h9
      exact h9
    have hr2 := hid (hr.out.trans (if_neg fun h => h hk))
    clear hk hr
    go_wp2_with fail
    refine (hky.out _).mono ?_
    rintro e w19 ⟨rfl, hb19⟩
    have R := hid (R.out.below hb19)
    have B := hid (B.out.trans (hb19.mono B.out.size))
    have ka := hid (ka.out.below_all hb19)
    clear hb19 y0 y1 y2
    have y0 := ka.out.cell 0
    have y1 := ka.out.cell 1
    have y2 := ka.out.cell 2
    simp only [List.getElem?_toArray, List.getElem?_cons_zero, List.getElem?_cons_succ] at y0 y1 y2
    go_wp2_with fail
    have hld := hid (load_any a.s R.out hor.out hsrc.out hsl.out)
    have hst := hid (load_st m F.src a.s r)
    cases hq : m.load F.src a.s with
    | ok x =>
      obtain ⟨v, m9⟩ := x
      rw [hq] at hr2 hst
      rw [hst.out] at hld
      refine hld.out.mono ?_
      rintro e w8 ⟨rfl, S8, hA8, h81, h82, hU8⟩
      have hR8 := hid hA8
      have h81 := hid h81
      have h82 := hid h82
      have hU8 := hid hU8
      have hl8 : Hid (({ m9 with st := r } : Mc).st.length ≤ 1000) := hid (by have := hrl.out; show r.length ≤ 1000; omega)
      clear hA8 hld
      have hfk := field_kI v
      by_cases hv0 : v.k = 0
      · have t1 : (v.k != 0) = false := by simpa using hv0
        have hv : Hid (decide (v.k ≠ 0) = false) := hid (by simpa using hv0)
        clear hv0
        go_wp2_with fail
        refine (truth_any false _).mono ?_
        rintro e w88 ⟨rfl, hb80⟩
        have hb8 := hid hb80
        rw [hv.out] at hr2
        go_wp2_with fail
        refine (push_any (truV false) (hR8.out.below hb8.out) hl8.out).mono ?_
        rintro e w9 ⟨rfl, hg⟩
        have hg := hid (MGo.comp s1.out s2.out hU.out ((MGo.comp h81.out h82.out hU8.out (hg.pre hb8.out hR8.out.lt)).pre B.out hSl.out))
        go_wp2_with fail
        refine ⟨rfl, .tuple #[], by simp [results, Tryz.results107, go_sem], ?_⟩
        rw [← hres.out, hr2.out]
        exact ⟨rfl, hg.out⟩
      · have t1 : (v.k != 0) = true := by simpa using hv0
        have hv : Hid (decide (v.k ≠ 0) = true) := hid (by simpa using hv0)
        clear hv0
        go_wp2_with fail
        refine (truth_any true _).mono ?_
        rintro e w88 ⟨rfl, hb80⟩
        have hb8 := hid hb80
        rw [hv.out] at hr2
        go_wp2_with fail
        refine (push_any (truV true) (hR8.out.below hb8.out) hl8.out).mono ?_
        rintro e w9 ⟨rfl, hg⟩
        have hg := hid (MGo.comp s1.out s2.out hU.out ((MGo.comp h81.out h82.out hU8.out (hg.pre hb8.out hR8.out.lt)).pre B.out hSl.out))
        go_wp2_with fail
        refine ⟨rfl, .tuple #[], by simp [results, Tryz.results107, go_sem], ?_⟩
        rw [← hres.out, hr2.out]
        exact ⟨rfl, hg.out⟩
    | error er =>
      rw [hq] at hr2 hst
      rw [hst.out] at hld
      refine hld.out.mono ?_
      rintro e w8 ⟨rfl, hg8⟩
      have hg := hid (MGo.comp s1.out s2.out hU.out (hg8.pre B.out hSl.out))
      go_wp2_with fail
      refine ⟨rfl, ?_⟩
      rw [← hres.out, hr2.out]
      exact ⟨rfl, r, hg.out⟩
  · obtain ⟨c9, hc9⟩ : ∃ c9, Hid (keyE a = c9) := ⟨_, hid rfl⟩
    have hky : Hid (∀ w : World, Calls Tryz.prog 145 #[.agg #[.int .i64 a.k, .int .i64 a.n, .string a.s]] w fun e w' => e = .panicked [{ v := .iface 92 (.agg #[.int .i64 c9, .int .i64 0]), recovered := false }] ∧ Below w.heap.size w w') := hid fun w => by
      have h9 := key_any a w (by have := isz_le va.out.1; omega)
      have he : keyEnd a = .panicked [{ v := .iface 92 (.agg #[.int .i64 c9, .int .i64 0]), recovered := false }] := by unfold keyEnd; rw [if_neg hk, hc9.out]
      rw [he] at h9
      exact h9
    have hr2 := hid (hr.out.trans (if_pos hk))
    rw [hc9.out] at hr2
    clear hk hr
    go_wp2_with fail
    refine (hky.out _).mono ?_
    rintro e w20 ⟨rfl, hb20⟩
    have R := hid (R.out.below hb20)
    have B := hid (B.out.trans (hb20.mono B.out.size))
    have ka := hid (ka.out.below_all hb20)
    clear hb20 y0 y1 y2
    go_wp2_with fail
    refine ⟨rfl, ?_⟩
    rw [← hres.out, hr2.out]
    exact ⟨rfl, r, MGo.comp s1.out s2.out hU.out ((R.out.go (Below.refl _ _)).pre B.out hSl.out)⟩
set_option maxRecDepth 100000 in
set_option maxHeartbeats 2000000 in
theorem one23 (a : Vl) (r : List Vl) (h : MAt S w g F m) (hs : m.st = a :: r) (hn : m.st.length ≤ 100) (ho : m.Ok0) : Calls Tryz.prog 107 #[.pointer (some ⟨g, 0, none⟩), .int .i64 23] w (OpPost S w g F m (oneP 23 F.src m a r)) := by
  have va := hid (ho.st a (by rw [hs]; exact List.mem_cons_self ..))
  have hor : Hid (Mc.Ok0 { m with st := r }) := hid (ho.stk fun v hv => ho.st v (by rw [hs]; exact List.mem_cons_of_mem _ hv))
  have hrl : Hid (r.length ≤ 99) := hid (by rw [hs] at hn; simp at hn; omega)
  have hr : Hid (oneP 23 F.src m a r = if keyE a ≠ 0 then .error (keyE a, 0) else ({ m with st := r } : Mc).write ⟨a.s, true, vl0⟩) := hid rfl
  obtain ⟨res, hres⟩ : ∃ res, Hid (oneP 23 F.src m a r = res) := ⟨_, hid rfl⟩
  rw [hres.out]
  have hp1 := hid (pop_any a r h hs (by have := hrl.out; omega))
  have hlt := hid h.lt
  clear h hs hn ho
  go_enter Tryz.func107, Tryz.ntmps107
  go_wp2_with fail
  refine hp1.out.mono ?_
  rintro e w2 ⟨rfl, S2, hA0, s1, s2, hU⟩
  have hA := hid hA0
  have s1 := hid s1
  have s2 := hid s2
  have hU := hid hU
  clear hp1
  go_upto_region 1 with fail
  have hb5 : Hid (Below w2.heap.size w2 (w2.alloc (.cells #[.int .i64 a.k, .int .i64 a.n, .string a.s] 55))) := hid ((Below.refl _ _).alloc (Nat.le_refl _) _)
  have ka := hid (Blk.new w2 55 #[.int .i64 a.k, .int .i64 a.n, .string a.s])
  have R := hid (hA.out.below hb5.out)
  have hU := hid (hU.out.trans (Upd.of_below' hb5.out (fun _ => False)) fun _ _ e => e.elim)
  clear hA hb5
  generalize w2.alloc (.cells #[.int .i64 a.k, .int .i64 a.n, .string a.s] 55) = w5 at *
  have hsz5 : Hid (w.heap.size ≤ w5.heap.size) := hid hU.out.size
  have hp3 : Hid (∀ q, S2 q → q < w2.heap.size) := hid hA0.lt
  generalize w2.heap.size = p3 at *
  have B := hid (Below.refl w5.heap.size w5)
  clear hA0
  have hSl : Hid (∀ q, S2 q → q < w5.heap.size) := hid R.out.lt
  have y0 := ka.out.cell 0
  have y1 := ka.out.cell 1
  have y2 := ka.out.cell 2
  simp only [List.getElem?_toArray, List.getElem?_cons_zero, List.getElem?_cons_succ] at y0 y1 y2
  by_cases hk : keyE a = 0
  · have hky : Hid (∀ w : World, Calls Tryz.prog 145 #[.agg #[.int .i64 a.k, .int .i64 a.n, .string a.s]] w fun e w' => e = .returned (.string a.s) ∧ Below w.heap.size w w') := hid fun w => by
      have h9 := key_any a w (by have := isz_le va.out.1; omega)
      have he : keyEnd a = .returned (.string a.s) := by unfold keyEnd; rw [if_pos hk]
      rw [he] at h9
      exact h9
    have hr2 := hid (hr.out.trans (if_neg fun h => h hk))
    clear hk hr
    go_wp2_with fail
    refine (hky.out _).mono ?_
    rintro e w21 ⟨rfl, hb21⟩
    have R := hid (R.out.below hb21)
    have B := hid (B.out.trans (hb21.mono B.out.size))
    have ka := hid (ka.out.below_all hb21)
    clear hb21 y0 y1 y2
    have y0 := ka.out.cell 0
    have y1 := ka.out.cell 1
    have y2 := ka.out.cell 2
    simp only [List.getElem?_toArray, List.getElem?_cons_zero, List.getElem?_cons_succ] at y0 y1 y2
    cases hq : ({ m with st := r } : Mc).write ⟨a.s, true, vl0⟩ with
    | ok m9 =>
      rw [hq] at hr2
      go_wp2_with fail
      have hwr := hid (write_any ⟨a.s, true, vl0⟩ R.out hor.out)
      rw [hq] at hwr
      refine hwr.out.mono ?_
      rintro e w9 ⟨rfl, hg⟩
      have hg := hid (MGo.comp s1.out s2.out hU.out (hg.pre B.out hSl.out))
      go_wp2_with fail
      refine ⟨rfl, .tuple #[], by simp [results, Tryz.results107, go_sem], ?_⟩
      rw [← hres.out, hr2.out]
      exact ⟨rfl, hg.out⟩
    | error er =>
      rw [hq] at hr2
      go_wp2_with fail
      have hwr := hid (write_any ⟨a.s, true, vl0⟩ R.out hor.out)
      rw [hq] at hwr
      refine hwr.out.mono ?_
      rintro e w9 ⟨rfl, hg⟩
      have hg := hid (MGo.comp s1.out s2.out hU.out (hg.pre B.out hSl.out))
      go_wp2_with fail
      refine ⟨rfl, ?_⟩
      rw [← hres.out, hr2.out]
      exact ⟨rfl, r, hg.out⟩
  · obtain ⟨c9, hc9⟩ : ∃ c9, Hid (keyE a = c9) := ⟨_, hid rfl⟩
    have hky : Hid (∀ w : World, Calls Tryz.prog 145 #[.agg #[.int .i64 a.k, .int .i64 a.n, .string a.s]] w fun e w' => e = .panicked [{ v := .iface 92 (.agg #[.int .i64 c9, .int .i64 0]), recovered := false }] ∧ Below w.heap.size w w') := hid fun w => by
      have h9 := key_any a w (by have := isz_le va.out.1; omega)
      have he : keyEnd a = .panicked [{ v := .iface 92 (.agg #[.int .i64 c9, .int .i64 0]), recovered := false }] := by unfold keyEnd; rw [if_neg hk, hc9.out]
      rw [he] at h9
      exact h9
    have hr2 := hid (hr.out.trans (if_pos hk))
    rw [hc9.out] at hr2
    clear hk hr
    go_wp2_with fail
    refine (hky.out _).mono ?_
    rintro e w22 ⟨rfl, hb22⟩
    have R := hid (R.out.below hb22)
    have B := hid (B.out.trans (hb22.mono B.out.size))
    have ka := hid (ka.out.below_all hb22)
    clear hb22 y0 y1 y2
    go_wp2_with fail
    refine ⟨rfl, ?_⟩
    rw [← hres.out, hr2.out]
    exact ⟨rfl, r, MGo.comp s1.out s2.out hU.out ((R.out.go (Below.refl _ _)).pre B.out hSl.out)⟩
set_option maxRecDepth 100000 in
set_option maxHeartbeats 2000000 in
theorem one25 (a : Vl) (r : List Vl) (h : MAt S w g F m) (hs : m.st = a :: r) (hn : m.st.length ≤ 100) (ho : m.Ok0) : Calls Tryz.prog 107 #[.pointer (some ⟨g, 0, none⟩), .int .i64 25] w (OpPost S w g F m (oneP 25 F.src m a r)) := by
  have va := hid (ho.st a (by rw [hs]; exact List.mem_cons_self ..))
  have hor : Hid (Mc.Ok0 { m with st := r }) := hid (ho.stk fun v hv => ho.st v (by rw [hs]; exact List.mem_cons_of_mem _ hv))
  have hrl : Hid (r.length ≤ 99) := hid (by rw [hs] at hn; simp at hn; omega)
  have hr : Hid (oneP 25 F.src m a r = if a.k = 1 then .ok { m with st := wrdV (digS a.n) :: r } else .error (72, 0)) := hid rfl
  obtain ⟨res, hres⟩ : ∃ res, Hid (oneP 25 F.src m a r = res) := ⟨_, hid rfl⟩
  rw [hres.out]
  have hp1 := hid (pop_any a r h hs (by have := hrl.out; omega))
  have hlt := hid h.lt
  clear h hs hn ho
  go_enter Tryz.func107, Tryz.ntmps107
  go_wp2_with fail
  refine hp1.out.mono ?_
  rintro e w2 ⟨rfl, S2, hA0, s1, s2, hU⟩
  have hA := hid hA0
  have s1 := hid s1
  have s2 := hid s2
  have hU := hid hU
  clear hp1
  go_upto_region 1 with fail
  have hb5 : Hid (Below w2.heap.size w2 (w2.alloc (.cells #[.int .i64 a.k, .int .i64 a.n, .string a.s] 55))) := hid ((Below.refl _ _).alloc (Nat.le_refl _) _)
  have ka := hid (Blk.new w2 55 #[.int .i64 a.k, .int .i64 a.n, .string a.s])
  have R := hid (hA.out.below hb5.out)
  have hU := hid (hU.out.trans (Upd.of_below' hb5.out (fun _ => False)) fun _ _ e => e.elim)
  clear hA hb5
  generalize w2.alloc (.cells #[.int .i64 a.k, .int .i64 a.n, .string a.s] 55) = w5 at *
  have hsz5 : Hid (w.heap.size ≤ w5.heap.size) := hid hU.out.size
  have hp3 : Hid (∀ q, S2 q → q < w2.heap.size) := hid hA0.lt
  generalize w2.heap.size = p3 at *
  have B := hid (Below.refl w5.heap.size w5)
  clear hA0
  have hSl : Hid (∀ q, S2 q → q < w5.heap.size) := hid R.out.lt
  have y0 := ka.out.cell 0
  have y1 := ka.out.cell 1
  have y2 := ka.out.cell 2
  simp only [List.getElem?_toArray, List.getElem?_cons_zero, List.getElem?_cons_succ] at y0 y1 y2
  by_cases hk : a.k = 1
  · have hne : Hid (numsE [a] = .returned (.tuple #[])) := hid (by unfold numsE; rw [if_pos (by simp [hk])])
    have hr2 := hid (hr.out.trans (if_pos hk))
    clear hk hr
    go_wp2_with fail
    have hbs := hid ((Below.refl w5.heap.size w5).alloc (Nat.le_refl _) (.cells #[.int .i64 a.k, .int .i64 a.n, .string a.s] 55))
    have hnu := hid (numbers_any (S := fun q => q = w5.heap.size) (A := some ⟨w5.heap.size, 0, none⟩) (c := 1) [a] (w5.alloc (.cells #[.int .i64 a.k, .int .i64 a.n, .string a.s] 55)) (Rd.new w5 55 3 1 #[.int .i64 a.k, .int .i64 a.n, .string a.s] w5.heap.size rfl rfl) (by simp))
    rw [hne.out] at hnu
    refine hnu.out.mono ?_
    rintro e w10 ⟨rfl, hb100⟩
    have hb10 := hid (hbs.out.trans (hb100.mono hbs.out.size))
    have R := hid (R.out.below hb10.out)
    have B := hid (B.out.trans (hb10.out.mono B.out.size))
    have ka := hid (ka.out.below_all hb10.out)
    clear hb100 hb10 hbs hnu hne y0 y1 y2
    have y0 := ka.out.cell 0
    have y1 := ka.out.cell 1
    have y2 := ka.out.cell 2
    simp only [List.getElem?_toArray, List.getElem?_cons_zero, List.getElem?_cons_succ] at y0 y1 y2
    go_wp2_with fail
    refine (digits_any a.n va.out.2.1 va.out.2.2 _ (R.out.env)).mono ?_
    rintro e w23 ⟨rfl, hb23⟩
    have R := hid (R.out.below hb23)
    have B := hid (B.out.trans (hb23.mono B.out.size))
    have ka := hid (ka.out.below_all hb23)
    clear hb23 y0 y1 y2
    have y0 := ka.out.cell 0
    have y1 := ka.out.cell 1
    have y2 := ka.out.cell 2
    simp only [List.getElem?_toArray, List.getElem?_cons_zero, List.getElem?_cons_succ] at y0 y1 y2
    go_wp2_with fail
    refine (word2_any (digS a.n) _).mono ?_
    rintro e w24 ⟨rfl, hb24⟩
    have R := hid (R.out.below hb24)
    have B := hid (B.out.trans (hb24.mono B.out.size))
    have ka := hid (ka.out.below_all hb24)
    clear hb24 y0 y1 y2
    have y0 := ka.out.cell 0
    have y1 := ka.out.cell 1
    have y2 := ka.out.cell 2
    simp only [List.getElem?_toArray, List.getElem?_cons_zero, List.getElem?_cons_succ] at y0 y1 y2
    go_wp2_with fail
    refine (push_wrd (digS a.n) R.out (by have := hrl.out; show r.length ≤ 1000; omega)).mono ?_
    rintro e w9 ⟨rfl, hg⟩
    have hg := hid (MGo.comp s1.out s2.out hU.out (hg.pre B.out hSl.out))
    go_wp2_with fail
    refine ⟨rfl, .tuple #[], by simp [results, Tryz.results107, go_sem], ?_⟩
    rw [← hres.out, hr2.out]
    exact ⟨rfl, hg.out⟩
  · have hne : Hid (numsE [a] = .panicked [{ v := .iface 92 (.agg #[.int .i64 72, .int .i64 0]), recovered := false }]) := hid (by unfold numsE; rw [if_neg (by simpa using hk)])
    have hr2 := hid (hr.out.trans (if_neg hk))
    clear hk hr
    go_wp2_with fail
    have hbs := hid ((Below.refl w5.heap.size w5).alloc (Nat.le_refl _) (.cells #[.int .i64 a.k, .int .i64 a.n, .string a.s] 55))
    have hnu := hid (numbers_any (S := fun q => q = w5.heap.size) (A := some ⟨w5.heap.size, 0, none⟩) (c := 1) [a] (w5.alloc (.cells #[.int .i64 a.k, .int .i64 a.n, .string a.s] 55)) (Rd.new w5 55 3 1 #[.int .i64 a.k, .int .i64 a.n, .string a.s] w5.heap.size rfl rfl) (by simp))
    rw [hne.out] at hnu
    refine hnu.out.mono ?_
    rintro e w10 ⟨rfl, hb100⟩
    have hb10 := hid (hbs.out.trans (hb100.mono hbs.out.size))
    have R := hid (R.out.below hb10.out)
    have B := hid (B.out.trans (hb10.out.mono B.out.size))
    have ka := hid (ka.out.below_all hb10.out)
    clear hb100 hb10 hbs hnu hne y0 y1 y2
    go_wp2_with fail
    refine ⟨rfl, ?_⟩
    rw [← hres.out, hr2.out]
    exact ⟨rfl, r, MGo.comp s1.out s2.out hU.out ((R.out.go (Below.refl _ _)).pre B.out hSl.out)⟩
set_option maxRecDepth 100000 in
set_option maxHeartbeats 2000000 in
theorem one26 (a : Vl) (r : List Vl) (h : MAt S w g F m) (hs : m.st = a :: r) (hn : m.st.length ≤ 100) (ho : m.Ok0) : Calls Tryz.prog 107 #[.pointer (some ⟨g, 0, none⟩), .int .i64 26] w (OpPost S w g F m (oneP 26 F.src m a r)) := by
  have va := hid (ho.st a (by rw [hs]; exact List.mem_cons_self ..))
  have hor : Hid (Mc.Ok0 { m with st := r }) := hid (ho.stk fun v hv => ho.st v (by rw [hs]; exact List.mem_cons_of_mem _ hv))
  have hrl : Hid (r.length ≤ 99) := hid (by rw [hs] at hn; simp at hn; omega)
  have hr : Hid (oneP 26 F.src m a r = if a.k = 2 then (if (numR (parseL a.s.data.toList)).2 then .ok { m with st := numVl (numR (parseL a.s.data.toList)).1 :: r } else .error (74, 0)) else .error (72, 0)) := hid rfl
  obtain ⟨res, hres⟩ : ∃ res, Hid (oneP 26 F.src m a r = res) := ⟨_, hid rfl⟩
  rw [hres.out]
  have hp1 := hid (pop_any a r h hs (by have := hrl.out; omega))
  have hlt := hid h.lt
  clear h hs hn ho
  go_enter Tryz.func107, Tryz.ntmps107
  go_wp2_with fail
  refine hp1.out.mono ?_
  rintro e w2 ⟨rfl, S2, hA0, s1, s2, hU⟩
  have hA := hid hA0
  have s1 := hid s1
  have s2 := hid s2
  have hU := hid hU
  clear hp1
  go_upto_region 1 with fail
  have hb5 : Hid (Below w2.heap.size w2 (w2.alloc (.cells #[.int .i64 a.k, .int .i64 a.n, .string a.s] 55))) := hid ((Below.refl _ _).alloc (Nat.le_refl _) _)
  have ka := hid (Blk.new w2 55 #[.int .i64 a.k, .int .i64 a.n, .string a.s])
  have R := hid (hA.out.below hb5.out)
  have hU := hid (hU.out.trans (Upd.of_below' hb5.out (fun _ => False)) fun _ _ e => e.elim)
  clear hA hb5
  generalize w2.alloc (.cells #[.int .i64 a.k, .int .i64 a.n, .string a.s] 55) = w5 at *
  have hsz5 : Hid (w.heap.size ≤ w5.heap.size) := hid hU.out.size
  have hp3 : Hid (∀ q, S2 q → q < w2.heap.size) := hid hA0.lt
  generalize w2.heap.size = p3 at *
  have B := hid (Below.refl w5.heap.size w5)
  clear hA0
  have hSl : Hid (∀ q, S2 q → q < w5.heap.size) := hid R.out.lt
  have y0 := ka.out.cell 0
  have y1 := ka.out.cell 1
  have y2 := ka.out.cell 2
  simp only [List.getElem?_toArray, List.getElem?_cons_zero, List.getElem?_cons_succ] at y0 y1 y2
  by_cases hk : a.k = 2
  · have t0 : (a.k == 2) = true := by simpa using hk
    have hr2 := hid (hr.out.trans (if_pos hk))
    clear hk hr
    have hnb := hid (vnumber_any a.s (by have := isz_le va.out.1; omega) w5 R.out.env)
    generalize numR (parseL a.s.data.toList) = nr at *
    cases hn2 : nr.2 with
    | true =>
      rw [hn2] at hnb
      have hr3 := hid (hr2.out.trans (if_pos hn2))
      clear hn2
      go_wp2_with fail
      refine (needs_t _ _).mono ?_
      rintro e wq ⟨rfl, hwq⟩
      obtain rfl := hwq.symm
      go_wp2_with fail
      refine (hnb.out).mono ?_
      rintro e w25 ⟨rfl, hb25⟩
      have R := hid (R.out.below hb25)
      have B := hid (B.out.trans (hb25.mono B.out.size))
      have ka := hid (ka.out.below_all hb25)
      clear hb25 y0 y1 y2
      have y0 := ka.out.cell 0
      have y1 := ka.out.cell 1
      have y2 := ka.out.cell 2
      simp only [List.getElem?_toArray, List.getElem?_cons_zero, List.getElem?_cons_succ] at y0 y1 y2
      go_wp2_with fail
      refine (needs_t _ _).mono ?_
      rintro e wq ⟨rfl, hwq⟩
      obtain rfl := hwq.symm
      go_wp2_with fail
      refine (iof_any _ _).mono ?_
      rintro e w26 ⟨rfl, hb26⟩
      have R := hid (R.out.below hb26)
      have B := hid (B.out.trans (hb26.mono B.out.size))
      have ka := hid (ka.out.below_all hb26)
      clear hb26 y0 y1 y2
      have y0 := ka.out.cell 0
      have y1 := ka.out.cell 1
      have y2 := ka.out.cell 2
      simp only [List.getElem?_toArray, List.getElem?_cons_zero, List.getElem?_cons_succ] at y0 y1 y2
      go_wp2_with fail
      refine (push_num _ R.out (by have := hrl.out; show r.length ≤ 1000; omega)).mono ?_
      rintro e w9 ⟨rfl, hg⟩
      have hg := hid (MGo.comp s1.out s2.out hU.out (hg.pre B.out hSl.out))
      go_wp2_with fail
      refine ⟨rfl, .tuple #[], by simp [results, Tryz.results107, go_sem], ?_⟩
      rw [← hres.out, hr3.out]
      exact ⟨rfl, hg.out⟩
    | false =>
      rw [hn2] at hnb
      have hr3 := hid (hr2.out.trans (if_neg (by rw [hn2]; decide)))
      clear hn2
      go_wp2_with fail
      refine (needs_t _ _).mono ?_
      rintro e wq ⟨rfl, hwq⟩
      obtain rfl := hwq.symm
      go_wp2_with fail
      refine (hnb.out).mono ?_
      rintro e w27 ⟨rfl, hb27⟩
      have R := hid (R.out.below hb27)
      have B := hid (B.out.trans (hb27.mono B.out.size))
      have ka := hid (ka.out.below_all hb27)
      clear hb27 y0 y1 y2
      have y0 := ka.out.cell 0
      have y1 := ka.out.cell 1
      have y2 := ka.out.cell 2
      simp only [List.getElem?_toArray, List.getElem?_cons_zero, List.getElem?_cons_succ] at y0 y1 y2
      go_wp2_with fail
      refine (needs_f _ _ (by decide)).mono ?_
      rintro e wq ⟨rfl, hwq⟩
      obtain rfl := hwq.symm
      go_wp2_with fail
      refine ⟨rfl, ?_⟩
      rw [← hres.out, hr3.out]
      exact ⟨rfl, r, MGo.comp s1.out s2.out hU.out ((R.out.go (Below.refl _ _)).pre B.out hSl.out)⟩
  · have t0 : (a.k == 2) = false := by simpa using hk
    have hr2 := hid (hr.out.trans (if_neg hk))
    clear hk hr
    go_wp2_with fail
    refine (needs_f _ _ (by decide)).mono ?_
    rintro e wq ⟨rfl, hwq⟩
    obtain rfl := hwq.symm
    go_wp2_with fail
    refine ⟨rfl, ?_⟩
    rw [← hres.out, hr2.out]
    exact ⟨rfl, r, MGo.comp s1.out s2.out hU.out ((R.out.go (Below.refl _ _)).pre B.out hSl.out)⟩
set_option maxRecDepth 100000 in
set_option maxHeartbeats 2000000 in
theorem one27 (a : Vl) (r : List Vl) (h : MAt S w g F m) (hs : m.st = a :: r) (hn : m.st.length ≤ 100) (ho : m.Ok0) : Calls Tryz.prog 107 #[.pointer (some ⟨g, 0, none⟩), .int .i64 27] w (OpPost S w g F m (oneP 27 F.src m a r)) := by
  have va := hid (ho.st a (by rw [hs]; exact List.mem_cons_self ..))
  have hor : Hid (Mc.Ok0 { m with st := r }) := hid (ho.stk fun v hv => ho.st v (by rw [hs]; exact List.mem_cons_of_mem _ hv))
  have hrl : Hid (r.length ≤ 99) := hid (by rw [hs] at hn; simp at hn; omega)
  have hr : Hid (oneP 27 F.src m a r = if a.k = 2 then .ok { m with st := numVl a.s.size :: r } else .error (72, 0)) := hid rfl
  obtain ⟨res, hres⟩ : ∃ res, Hid (oneP 27 F.src m a r = res) := ⟨_, hid rfl⟩
  rw [hres.out]
  have hp1 := hid (pop_any a r h hs (by have := hrl.out; omega))
  have hlt := hid h.lt
  clear h hs hn ho
  go_enter Tryz.func107, Tryz.ntmps107
  go_wp2_with fail
  refine hp1.out.mono ?_
  rintro e w2 ⟨rfl, S2, hA0, s1, s2, hU⟩
  have hA := hid hA0
  have s1 := hid s1
  have s2 := hid s2
  have hU := hid hU
  clear hp1
  go_upto_region 1 with fail
  have hb5 : Hid (Below w2.heap.size w2 (w2.alloc (.cells #[.int .i64 a.k, .int .i64 a.n, .string a.s] 55))) := hid ((Below.refl _ _).alloc (Nat.le_refl _) _)
  have ka := hid (Blk.new w2 55 #[.int .i64 a.k, .int .i64 a.n, .string a.s])
  have R := hid (hA.out.below hb5.out)
  have hU := hid (hU.out.trans (Upd.of_below' hb5.out (fun _ => False)) fun _ _ e => e.elim)
  clear hA hb5
  generalize w2.alloc (.cells #[.int .i64 a.k, .int .i64 a.n, .string a.s] 55) = w5 at *
  have hsz5 : Hid (w.heap.size ≤ w5.heap.size) := hid hU.out.size
  have hp3 : Hid (∀ q, S2 q → q < w2.heap.size) := hid hA0.lt
  generalize w2.heap.size = p3 at *
  have B := hid (Below.refl w5.heap.size w5)
  clear hA0
  have hSl : Hid (∀ q, S2 q → q < w5.heap.size) := hid R.out.lt
  have y0 := ka.out.cell 0
  have y1 := ka.out.cell 1
  have y2 := ka.out.cell 2
  simp only [List.getElem?_toArray, List.getElem?_cons_zero, List.getElem?_cons_succ] at y0 y1 y2
  by_cases hk : a.k = 2
  · have t0 : (a.k == 2) = true := by simpa using hk
    have hr2 := hid (hr.out.trans (if_pos hk))
    clear hk hr
    go_wp2_with fail
    refine (needs_t _ _).mono ?_
    rintro e wq ⟨rfl, hwq⟩
    obtain rfl := hwq.symm
    go_wp2_with fail
    refine (iof_any _ _).mono ?_
    rintro e w28 ⟨rfl, hb28⟩
    have R := hid (R.out.below hb28)
    have B := hid (B.out.trans (hb28.mono B.out.size))
    have ka := hid (ka.out.below_all hb28)
    clear hb28 y0 y1 y2
    have y0 := ka.out.cell 0
    have y1 := ka.out.cell 1
    have y2 := ka.out.cell 2
    simp only [List.getElem?_toArray, List.getElem?_cons_zero, List.getElem?_cons_succ] at y0 y1 y2
    go_wp2_with fail
    refine (push_num _ R.out (by have := hrl.out; show r.length ≤ 1000; omega)).mono ?_
    rintro e w9 ⟨rfl, hg⟩
    have hg := hid (MGo.comp s1.out s2.out hU.out (hg.pre B.out hSl.out))
    go_wp2_with fail
    refine ⟨rfl, .tuple #[], by simp [results, Tryz.results107, go_sem], ?_⟩
    rw [← hres.out, hr2.out]
    exact ⟨rfl, hg.out⟩
  · have t0 : (a.k == 2) = false := by simpa using hk
    have hr2 := hid (hr.out.trans (if_neg hk))
    clear hk hr
    go_wp2_with fail
    refine (needs_f _ _ (by decide)).mono ?_
    rintro e wq ⟨rfl, hwq⟩
    obtain rfl := hwq.symm
    go_wp2_with fail
    refine ⟨rfl, ?_⟩
    rw [← hres.out, hr2.out]
    exact ⟨rfl, r, MGo.comp s1.out s2.out hU.out ((R.out.go (Below.refl _ _)).pre B.out hSl.out)⟩
set_option maxRecDepth 100000 in
set_option maxHeartbeats 2000000 in
theorem one28 (a : Vl) (r : List Vl) (h : MAt S w g F m) (hs : m.st = a :: r) (hn : m.st.length ≤ 100) (ho : m.Ok0) : Calls Tryz.prog 107 #[.pointer (some ⟨g, 0, none⟩), .int .i64 28] w (OpPost S w g F m (oneP 28 F.src m a r)) := by
  have va := hid (ho.st a (by rw [hs]; exact List.mem_cons_self ..))
  have hor : Hid (Mc.Ok0 { m with st := r }) := hid (ho.stk fun v hv => ho.st v (by rw [hs]; exact List.mem_cons_of_mem _ hv))
  have hrl : Hid (r.length ≤ 99) := hid (by rw [hs] at hn; simp at hn; omega)
  have hr : Hid (oneP 28 F.src m a r = .ok { m with st := truV (decide (a.k = 0)) :: r }) := hid rfl
  obtain ⟨res, hres⟩ : ∃ res, Hid (oneP 28 F.src m a r = res) := ⟨_, hid rfl⟩
  rw [hres.out]
  have hp1 := hid (pop_any a r h hs (by have := hrl.out; omega))
  have hlt := hid h.lt
  clear h hs hn ho
  go_enter Tryz.func107, Tryz.ntmps107
  go_wp2_with fail
  refine hp1.out.mono ?_
  rintro e w2 ⟨rfl, S2, hA0, s1, s2, hU⟩
  have hA := hid hA0
  have s1 := hid s1
  have s2 := hid s2
  have hU := hid hU
  clear hp1
  go_upto_region 1 with fail
  have hb5 : Hid (Below w2.heap.size w2 (w2.alloc (.cells #[.int .i64 a.k, .int .i64 a.n, .string a.s] 55))) := hid ((Below.refl _ _).alloc (Nat.le_refl _) _)
  have ka := hid (Blk.new w2 55 #[.int .i64 a.k, .int .i64 a.n, .string a.s])
  have R := hid (hA.out.below hb5.out)
  have hU := hid (hU.out.trans (Upd.of_below' hb5.out (fun _ => False)) fun _ _ e => e.elim)
  clear hA hb5
  generalize w2.alloc (.cells #[.int .i64 a.k, .int .i64 a.n, .string a.s] 55) = w5 at *
  have hsz5 : Hid (w.heap.size ≤ w5.heap.size) := hid hU.out.size
  have hp3 : Hid (∀ q, S2 q → q < w2.heap.size) := hid hA0.lt
  generalize w2.heap.size = p3 at *
  have B := hid (Below.refl w5.heap.size w5)
  clear hA0
  have hSl : Hid (∀ q, S2 q → q < w5.heap.size) := hid R.out.lt
  have y0 := ka.out.cell 0
  have y1 := ka.out.cell 1
  have y2 := ka.out.cell 2
  simp only [List.getElem?_toArray, List.getElem?_cons_zero, List.getElem?_cons_succ] at y0 y1 y2
  by_cases hm : a.k = 0
  · have t1 : (a.k == 0) = true := by simpa using hm
    have hv : Hid (decide (a.k = 0) = true) := hid (decide_eq_true hm)
    clear hm
    go_wp2_with fail
    refine (truth_any true _).mono ?_
    rintro e w29 ⟨rfl, hb29⟩
    have R := hid (R.out.below hb29)
    have B := hid (B.out.trans (hb29.mono B.out.size))
    have ka := hid (ka.out.below_all hb29)
    clear hb29 y0 y1 y2
    have y0 := ka.out.cell 0
    have y1 := ka.out.cell 1
    have y2 := ka.out.cell 2
    simp only [List.getElem?_toArray, List.getElem?_cons_zero, List.getElem?_cons_succ] at y0 y1 y2
    go_wp2_with fail
    refine (push_any (truV true) R.out (by have := hrl.out; show r.length ≤ 1000; omega)).mono ?_
    rintro e w9 ⟨rfl, hg⟩
    have hg := hid (MGo.comp s1.out s2.out hU.out (hg.pre B.out hSl.out))
    go_wp2_with fail
    refine ⟨rfl, .tuple #[], by simp [results, Tryz.results107, go_sem], ?_⟩
    rw [← hres.out, hr.out, hv.out]
    exact ⟨rfl, hg.out⟩
  · have t1 : (a.k == 0) = false := by simpa using hm
    have hv : Hid (decide (a.k = 0) = false) := hid (decide_eq_false hm)
    clear hm
    go_wp2_with fail
    refine (truth_any false _).mono ?_
    rintro e w30 ⟨rfl, hb30⟩
    have R := hid (R.out.below hb30)
    have B := hid (B.out.trans (hb30.mono B.out.size))
    have ka := hid (ka.out.below_all hb30)
    clear hb30 y0 y1 y2
    have y0 := ka.out.cell 0
    have y1 := ka.out.cell 1
    have y2 := ka.out.cell 2
    simp only [List.getElem?_toArray, List.getElem?_cons_zero, List.getElem?_cons_succ] at y0 y1 y2
    go_wp2_with fail
    refine (push_any (truV false) R.out (by have := hrl.out; show r.length ≤ 1000; omega)).mono ?_
    rintro e w9 ⟨rfl, hg⟩
    have hg := hid (MGo.comp s1.out s2.out hU.out (hg.pre B.out hSl.out))
    go_wp2_with fail
    refine ⟨rfl, .tuple #[], by simp [results, Tryz.results107, go_sem], ?_⟩
    rw [← hres.out, hr.out, hv.out]
    exact ⟨rfl, hg.out⟩
set_option maxRecDepth 100000 in
set_option maxHeartbeats 2000000 in
theorem one30 (a : Vl) (r : List Vl) (h : MAt S w g F m) (hs : m.st = a :: r) (hn : m.st.length ≤ 100) (ho : m.Ok0) : Calls Tryz.prog 107 #[.pointer (some ⟨g, 0, none⟩), .int .i64 30] w (OpPost S w g F m (oneP 30 F.src m a r)) := by
  have va := hid (ho.st a (by rw [hs]; exact List.mem_cons_self ..))
  have hor : Hid (Mc.Ok0 { m with st := r }) := hid (ho.stk fun v hv => ho.st v (by rw [hs]; exact List.mem_cons_of_mem _ hv))
  have hrl : Hid (r.length ≤ 99) := hid (by rw [hs] at hn; simp at hn; omega)
  have hr : Hid (oneP 30 F.src m a r = if a.k = 1 then (if 1 ≤ a.n ∧ a.n ≤ 999 then .error (76, a.n) else .error (2, 0)) else .error (72, 0)) := hid rfl
  obtain ⟨res, hres⟩ : ∃ res, Hid (oneP 30 F.src m a r = res) := ⟨_, hid rfl⟩
  rw [hres.out]
  have hp1 := hid (pop_any a r h hs (by have := hrl.out; omega))
  have hlt := hid h.lt
  clear h hs hn ho
  go_enter Tryz.func107, Tryz.ntmps107
  go_wp2_with fail
  refine hp1.out.mono ?_
  rintro e w2 ⟨rfl, S2, hA0, s1, s2, hU⟩
  have hA := hid hA0
  have s1 := hid s1
  have s2 := hid s2
  have hU := hid hU
  clear hp1
  go_upto_region 1 with fail
  have hb5 : Hid (Below w2.heap.size w2 (w2.alloc (.cells #[.int .i64 a.k, .int .i64 a.n, .string a.s] 55))) := hid ((Below.refl _ _).alloc (Nat.le_refl _) _)
  have ka := hid (Blk.new w2 55 #[.int .i64 a.k, .int .i64 a.n, .string a.s])
  have R := hid (hA.out.below hb5.out)
  have hU := hid (hU.out.trans (Upd.of_below' hb5.out (fun _ => False)) fun _ _ e => e.elim)
  clear hA hb5
  generalize w2.alloc (.cells #[.int .i64 a.k, .int .i64 a.n, .string a.s] 55) = w5 at *
  have hsz5 : Hid (w.heap.size ≤ w5.heap.size) := hid hU.out.size
  have hp3 : Hid (∀ q, S2 q → q < w2.heap.size) := hid hA0.lt
  generalize w2.heap.size = p3 at *
  have B := hid (Below.refl w5.heap.size w5)
  clear hA0
  have hSl : Hid (∀ q, S2 q → q < w5.heap.size) := hid R.out.lt
  have y0 := ka.out.cell 0
  have y1 := ka.out.cell 1
  have y2 := ka.out.cell 2
  simp only [List.getElem?_toArray, List.getElem?_cons_zero, List.getElem?_cons_succ] at y0 y1 y2
  by_cases hk : a.k = 1
  · have hne : Hid (numsE [a] = .returned (.tuple #[])) := hid (by unfold numsE; rw [if_pos (by simp [hk])])
    have hr2 := hid (hr.out.trans (if_pos hk))
    clear hk hr
    go_wp2_with fail
    have hbs := hid ((Below.refl w5.heap.size w5).alloc (Nat.le_refl _) (.cells #[.int .i64 a.k, .int .i64 a.n, .string a.s] 55))
    have hnu := hid (numbers_any (S := fun q => q = w5.heap.size) (A := some ⟨w5.heap.size, 0, none⟩) (c := 1) [a] (w5.alloc (.cells #[.int .i64 a.k, .int .i64 a.n, .string a.s] 55)) (Rd.new w5 55 3 1 #[.int .i64 a.k, .int .i64 a.n, .string a.s] w5.heap.size rfl rfl) (by simp))
    rw [hne.out] at hnu
    refine hnu.out.mono ?_
    rintro e w10 ⟨rfl, hb100⟩
    have hb10 := hid (hbs.out.trans (hb100.mono hbs.out.size))
    have R := hid (R.out.below hb10.out)
    have B := hid (B.out.trans (hb10.out.mono B.out.size))
    have ka := hid (ka.out.below_all hb10.out)
    clear hb100 hb10 hbs hnu hne y0 y1 y2
    have y0 := ka.out.cell 0
    have y1 := ka.out.cell 1
    have y2 := ka.out.cell 2
    simp only [List.getElem?_toArray, List.getElem?_cons_zero, List.getElem?_cons_succ] at y0 y1 y2
    by_cases h1 : 1 ≤ a.n
    · have t1 : decide (1 ≤ a.n) = true := decide_eq_true h1
      by_cases h2 : a.n ≤ 999
      · have t2 : decide (a.n ≤ 999) = true := decide_eq_true h2
        have hr3 := hid (hr2.out.trans (if_pos ⟨h1, h2⟩))
        clear h1 h2 hr2
        go_wp2_with fail
        refine (needs_t _ _).mono ?_
        rintro e wq ⟨rfl, hwq⟩
        obtain rfl := hwq.symm
        go_wp2_with fail
        refine ⟨rfl, ?_⟩
        rw [← hres.out, hr3.out]
        exact ⟨rfl, r, MGo.comp s1.out s2.out hU.out ((R.out.go (Below.refl _ _)).pre B.out hSl.out)⟩
      · have t2 : decide (a.n ≤ 999) = false := decide_eq_false h2
        have hr3 := hid (hr2.out.trans (if_neg fun h => h2 h.2))
        clear h1 h2 hr2
        go_wp2_with fail
        refine (needs_f _ _ (by decide)).mono ?_
        rintro e wq ⟨rfl, hwq⟩
        obtain rfl := hwq.symm
        go_wp2_with fail
        refine ⟨rfl, ?_⟩
        rw [← hres.out, hr3.out]
        exact ⟨rfl, r, MGo.comp s1.out s2.out hU.out ((R.out.go (Below.refl _ _)).pre B.out hSl.out)⟩
    · have t1 : decide (1 ≤ a.n) = false := decide_eq_false h1
      have hr3 := hid (hr2.out.trans (if_neg fun h => h1 h.1))
      clear h1 hr2
      go_wp2_with fail
      refine (needs_f _ _ (by decide)).mono ?_
      rintro e wq ⟨rfl, hwq⟩
      obtain rfl := hwq.symm
      go_wp2_with fail
      refine ⟨rfl, ?_⟩
      rw [← hres.out, hr3.out]
      exact ⟨rfl, r, MGo.comp s1.out s2.out hU.out ((R.out.go (Below.refl _ _)).pre B.out hSl.out)⟩
  · have hne : Hid (numsE [a] = .panicked [{ v := .iface 92 (.agg #[.int .i64 72, .int .i64 0]), recovered := false }]) := hid (by unfold numsE; rw [if_neg (by simpa using hk)])
    have hr2 := hid (hr.out.trans (if_neg hk))
    clear hk hr
    go_wp2_with fail
    have hbs := hid ((Below.refl w5.heap.size w5).alloc (Nat.le_refl _) (.cells #[.int .i64 a.k, .int .i64 a.n, .string a.s] 55))
    have hnu := hid (numbers_any (S := fun q => q = w5.heap.size) (A := some ⟨w5.heap.size, 0, none⟩) (c := 1) [a] (w5.alloc (.cells #[.int .i64 a.k, .int .i64 a.n, .string a.s] 55)) (Rd.new w5 55 3 1 #[.int .i64 a.k, .int .i64 a.n, .string a.s] w5.heap.size rfl rfl) (by simp))
    rw [hne.out] at hnu
    refine hnu.out.mono ?_
    rintro e w10 ⟨rfl, hb100⟩
    have hb10 := hid (hbs.out.trans (hb100.mono hbs.out.size))
    have R := hid (R.out.below hb10.out)
    have B := hid (B.out.trans (hb10.out.mono B.out.size))
    have ka := hid (ka.out.below_all hb10.out)
    clear hb100 hb10 hbs hnu hne y0 y1 y2
    go_wp2_with fail
    refine ⟨rfl, ?_⟩
    rw [← hres.out, hr2.out]
    exact ⟨rfl, r, MGo.comp s1.out s2.out hU.out ((R.out.go (Below.refl _ _)).pre B.out hSl.out)⟩
set_option maxRecDepth 100000 in
set_option maxHeartbeats 2000000 in
theorem one29 (a : Vl) (r : List Vl) (h : MAt S w g F m) (hs : m.st = a :: r) (hn : m.st.length ≤ 100) (ho : m.Ok0) : Calls Tryz.prog 107 #[.pointer (some ⟨g, 0, none⟩), .int .i64 29] w (OpPost S w g F m (oneP 29 F.src m a r)) := by
  have va := hid (ho.st a (by rw [hs]; exact List.mem_cons_self ..))
  have hor : Hid (Mc.Ok0 { m with st := r }) := hid (ho.stk fun v hv => ho.st v (by rw [hs]; exact List.mem_cons_of_mem _ hv))
  have hrl : Hid (r.length ≤ 99) := hid (by rw [hs] at hn; simp at hn; omega)
  have hr : Hid (oneP 29 F.src m a r = if a.k = 0 then .error (72, 0) else if 16 ≤ m.out.length then .error (75, 0) else .ok { m with st := r, out := m.out ++ [a] }) := hid rfl
  have hol := hid ho.out.1
  obtain ⟨i0, hi0, hz0, hz1, hz2⟩ := info_parts info_valI
  obtain ⟨res, hres⟩ : ∃ res, Hid (oneP 29 F.src m a r = res) := ⟨_, hid rfl⟩
  rw [hres.out]
  have hp1 := hid (pop_any a r h hs (by have := hrl.out; omega))
  have hlt := hid h.lt
  clear h hs hn ho
  go_enter Tryz.func107, Tryz.ntmps107
  go_wp2_with fail
  refine hp1.out.mono ?_
  rintro e w2 ⟨rfl, S2, hA0, s1, s2, hU⟩
  have hA := hid hA0
  have s1 := hid s1
  have s2 := hid s2
  have hU := hid hU
  clear hp1
  go_upto_region 1 with fail
  have hb5 : Hid (Below w2.heap.size w2 (w2.alloc (.cells #[.int .i64 a.k, .int .i64 a.n, .string a.s] 55))) := hid ((Below.refl _ _).alloc (Nat.le_refl _) _)
  have ka := hid (Blk.new w2 55 #[.int .i64 a.k, .int .i64 a.n, .string a.s])
  have R := hid (hA.out.below hb5.out)
  have hU := hid (hU.out.trans (Upd.of_below' hb5.out (fun _ => False)) fun _ _ e => e.elim)
  clear hA hb5
  generalize w2.alloc (.cells #[.int .i64 a.k, .int .i64 a.n, .string a.s] 55) = w5 at *
  have hsz5 : Hid (w.heap.size ≤ w5.heap.size) := hid hU.out.size
  have hp3 : Hid (∀ q, S2 q → q < w2.heap.size) := hid hA0.lt
  generalize w2.heap.size = p3 at *
  have B := hid (Below.refl w5.heap.size w5)
  clear hA0
  have hSl : Hid (∀ q, S2 q → q < w5.heap.size) := hid R.out.lt
  have y0 := ka.out.cell 0
  have y1 := ka.out.cell 1
  have y2 := ka.out.cell 2
  simp only [List.getElem?_toArray, List.getElem?_cons_zero, List.getElem?_cons_succ] at y0 y1 y2
  by_cases hk : a.k = 0
  · have t0 : (a.k != 0) = false := by simpa using hk
    have hr2 := hid (hr.out.trans (if_pos hk))
    clear hk hr
    go_wp2_with fail
    refine (needs_f _ _ (by decide)).mono ?_
    rintro e wq ⟨rfl, hwq⟩
    obtain rfl := hwq.symm
    go_wp2_with fail
    refine ⟨rfl, ?_⟩
    rw [← hres.out, hr2.out]
    exact ⟨rfl, r, MGo.comp s1.out s2.out hU.out ((R.out.go (Below.refl _ _)).pre B.out hSl.out)⟩
  · have t0 : (a.k != 0) = true := by simpa using hk
    have hr2 := hid (hr.out.trans (if_neg hk))
    clear hk hr
    obtain ⟨ad, hIn0, hads0⟩ := R.out
    have hIn := hid hIn0
    have hads := hid hads0
    have x9 : w5.cell? ⟨g, 9, none⟩ = some (.slice ad.A3 m.out.length ad.c3) := hIn0.blk.cell 9
    clear hIn0 hads0
    by_cases hl : 16 ≤ m.out.length
    · have t1 : decide ((m.out.length : Int) < 16) = false := decide_eq_false (by omega)
      have t1n : decide (m.out.length < 16) = false := decide_eq_false (by omega)
      have hr4 := hid (hr2.out.trans (if_pos hl))
      clear hl hr2
      go_wp2_with fail
      refine (needs_t _ _).mono ?_
      rintro e wq ⟨rfl, hwq⟩
      obtain rfl := hwq.symm
      go_wp2_with fail
      refine (needs_f _ _ (by decide)).mono ?_
      rintro e wq ⟨rfl, hwq⟩
      obtain rfl := hwq.symm
      go_wp2_with fail
      refine ⟨rfl, ?_⟩
      rw [← hres.out, hr4.out]
      exact ⟨rfl, r, MGo.comp s1.out s2.out hU.out ((R.out.go (Below.refl _ _)).pre B.out hSl.out)⟩
    · have t1 : decide ((m.out.length : Int) < 16) = true := decide_eq_true (by omega)
      have t1n : decide (m.out.length < 16) = true := decide_eq_true (by omega)
      have hr4 := hid (hr2.out.trans (if_neg hl))
      have hnn : Hid (m.out.length ≤ 16) := hol
      clear hl hr2
      have hgo : Hid (¬ (Value.slice ad.A3 m.out.length ad.c3).ownBlock = some g) := hid fun e => by
        obtain ⟨cur, hc⟩ := own_blk hIn.out.out e
        exact absurd (blk_ty hc hIn.out.blk) (by decide)
      have hbo : Hid (¬ (Value.slice ad.A3 m.out.length ad.c3).ownBlock = some p3) := hid fun e => by
        have := hp3.out _ (hIn.out.out.2 _ e)
        omega
      have hkeep : Hid (∀ w', Upd (fun q => (Value.slice ad.A3 m.out.length ad.c3).ownBlock = some q) w5 w' → w'.cell? ⟨g, 9, none⟩ = some (.slice ad.A3 m.out.length ad.c3) ∧ w'.cell? ⟨p3, 0, none⟩ = some (.int .i64 a.k) ∧ w'.cell? ⟨p3, 1, none⟩ = some (.int .i64 a.n) ∧ w'.cell? ⟨p3, 2, none⟩ = some (.string a.s)) := hid fun w' hu => ⟨(hIn.out.blk.upd hu hgo.out).cell 9, (ka.out.upd hu hbo.out).cell 0, (ka.out.upd hu hbo.out).cell 1, (ka.out.upd hu hbo.out).cell 2⟩
      go_wp2_with fail
      refine (needs_t _ _).mono ?_
      rintro e wq ⟨rfl, hwq⟩
      obtain rfl := hwq.symm
      go_wp2_with fail
      refine (needs_t _ _).mono ?_
      rintro e wq ⟨rfl, hwq⟩
      obtain rfl := hwq.symm
      go_upto_region 30 with fail
      have hHeld : w5.drew.cell? ⟨g, 9, none⟩ = some (.slice ad.A3 m.out.length ad.c3) ∧ w5.drew.cell? ⟨p3, 0, none⟩ = some (.int .i64 a.k) ∧ w5.drew.cell? ⟨p3, 1, none⟩ = some (.int .i64 a.n) ∧ w5.drew.cell? ⟨p3, 2, none⟩ = some (.string a.s) := ⟨hIn.out.blk.drew.cell 9, ka.out.drew.cell 0, ka.out.drew.cell 1, ka.out.drew.cell 2⟩
      refine wp_region_heldE (S := fun w' => w'.cell? ⟨g, 9, none⟩ = some (.slice ad.A3 m.out.length ad.c3) ∧ w'.cell? ⟨p3, 0, none⟩ = some (.int .i64 a.k) ∧ w'.cell? ⟨p3, 1, none⟩ = some (.int .i64 a.n) ∧ w'.cell? ⟨p3, 2, none⟩ = some (.string a.s)) 10 (by kernel_rfl) ?_
      refine wpAnyE_take [8, 9, 10] (i := 0) (v := ?v9) rfl (by kernel_rfl) (by kernel_rfl) (by kernel_rfl) (by rfl) (by kernel_rfl) (by kernel_rfl) (fun _ _ _ h => h) (Or.inl ⟨by rfl, ?hy9⟩) (hHeld) ?rest9
      case hy9 => intro w hSw; (try dsimp only at hSw); go_simp; try with_reducible rfl
      (try simp only [Act.put, List.setIfInBounds_toArray, List.set_cons_zero, List.set_cons_succ, List.getElem_toArray, List.getElem_cons_zero, List.getElem_cons_succ])
      refine wpAnyE_take [2, 3, 4, 7, 8, 9, 10] (i := 1) (v := ?v10) rfl (by kernel_rfl) (by kernel_rfl) (by kernel_rfl) (by rfl) (by kernel_rfl) (by kernel_rfl) (fun _ _ _ h => h) (Or.inl ⟨by rfl, ?hy10⟩) (hHeld) ?rest10
      case hy10 => intro w hSw; (try dsimp only at hSw); go_simp; try with_reducible rfl
      (try simp only [Act.put, List.setIfInBounds_toArray, List.set_cons_zero, List.set_cons_succ, List.getElem_toArray, List.getElem_cons_zero, List.getElem_cons_succ])
      refine wpAnyE_take [3, 4, 7, 8, 9, 10] (i := 2) (v := ?v11) rfl (by kernel_rfl) (by kernel_rfl) (by kernel_rfl) (by rfl) (by kernel_rfl) (by kernel_rfl) (fun _ _ _ h => h) (Or.inl ⟨by rfl, ?hy11⟩) (hHeld) ?rest11
      case hy11 => intro w hSw; (try dsimp only at hSw); go_simp; try with_reducible rfl
      (try simp only [Act.put, List.setIfInBounds_toArray, List.set_cons_zero, List.set_cons_succ, List.getElem_toArray, List.getElem_cons_zero, List.getElem_cons_succ])
      refine wpAnyE_take [4, 7, 8, 9, 10] (i := 3) (v := ?v12) rfl (by kernel_rfl) (by kernel_rfl) (by kernel_rfl) (by rfl) (by kernel_rfl) (by kernel_rfl) (fun _ _ _ h => h) (Or.inl ⟨by rfl, ?hy12⟩) (hHeld) ?rest12
      case hy12 => intro w hSw; (try dsimp only at hSw); go_simp; try with_reducible rfl
      (try simp only [Act.put, List.setIfInBounds_toArray, List.set_cons_zero, List.set_cons_succ, List.getElem_toArray, List.getElem_cons_zero, List.getElem_cons_succ])
      refine wpAnyE_take [7, 8, 9, 10] (i := 4) (v := ?v13) rfl (by kernel_rfl) (by kernel_rfl) (by kernel_rfl) (by rfl) (by kernel_rfl) (by kernel_rfl) (fun _ _ _ h => h) (Or.inl ⟨by rfl, ?hy13⟩) (hHeld) ?rest13
      case hy13 => intro w hSw; (try dsimp only at hSw); go_simp; try with_reducible rfl
      (try simp only [Act.put, List.setIfInBounds_toArray, List.set_cons_zero, List.set_cons_succ, List.getElem_toArray, List.getElem_cons_zero, List.getElem_cons_succ])
      refine wpAnyE_take [6, 7, 8, 9, 10] (i := 5) (v := ?v14) rfl (by kernel_rfl) (by kernel_rfl) (by kernel_rfl) (by rfl) (by kernel_rfl) (by kernel_rfl) (fun _ _ _ h => h) (Or.inl ⟨by rfl, ?hy14⟩) (hHeld) ?rest14
      case hy14 => intro w hSw; (try dsimp only at hSw); go_simp; try with_reducible rfl
      (try simp only [Act.put, List.setIfInBounds_toArray, List.set_cons_zero, List.set_cons_succ, List.getElem_toArray, List.getElem_cons_zero, List.getElem_cons_succ])
      refine wpAnyE_ready (rs := [6]) (by kernel_rfl) (by simp) ?_
      refine AllReadyE.cons rfl (fun K hK => ?_) AllReadyE.nil
      go_simp
      refine hK.out _ _ (fun _ => ⟨(hIn.out.blk.drew.alloc _).cell 9, (ka.out.drew.alloc _).cell 0, (ka.out.drew.alloc _).cell 1, (ka.out.drew.alloc _).cell 2⟩) ?_
      clear hK K
      (try simp only [Act.put, List.setIfInBounds_toArray, List.set_cons_zero, List.set_cons_succ, List.getElem_toArray, List.getElem_cons_zero, List.getElem_cons_succ])
      refine wpAnyE_ready (rs := [7]) (by kernel_rfl) (by simp) ?_
      refine AllReadyE.cons rfl (fun K hK => ?_) AllReadyE.nil
      refine step_append_rd _ rfl (.tmp 127) (.tmp 129) 23 rfl 0 55 i0 _ 3 32 Tryz.underlying23 hi0 hz0 hz1 hz2 rfl (by omega) (.slice ad.A3 m.out.length ad.c3) m.out.length (vcells m.out) rfl ?_ (fun q => q = w5.heap.size) (some ⟨w5.heap.size, 0, none⟩) 1 1 #[.int .i64 a.k, .int .i64 a.n, .string a.s].toList rfl ?_ ?_ ?_ ?_ ?_ (m.out.length + 1) rfl (vcells m.out ++ #[.int .i64 a.k, .int .i64 a.n, .string a.s].toList) rfl ?_
      · exact (hIn.out.out.1.drew).alloc _
      · exact Rd.new w5.drew 55 3 1 #[.int .i64 a.k, .int .i64 a.n, .string a.s] w5.heap.size rfl rfl
      · intro v hv; simp at hv; (first | (rcases hv with rfl | rfl | rfl <;> rfl) | (rcases hv with rfl; rfl))
      · have := hnn.out; simp only [maxLen]; omega
      · have := hnn.out; omega
      · exact Nat.zero_le _
      intro A3 c3 w3 hown3 hg3 hat3
      have hu9 : Hid (Upd (fun q => (Value.slice ad.A3 m.out.length ad.c3).ownBlock = some q) w5 w3) := hid (((Upd.refl _ w5).drew.alloc _).grown hg3 fun q hq _ => hq)
      have hO3 := hid hown3
      have hat9 : Hid ((Value.slice A3 (m.out.length + 1) c3).ownBlock = (Value.slice ad.A3 m.out.length ad.c3).ownBlock ∨ ∃ k, w5.heap.size ≤ k ∧ (Value.slice A3 (m.out.length + 1) c3).ownBlock = some k) := hid (by
        rcases hat3 with e | e
        · exact .inl e
        · exact .inr ⟨_, by simp, e⟩)
      clear hg3 hat3 hown3
      have r4 : w3.cell? ⟨g, 9, none⟩ = some (.slice ad.A3 m.out.length ad.c3) ∧ w3.cell? ⟨p3, 0, none⟩ = some (.int .i64 a.k) ∧ w3.cell? ⟨p3, 1, none⟩ = some (.int .i64 a.n) ∧ w3.cell? ⟨p3, 2, none⟩ = some (.string a.s) := hkeep.out _ hu9.out
      have q4 : w3.frozen? ⟨g, 9, none⟩ = false := (hIn.out.blk.upd hu9.out hgo.out).frozen 9
      have r7 := r4.1
      refine hK.out _ _ (fun _ => r4) ?_
      clear hK K
      (try simp only [Act.put, List.setIfInBounds_toArray, List.set_cons_zero, List.set_cons_succ, List.getElem_toArray, List.getElem_cons_zero, List.getElem_cons_succ])
      refine wpAnyE_take [9, 10] (i := 8) (v := ?v15) rfl (by kernel_rfl) (by kernel_rfl) (by kernel_rfl) (by rfl) (by kernel_rfl) (by kernel_rfl) (fun _ _ _ h => h) (Or.inl ⟨by rfl, ?hy15⟩) (r4) ?rest15
      case hy15 => intro w hSw; (try dsimp only at hSw); go_simp; try with_reducible rfl
      (try simp only [Act.put, List.setIfInBounds_toArray, List.set_cons_zero, List.set_cons_succ, List.getElem_toArray, List.getElem_cons_zero, List.getElem_cons_succ])
      refine wpAnyE_take [10] (i := 9) (v := ?v16) rfl (by kernel_rfl) (by kernel_rfl) (by kernel_rfl) (by rfl) (by kernel_rfl) (by kernel_rfl) (fun _ _ _ h => h) (Or.inl ⟨by rfl, ?hy16⟩) (r4) ?rest16
      case hy16 => intro w hSw; (try dsimp only at hSw); go_simp; try with_reducible rfl
      (try simp only [Act.put, List.setIfInBounds_toArray, List.set_cons_zero, List.set_cons_succ, List.getElem_toArray, List.getElem_cons_zero, List.getElem_cons_succ])
      refine wpAnyE_ready (rs := [10]) (by kernel_rfl) (by simp) ?_
      refine AllReadyE.cons rfl (fun K hK => ?_) AllReadyE.nil
      go_simp
      refine hK.out _ _ (fun h => absurd rfl h) ?_
      clear hK K
      (try simp only [Act.put, List.setIfInBounds_toArray, List.set_cons_zero, List.set_cons_succ, List.getElem_toArray, List.getElem_cons_zero, List.getElem_cons_succ])
      refine wpAnyE_done (by kernel_rfl) ?_ _
      go_wp2_with fail
      refine ⟨rfl, .tuple #[], by simp [results, Tryz.results107, go_sem], ?_⟩
      rw [← hres.out, hr4.out]
      obtain ⟨S', h1, h2, h3, h4⟩ := hIn.out.emitted (v := a) (Below.refl _ _) hu9.out hO3.out hat9.out (Upd.refl _ _)
      exact ⟨rfl, MGo.comp s1.out s2.out hU.out ⟨S', ⟨_, h1, hads.out⟩, h2, h3, h4⟩⟩
theorem one_any (op : Int) (hop : op = 12 ∨ op = 15 ∨ op = 20 ∨ op = 21 ∨ op = 23 ∨ op = 25 ∨ op = 26 ∨ op = 27 ∨ op = 28 ∨ op = 29 ∨ op = 30) (a : Vl) (r : List Vl) (h : MAt S w g F m) (hs : m.st = a :: r) (hn : m.st.length ≤ 100) (ho : m.Ok0) (hsrc : ∀ x ∈ F.src, x.2.s.size ≤ 9223372036854775806) (hsl : F.src.length ≤ 1000000) : Calls Tryz.prog 107 #[.pointer (some ⟨g, 0, none⟩), .int .i64 op] w (OpPost S w g F m (oneP op F.src m a r)) := by
  rcases hop with rfl | rfl | rfl | rfl | rfl | rfl | rfl | rfl | rfl | rfl | rfl
  · exact one12 a r h hs hn ho
  · exact one15 a r h hs hn ho
  · exact one20 a r h hs hn ho hsrc hsl
  · exact one21 a r h hs hn ho hsrc hsl
  · exact one23 a r h hs hn ho
  · exact one25 a r h hs hn ho
  · exact one26 a r h hs hn ho
  · exact one27 a r h hs hn ho
  · exact one28 a r h hs hn ho
  · exact one29 a r h hs hn ho
  · exact one30 a r h hs hn ho
end
end Go.Proofs.YtdmogoaaecdbaaaGreatDoor

