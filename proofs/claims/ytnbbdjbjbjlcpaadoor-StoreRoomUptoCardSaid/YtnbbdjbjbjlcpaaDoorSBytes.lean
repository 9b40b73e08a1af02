/- store: Bytes. -/
import Derived.Test.YtnbbdjbjbjlcpaaDoorSKeys
import Derived.Test.YtnbbdjbjbjlcpaaDoorSPrint
import Derived.Test.YtnbbdjbjbjlcpaaDoorSBytesP
namespace Go.Proofs.YtnbbdjbjbjlcpaaDoor
open Go.RowKit
set_option linter.unusedVariables false
set_option linter.unusedSimpArgs false

/-- a number's text -/
def dg (n : Int) : ByteArray := ⟨(Lib.itoa n).toArray⟩
theorem dg_size {n : Int} (h0 : -9223372036854775808 ≤ n) (h1 : n ≤ 9223372036854775807) : (dg n).size ≤ 21 := by
  have := Lib.itoa_length_le n h0 h1
  unfold dg ByteArray.size
  simpa using this
theorem digits_dg (n : Int) (h0 : -9223372036854775808 ≤ n) (h1 : n ≤ 9223372036854775807) (w : World) (he : Env w) :
    Calls Tryd.prog 26 #[.int .i64 n] w fun e w' => e = .returned (.string (dg n)) ∧ Below w.heap.size w w' := digits_any n h0 h1 w he
theorem isBuf_below {T e : TypeId} {B b : Nat} {bs : List Value} {w w' : World} (h : Lib.IsBuffer T e B b bs w) (hb : Below w.heap.size w w') : Lib.IsBuffer T e B b bs w' := by
  have hlt := h.lt
  obtain ⟨hB, v, lr, hbk, hown, hne⟩ := h
  exact ⟨hB, v, lr, (hb.block b hlt).trans hbk, own_updB hown (Upd.of_below' hb (fun _ => False)) (fun _ _ _ h => h), hne⟩
theorem byteCells_one (l : List UInt8) : ∀ v ∈ Lib.byteCells l, v.oneCell' = true := by
  intro v hv
  obtain ⟨x, _, rfl⟩ := List.mem_map.1 hv
  rfl
theorem head_text (s : St) : (dg s.parts ++ ⟨#[10]⟩ ++ dg s.room ++ ⟨#[10]⟩ : ByteArray).data.toList = headL s := by
  simp [dg, headL, ByteArray.data_append]
/-- a value's text -/
def pt (v : Vl) : ByteArray := ⟨(printL v).toArray⟩
theorem pt_size {v : Vl} (hok : v.ok = true) (hr : v.rng) : (pt v).size ≤ 200 := by
  have := print_len hok hr
  unfold pt ByteArray.size
  simpa using this
theorem line_text (x : Kv) : (x.1 ++ ⟨#[32]⟩ ++ pt x.2 ++ ⟨#[10]⟩ : ByteArray).data.toList = lineL x := by
  simp [pt, lineL, ByteArray.data_append]
theorem own_others {w w' : World} {base b : Nat} {t u : TypeId} {size n : Nat} {v : Value} {xs : List Value} (h : w.ownsRow base t size v n xs) (hk : Lib.OthersKept u (some b) w w') (hb : b < base) (ht : t ≠ u) : w'.ownsRow base t size v n xs := by
  refine ⟨h.1, ?_⟩
  rcases h.2 with hn | ⟨g, cap, cur, rfl, hg, hh, rest⟩
  · exact .inl hn
  · exact .inr ⟨g, cap, cur, rfl, hg, hk g _ hh (fun e => by injection e with e; omega) (fun c fz e => by injection e with _ e; exact ht e), rest⟩
theorem others_below {u : TypeId} {b : Option Nat} {w w' : World} (h : Below w.heap.size w w') : Lib.OthersKept u b w w' := fun k o hk _ _ => (h.block k (Array.getElem?_eq_some_iff.1 hk).1).trans hk
section
variable {S : Nat → Prop} {w : World} {g : Nat} {s : St}
set_option maxRecDepth 100000 in
theorem parts_any (h : PAt S w g s) : Calls Tryd.prog 17 #[.pointer (some ⟨g, 0, none⟩)] w fun e w' => e = .returned (.int .i64 s.parts) ∧ w' = w := by
  obtain ⟨cb, cc, mb, vb, h⟩ := h
  have c1 := h.cells.2.1
  clear h
  go_enter Tryd.func17, Tryd.ntmps17
  go_wp2_with fail
  go_ret
  exact ⟨rfl, rfl⟩
set_option maxRecDepth 100000 in
set_option maxHeartbeats 4000000 in
theorem bytes_any (h : PAt S w g s) (he : Env w) (hr : ∀ x ∈ s.L, x.2.rng) : Calls Tryd.prog 10 #[.pointer (some ⟨g, 0, none⟩)] w fun e w' => ∃ v, e = .returned v ∧ w'.ownsRow w.heap.size 5 1 v (bytesS s).length (Lib.byteCells (bytesS s)) ∧ Below w.heap.size w w' := by
  have HP := hid h
  have HE := hid he
  have HR := hid hr
  have hB0 : Hid (Below w.heap.size w (w.alloc (.cells #[.slice none 0 0, .int .i64 0, .int .i8 0] 68))) := hid ((Below.refl _ _).alloc (Nat.le_refl _) _)
  have hI0 := hid (Lib.fresh_isBuffer 68 5 w)
  clear h he hr
  go_enter Tryd.func10, Tryd.ntmps10
  go_upto_region 4 with fail
  generalize w.alloc (.cells #[.slice none 0 0, .int .i64 0, .int .i8 0] 68) = w1 at *
  have hkeep := hid (show ∀ W, Below w1.heap.size w1 W → W.cell? ⟨g, 0, none⟩ = some (.int .i64 s.room) from fun W hb => by
    obtain ⟨cb, cc, mb, vb, h⟩ := HP.out.below (hB0.out.trans (hb.mono hB0.out.size))
    exact h.cells.1)
  have hkw := hid (show ∀ W, Below w.heap.size w W → W.cell? ⟨g, 0, none⟩ = some (.int .i64 s.room) from fun W hb => by
    obtain ⟨cb, cc, mb, vb, h⟩ := HP.out.below hb
    exact h.cells.1)
  have hkP := hid (show ∀ W, Below w1.heap.size w1 W → PAt S W g s from fun W hb => HP.out.below (hB0.out.trans (hb.mono hB0.out.size)))
  have hkE := hid (show ∀ W, Below w1.heap.size w1 W → Env W from fun W hb => HE.out.below (hB0.out.trans (hb.mono hB0.out.size)))
  have hpr := hid (show (0 : Int) ≤ s.parts ∧ (s.parts : Int) ≤ 64 by have := HP.out.ok.parts; omega)
  have hrr := hid (show (0 : Int) ≤ s.room ∧ (s.room : Int) ≤ 4096 by have := HP.out.ok.room; omega)
  have z1 : (dg s.parts).size ≤ 21 := dg_size (by omega) (by have := hpr.out; omega)
  have z2 : (dg s.room).size ≤ 21 := dg_size (by omega) (by have := hrr.out; omega)
  have z3 : ByteArray.size ⟨#[10]⟩ = 1 := rfl
  have hs1 : ∀ W, (Op.stringOp .add (dg s.parts) ⟨#[10]⟩).run Tryd.prog W = .ok (.string (dg s.parts ++ ⟨#[10]⟩)) W := fun W => run_string_add_sum W _ _ (by omega)
  have hs2 : ∀ W, (Op.stringOp .add (dg s.parts ++ ⟨#[10]⟩) (dg s.room)).run Tryd.prog W = .ok (.string (dg s.parts ++ ⟨#[10]⟩ ++ dg s.room)) W := fun W => run_string_add_sum W _ _ (by simp only [ByteArray.size_append]; omega)
  have hs3 : ∀ W, (Op.stringOp .add (dg s.parts ++ ⟨#[10]⟩ ++ dg s.room) ⟨#[10]⟩).run Tryd.prog W = .ok (.string (dg s.parts ++ ⟨#[10]⟩ ++ dg s.room ++ ⟨#[10]⟩)) W := fun W => run_string_add_sum W _ _ (by simp only [ByteArray.size_append]; omega)
  go_cut [] (fun wx => Lib.IsBuffer 68 5 w.heap.size w.heap.size (Lib.byteCells (headL s)) wx ∧ Below w.heap.size w wx)
  case first =>
    have hbX : Hid (Below w1.heap.size w1 w1.drew) := hid (Below.refl _ _).drew
    go_region_held3 (fun W => W.cell? ⟨g, 0, none⟩ = some (.int .i64 s.room)) (first | exact hkw.out _ hbY.out | exact hkeep.out _ hbX.out | exact hkeep.out _ hbX.out.drew)
      (first
        | (go_at_call 17; refine (parts_any (hkP.out _ hbX.out)).mono ?_; rintro e wb ⟨rfl, hwq⟩; obtain rfl := hwq.symm)
        | (go_at_call 26; refine (digits_dg _ (by have := hpr.out; have := hrr.out; omega) (by have := hpr.out; have := hrr.out; omega) _ (hkE.out _ hbX.out)).mono ?_; rintro e wb ⟨rfl, hbb⟩; have hbX : Hid (Below w1.heap.size w1 wb) := hid (hbX.out.trans (hbb.mono hbX.out.size)); clear hbb)
        | (go_at_call 25; refine (Buffer_WriteString_k w.heap.size w.heap.size [] _ _ (isBuf_below hI0.out hbX.out) (hB0.out.trans (hbX.out.mono hB0.out.size)).size (by simp) (by simp only [List.length_nil, ByteArray.size_append, z3]; omega)).mono ?_; rintro e wb ⟨rfl, hIb0, hbb, _⟩; have hIb := hid hIb0; have hbY : Hid (Below w.heap.size w wb) := hid ((hB0.out.trans (hbX.out.mono hB0.out.size)).trans hbb); clear hbb hIb0))
    all_goals go_wp2_with fail
    all_goals go_meet
    all_goals exact ⟨by have h := hIb.out; rw [head_text] at h; simpa using h, hbY.out⟩
  case rest =>
    obtain ⟨hI1, hB1⟩ := hcut
    have HI := hid hI1
    have HB := hid hB1
    have hks := hid (keys_any (HP.out.below hB1))
    clear hI1 hB1 hs1 hs2 hs3 z1 z2 hkeep hkw hkP hkE hB0 hI0
    go_wp2_with fail
    refine hks.out.mono ?_
    rintro e wk ⟨A, c, rfl, hown0, hbk⟩
    have hO := hid hown0
    have hI2 := hid (isBuf_below HI.out hbk)
    have hB2 := hid (HB.out.trans (hbk.mono HB.out.size))
    have hbl := hid (HI.out.lt)
    have hln := hid (bytesTo_len (s := s) (fun x hx => line_len (HP.out.ok.key x hx) (HP.out.ok.val x hx) (HR.out x hx)) (head_len (by have := HP.out.ok.parts; omega) (by have := HP.out.ok.room; omega)) HP.out.ok.len)
    clear hown0 hbk HI HB hks
    generalize hlL : s.L.length = n at *
    have hnn : (n : Int) ≤ 262144 := by have := HP.out.ok.len; omega
    go_wp2_with fail
    go_loopw [25] (fun v wr => ∃ i : Nat, v = .int .i64 i ∧ i ≤ n ∧ Lib.IsBuffer 68 5 w.heap.size w.heap.size (Lib.byteCells (bytesTo s i)) wr ∧ Below w.heap.size w wr ∧ Lib.OthersKept 5 (some w.heap.size) wk wr) (fun v _ => n - (intOf v).toNat)
    case atStart => exact ⟨0, rfl, Nat.zero_le _, by rw [bytesTo_zero]; exact hI2.out, hB2.out, .refl _ _ _⟩
    case round =>
      obtain ⟨i, rfl, hi, hI0, hB0, hK0⟩ := hrel
      have hI := hid hI0
      have hB := hid hB0
      have hK := hid hK0
      by_cases hlt : i < n
      · have i1 : (i : Int) < (n : Int) := by omega
        have hlt' : i < s.L.length := by omega
        obtain ⟨x, hx⟩ : ∃ x, x = s.L[i] := ⟨_, rfl⟩
        have hmem : x ∈ s.L := by rw [hx]; exact List.getElem_mem hlt'
        have hOr := own_others hO.out hK0 hbl.out (by decide)
        obtain ⟨b, o, rfl, _, _, y0⟩ := rd_strs (ks := s.L.map (·.1)) (i := i) (by rw [List.length_map, hlL]; exact Rd.of_own' hOr) (by simpa using hlt')
        rw [show (s.L.map (·.1))[i]'(by simpa using hlt') = x.1 by simp [hx]] at y0
        obtain ⟨cb, cc, mb, vb, hin⟩ := HP.out.below hB0
        have c2 := hin.cells.2.2
        have hget := hin.get x.1
        rw [valK_mem HP.out.ok.asc hmem] at hget
        have hvk := hid (HP.out.ok.key x hmem)
        have hvo := hid (HP.out.ok.val x hmem)
        have hvr := hid (HR.out x hmem)
        have hstep := hid (bytesTo_step s hlt')
        have hxx := hid hx
        have hpr9 := hid (print_any x.2 wr (by
          rcases ok_forms hvo.out with e | ⟨_, e⟩ | ⟨_, _, e, _⟩
          · rw [e]; decide
          · rw [e]; decide
          · omega) hvr.out (HE.out.below hB0))
        clear hx hI0 hB0 hK0 hOr hin hmem
        go_wp2_with fail
        refine hpr9.out.mono ?_
        rintro e wq ⟨rfl, hbq⟩
        rw [show (⟨(printL x.2).toArray⟩ : ByteArray) = pt x.2 from rfl]
        have hIq := hid (isBuf_below hI.out hbq)
        have hBq := hid (hB.out.trans (hbq.mono hB.out.size))
        have hKq := hid (hK.out.trans (others_below hbq))
        have z1 : x.1.size ≤ 32 := by have := hvk.out; unfold validK at this; simp at this; omega
        have z2 : (pt x.2).size ≤ 200 := pt_size hvo.out hvr.out
        have z3 : ByteArray.size ⟨#[10]⟩ = 1 := rfl
        have z4 : ByteArray.size ⟨#[32]⟩ = 1 := rfl
        have hsz := hid (show (x.1 ++ ⟨#[32]⟩ ++ pt x.2 ++ ⟨#[10]⟩ : ByteArray).size ≤ 1000 by simp only [ByteArray.size_append]; omega)
        have hs1 : ∀ W, (Op.stringOp .add x.1 ⟨#[32]⟩).run Tryd.prog W = .ok (.string (x.1 ++ ⟨#[32]⟩)) W := fun W => run_string_add_sum W _ _ (by omega)
        have hs2 : ∀ W, (Op.stringOp .add (x.1 ++ ⟨#[32]⟩) (pt x.2)).run Tryd.prog W = .ok (.string (x.1 ++ ⟨#[32]⟩ ++ pt x.2)) W := fun W => run_string_add_sum W _ _ (by simp only [ByteArray.size_append]; omega)
        have hs3 : ∀ W, (Op.stringOp .add (x.1 ++ ⟨#[32]⟩ ++ pt x.2) ⟨#[10]⟩).run Tryd.prog W = .ok (.string (x.1 ++ ⟨#[32]⟩ ++ pt x.2 ++ ⟨#[10]⟩)) W := fun W => run_string_add_sum W _ _ (by simp only [ByteArray.size_append]; omega)
        clear hbq z1 z2 z3 z4 y0 c2 hget hI hB hK hpr9
        go_wp2_with fail
        refine (Buffer_WriteString_k w.heap.size w.heap.size _ _ _ hIq.out hBq.out.size (byteCells_one _) (by have h1 := hln.out i; have h2 := hsz.out; rw [Lib.byteCells_length]; omega)).mono ?_
        rintro e wb ⟨rfl, hIb0, hbb, hkb⟩
        have hfin : Hid (∃ i' : Nat, Value.int .i64 ((i : Int) + 1) = .int .i64 i' ∧ i' ≤ n ∧ Lib.IsBuffer 68 5 w.heap.size w.heap.size (Lib.byteCells (bytesTo s i')) wb ∧ Below w.heap.size w wb ∧ Lib.OthersKept 5 (some w.heap.size) wk wb) := hid ⟨i + 1, by simp, hlt, by rw [hstep.out, Lib.byteCells_append, ← hxx.out, ← line_text]; exact hIb0, hBq.out.trans hbb, hKq.out.trans hkb⟩
        have hj : IntKind.i64.wrap ((i : Int) + 1) = (i : Int) + 1 := by rw [IntKind.wrap_i64]; omega
        clear hIb0 hbb hkb hIq hBq hKq hs1 hs2 hs3
        go_wp2_with fail
        go_roundw
        case rel => exact hfin.out
        case measure => simp [intOf]; omega
      · obtain rfl : i = n := by omega
        have hby := Buffer_Bytes w.heap.size w.heap.size _ wr hI.out
        rw [← hlL, bytesTo_all] at hby
        have hby := hid hby
        clear hlt hI0 hB0 hK0
        go_wp2_with fail
        refine hby.out.mono ?_
        rintro e w9 ⟨v, rfl, hov, q, rfl⟩
        have hfin : Hid ((wr.drewN q).ownsRow w.heap.size 5 1 v (bytesS s).length (Lib.byteCells (bytesS s)) ∧ Below w.heap.size w (wr.drewN q)) := hid ⟨by rw [Lib.byteCells_length] at hov; exact hov, below_drewN hB.out q⟩
        clear hov hby
        go_wp2_with fail
        go_ret
        exact ⟨v, rfl, hfin.out.1, hfin.out.2⟩
end
end Go.Proofs.YtnbbdjbjbjlcpaaDoor
