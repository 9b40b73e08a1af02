/- value: Number, in the program and in the document. -/
import Derived.Test.YtbnpidmlcjofiaaDoorJ12
namespace Go.Proofs.YtbnpidmlcjofiaaDoor
open Go.RowKit
set_option linter.unusedVariables false
set_option linter.unusedSimpArgs false

theorem scan_form2 : ∀ (n : Nat) (r : List UInt8) (i : Nat) (out : List UInt8), r.length ≤ n → (scanL r i out).e = 0 ∨ (scanL r i out).v = vl0 := by
  intro n
  induction n with
  | zero => intro r i out hr; obtain rfl := List.eq_nil_of_length_eq_zero (by omega : r.length = 0); right; rfl
  | succ n ih =>
    intro r i out hr
    cases r with
    | nil => right; rfl
    | cons c r =>
      by_cases h4 : c = 92
      · subst h4
        cases r with
        | nil => rw [scan_b1]; split <;> exact .inr rfl
        | cons d r' =>
          rw [scan_b2]
          split
          · exact .inr rfl
          · split
            · exact ih _ _ _ (by simp at hr; omega)
            · exact .inr rfl
      · rw [scan_c h4]
        split
        · split
          · exact .inl rfl
          · exact .inr rfl
        · split
          · exact .inr rfl
          · split
            · exact .inr rfl
            · exact ih _ _ _ (by simpa using hr)
theorem want_form : ∀ (q r : List UInt8) (i : Nat), (wantL r q i).v = vl0
  | [], [], _ => rfl
  | [], _ :: _, _ => rfl
  | _ :: _, [], _ => rfl
  | d :: q, c :: r, i => by
    unfold wantL
    split
    · exact want_form q r _
    · rfl
theorem numE_form (neg : Bool) (ds : List UInt8) (len : Nat) : (numE neg ds len).e = 0 ∨ (numE neg ds len).v = vl0 := by
  unfold numE
  simp only
  repeat' split
  all_goals first | exact .inr rfl | exact .inl rfl
theorem parse_form (s : List UInt8) : (parseL s).e = 0 ∨ (parseL s).v = vl0 := by
  cases s with
  | nil => exact .inr rfl
  | cons c r =>
    simp only [parseL]
    split
    · exact scan_form2 _ _ _ _ (Nat.le_refl _)
    · split
      · exact numE_form _ _ _
      · exact .inr (want_form _ _ _)
/-- what Number gives -/
def numR (p : Pz) : Int × Bool := (p.v.n, decide (p.e = 0 ∧ p.v.k = 1))
theorem numR_zero (s : List UInt8) (h : ¬ ((parseL s).e = 0 ∧ (parseL s).v.k = 1)) : numR (parseL s) = (0, false) := by
  unfold numR
  rw [decide_eq_false h]
  rcases parse_form s with he | hv
  · obtain ⟨v, e1, e2, e3, _⟩ := parse_good he
    rw [e1] at h ⊢
    rcases ok_forms e2 with rfl | ⟨h1, _⟩ | ⟨_, h2, _⟩
    · rfl
    · exact absurd ⟨rfl, h1⟩ h
    · show (v.n, false) = _; rw [h2]
  · rw [hv]; rfl

set_option maxRecDepth 100000 in
set_option maxHeartbeats 1000000 in
theorem number_any (s : ByteArray) (hs : s.size ≤ 140737488351232) (w : World) (he : Env w) : Calls Tryd.prog 30 #[.string s] w fun e w' => e = .returned (.tuple #[.int .i64 (numR (parseL s.data.toList)).1, .bool (numR (parseL s.data.toList)).2]) ∧ Below w.heap.size w w' := by
  have hk := parse_any s w hs he
  have hzr := numR_zero s.data.toList
  generalize parseL s.data.toList = p at *
  have hk := hid hk
  clear he hs
  clear hzr
  by_cases h0 : p.e = 0
  · have t1 : (p.e == 0) = true := by simpa using h0
    have hn : Hid (numR p = (p.v.n, (p.v.k == 1))) := hid (by unfold numR; congr 1; rw [Bool.eq_iff_iff]; simp [h0])
    clear h0
    go_enter Tryd.func30, Tryd.ntmps30
    go_wp2_with fail
    refine hk.out.mono ?_
    rintro e w1 ⟨rfl, hb10⟩
    have hb1 := hid hb10
    clear hb10 hk
    go_upto_region 2 with fail
    have kv := hid (Blk.new w1 24 #[.int .i64 p.v.k, .int .i64 p.v.n, .string p.v.s])
    have hB2 : Below w1.heap.size w1 (w1.alloc (.cells #[.int .i64 p.v.k, .int .i64 p.v.n, .string p.v.s] 24)) := (Below.refl _ _).alloc (Nat.le_refl _) _
    have hb2 := hid (hb1.out.trans (hB2.mono hb1.out.size))
    have x0 : (w1.alloc (.cells #[.int .i64 p.v.k, .int .i64 p.v.n, .string p.v.s] 24)).cell? ⟨w1.heap.size, 0, none⟩ = some (.int .i64 p.v.k) := kv.out.cell 0
    have x1 : (w1.alloc (.cells #[.int .i64 p.v.k, .int .i64 p.v.n, .string p.v.s] 24)).cell? ⟨w1.heap.size, 1, none⟩ = some (.int .i64 p.v.n) := kv.out.cell 1
    obtain ⟨g, hg⟩ : ∃ g, g = w1.heap.size := ⟨_, rfl⟩
    rw [← hg] at x0 x1
    generalize w1.alloc (.cells #[.int .i64 p.v.k, .int .i64 p.v.n, .string p.v.s] 24) = w2 at *
    simp only [← hg]
    clear hB2 hb1 hg kv
    go_quiet (fail)
    go_wp2_with fail
    refine bodyPost_ret (v := .tuple #[.int .i64 (p.v.n), .bool (p.v.k == 1)]) (by simp [results, Tryd.results30, go_sem]) rfl ⟨?_, ⟨hb2.out.os, hb2.out.tape, hb2.out.output, hb2.out.size, hb2.out.block⟩⟩
    rw [hn.out]
  · have t1 : (p.e == 0) = false := by simpa using h0
    have hn : Hid (numR p = (p.v.n, false)) := hid (by unfold numR; congr 1; exact decide_eq_false (fun e => h0 e.1))
    clear h0
    go_enter Tryd.func30, Tryd.ntmps30
    go_wp2_with fail
    refine hk.out.mono ?_
    rintro e w1 ⟨rfl, hb10⟩
    have hb1 := hid hb10
    clear hb10 hk
    go_upto_region 2 with fail
    have kv := hid (Blk.new w1 24 #[.int .i64 p.v.k, .int .i64 p.v.n, .string p.v.s])
    have hB2 : Below w1.heap.size w1 (w1.alloc (.cells #[.int .i64 p.v.k, .int .i64 p.v.n, .string p.v.s] 24)) := (Below.refl _ _).alloc (Nat.le_refl _) _
    have hb2 := hid (hb1.out.trans (hB2.mono hb1.out.size))
    have x0 : (w1.alloc (.cells #[.int .i64 p.v.k, .int .i64 p.v.n, .string p.v.s] 24)).cell? ⟨w1.heap.size, 0, none⟩ = some (.int .i64 p.v.k) := kv.out.cell 0
    have x1 : (w1.alloc (.cells #[.int .i64 p.v.k, .int .i64 p.v.n, .string p.v.s] 24)).cell? ⟨w1.heap.size, 1, none⟩ = some (.int .i64 p.v.n) := kv.out.cell 1
    obtain ⟨g, hg⟩ : ∃ g, g = w1.heap.size := ⟨_, rfl⟩
    rw [← hg] at x0 x1
    generalize w1.alloc (.cells #[.int .i64 p.v.k, .int .i64 p.v.n, .string p.v.s] 24) = w2 at *
    simp only [← hg]
    clear hB2 hb1 hg kv
    go_quiet (fail)
    go_wp2_with fail
    refine bodyPost_ret (v := .tuple #[.int .i64 (p.v.n), .bool false]) (by simp [results, Tryd.results30, go_sem]) rfl ⟨?_, ⟨hb2.out.os, hb2.out.tape, hb2.out.output, hb2.out.size, hb2.out.block⟩⟩
    rw [hn.out]

set_option maxRecDepth 100000 in
set_option maxHeartbeats 1000000 in
theorem rnumber_any2 (s : ByteArray) (hs : s.size ≤ 140737488351232) (w : World) (he : Env w) : Calls Tryd.prog 31 #[.string s] w fun e w' => e = .returned (.tuple #[.int .i64 (numR (parseL s.data.toList)).1, .bool (numR (parseL s.data.toList)).2]) ∧ Below w.heap.size w w' := by
  have hk := rparse_any s w hs he
  have hzr := numR_zero s.data.toList
  generalize parseL s.data.toList = p at *
  have hk := hid hk
  clear he hs
  by_cases h0 : p.e = 0
  · have t1 : (p.e != 0) = false := by simpa using h0
    by_cases h1 : p.v.k = 1
    · have t2 : (p.v.k != 1) = false := by simpa using h1
      have hn : Hid (numR p = (p.v.n, true)) := hid (by unfold numR; congr 1; exact decide_eq_true ⟨h0, h1⟩)
      clear h0 h1 hzr
      go_enter Tryd.func31, Tryd.ntmps31
      go_wp2_with fail
      refine hk.out.mono ?_
      rintro e w1 ⟨rfl, hb10⟩
      have hb1 := hid hb10
      clear hb10 hk
      go_upto_region 2 with fail
      have kv := hid (Blk.new w1 24 #[.int .i64 p.v.k, .int .i64 p.v.n, .string p.v.s])
      have hB2 : Below w1.heap.size w1 (w1.alloc (.cells #[.int .i64 p.v.k, .int .i64 p.v.n, .string p.v.s] 24)) := (Below.refl _ _).alloc (Nat.le_refl _) _
      have hb2 := hid (hb1.out.trans (hB2.mono hb1.out.size))
      have x0 : (w1.alloc (.cells #[.int .i64 p.v.k, .int .i64 p.v.n, .string p.v.s] 24)).cell? ⟨w1.heap.size, 0, none⟩ = some (.int .i64 p.v.k) := kv.out.cell 0
      have x1 : (w1.alloc (.cells #[.int .i64 p.v.k, .int .i64 p.v.n, .string p.v.s] 24)).cell? ⟨w1.heap.size, 1, none⟩ = some (.int .i64 p.v.n) := kv.out.cell 1
      obtain ⟨g, hg⟩ : ∃ g, g = w1.heap.size := ⟨_, rfl⟩
      rw [← hg] at x0 x1
      generalize w1.alloc (.cells #[.int .i64 p.v.k, .int .i64 p.v.n, .string p.v.s] 24) = w2 at *
      simp only [← hg]
      clear hB2 hb1 hg kv
      go_wp2_with fail
      refine bodyPost_ret (v := .tuple #[.int .i64 (p.v.n), .bool true]) (by simp [results, Tryd.results31, go_sem]) rfl ⟨?_, hb2.out⟩
      rw [hn.out]
    · have t2 : (p.v.k != 1) = true := by simpa using h1
      have hn : Hid (numR p = (0, false)) := hid (hzr fun e => h1 e.2)
      clear h0 h1 hzr
      go_enter Tryd.func31, Tryd.ntmps31
      go_wp2_with fail
      refine hk.out.mono ?_
      rintro e w1 ⟨rfl, hb10⟩
      have hb1 := hid hb10
      clear hb10 hk
      go_upto_region 2 with fail
      have kv := hid (Blk.new w1 24 #[.int .i64 p.v.k, .int .i64 p.v.n, .string p.v.s])
      have hB2 : Below w1.heap.size w1 (w1.alloc (.cells #[.int .i64 p.v.k, .int .i64 p.v.n, .string p.v.s] 24)) := (Below.refl _ _).alloc (Nat.le_refl _) _
      have hb2 := hid (hb1.out.trans (hB2.mono hb1.out.size))
      have x0 : (w1.alloc (.cells #[.int .i64 p.v.k, .int .i64 p.v.n, .string p.v.s] 24)).cell? ⟨w1.heap.size, 0, none⟩ = some (.int .i64 p.v.k) := kv.out.cell 0
      have x1 : (w1.alloc (.cells #[.int .i64 p.v.k, .int .i64 p.v.n, .string p.v.s] 24)).cell? ⟨w1.heap.size, 1, none⟩ = some (.int .i64 p.v.n) := kv.out.cell 1
      obtain ⟨g, hg⟩ : ∃ g, g = w1.heap.size := ⟨_, rfl⟩
      rw [← hg] at x0 x1
      generalize w1.alloc (.cells #[.int .i64 p.v.k, .int .i64 p.v.n, .string p.v.s] 24) = w2 at *
      simp only [← hg]
      clear hB2 hb1 hg kv
      go_wp2_with fail
      refine bodyPost_ret (v := .tuple #[.int .i64 (0), .bool false]) (by simp [results, Tryd.results31, go_sem]) rfl ⟨?_, hb2.out⟩
      rw [hn.out]
  · have t1 : (p.e != 0) = true := by simpa using h0
    have hn : Hid (numR p = (0, false)) := hid (hzr fun e => h0 e.1)
    clear h0 hzr
    go_enter Tryd.func31, Tryd.ntmps31
    go_wp2_with fail
    refine hk.out.mono ?_
    rintro e w1 ⟨rfl, hb10⟩
    have hb1 := hid hb10
    clear hb10 hk
    go_upto_region 2 with fail
    have kv := hid (Blk.new w1 24 #[.int .i64 p.v.k, .int .i64 p.v.n, .string p.v.s])
    have hB2 : Below w1.heap.size w1 (w1.alloc (.cells #[.int .i64 p.v.k, .int .i64 p.v.n, .string p.v.s] 24)) := (Below.refl _ _).alloc (Nat.le_refl _) _
    have hb2 := hid (hb1.out.trans (hB2.mono hb1.out.size))
    have x0 : (w1.alloc (.cells #[.int .i64 p.v.k, .int .i64 p.v.n, .string p.v.s] 24)).cell? ⟨w1.heap.size, 0, none⟩ = some (.int .i64 p.v.k) := kv.out.cell 0
    have x1 : (w1.alloc (.cells #[.int .i64 p.v.k, .int .i64 p.v.n, .string p.v.s] 24)).cell? ⟨w1.heap.size, 1, none⟩ = some (.int .i64 p.v.n) := kv.out.cell 1
    obtain ⟨g, hg⟩ : ∃ g, g = w1.heap.size := ⟨_, rfl⟩
    rw [← hg] at x0 x1
    generalize w1.alloc (.cells #[.int .i64 p.v.k, .int .i64 p.v.n, .string p.v.s] 24) = w2 at *
    simp only [← hg]
    clear hB2 hb1 hg kv
    go_wp2_with fail
    refine bodyPost_ret (v := .tuple #[.int .i64 (0), .bool false]) (by simp [results, Tryd.results31, go_sem]) rfl ⟨?_, hb2.out⟩
    rw [hn.out]

end Go.Proofs.YtbnpidmlcjofiaaDoor
