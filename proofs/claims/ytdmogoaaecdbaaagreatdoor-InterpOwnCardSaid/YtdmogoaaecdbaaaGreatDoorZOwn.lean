/- InterpOwn: the walk. -/
import Derived.Test.YtdmogoaaecdbaaaGreatDoorJ21
namespace Go.Proofs.YtdmogoaaecdbaaaGreatDoor
open Go.RowKit
set_option linter.unusedVariables false
set_option linter.unusedSimpArgs false

section
variable {S : Nat → Prop} {w : World} {key : ByteArray} {v : Vl} {l : List Kv} {Al : Option Addr} {cl : Nat}
set_option maxRecDepth 100000 in
set_option maxHeartbeats 4000000 in
theorem ownI_any (hs0 : Rd S w 4 Al l.length (srcCells l)) (hkz0 : key.size ≤ 9223372036854775806) (hvz0 : v.s.size ≤ 9223372036854775806) (hvr0 : v.rng) (hlr0 : ∀ x ∈ l, x.2.rng) (hlz0 : ∀ x ∈ l, x.2.s.size ≤ 9223372036854775806) (he0 : Env w) : Calls Tryz.prog 10 #[.string key, .agg #[.int .i64 v.k, .int .i64 v.n, .string v.s], .slice Al l.length cl] w fun e w' => e = .returned (.bool true) ∧ Below w.heap.size w w' := by
  have he := hid he0
  have hB0 : Below w.heap.size w (w.alloc (.cells #[.int .i64 v.k, .int .i64 v.n, .string v.s] 55)) := (Below.refl _ _).alloc (Nat.le_refl _) _
  have kv := hid (Blk.new w 55 #[.int .i64 v.k, .int .i64 v.n, .string v.s])
  have hB := hid hB0
  have hrl := hid (hs0.all.below_all hB0)
  have hkz := hid hkz0
  have hvz := hid hvz0
  have hlr := hid hlr0
  have hvr := hid hvr0
  have hlz := hid hlz0
  clear hB0 hs0 hkz0 hvz0 hvr0 hlr0 hlz0 he0
  go_enter Tryz.func10, Tryz.ntmps10
  go_upto_region 1 with fail
  generalize w.alloc (.cells #[.int .i64 v.k, .int .i64 v.n, .string v.s] 55) = w1 at *
  have x0 : w1.cell? ⟨w.heap.size, 0, none⟩ = some (.int .i64 v.k) := kv.out.cell 0
  have x1 : w1.cell? ⟨w.heap.size, 1, none⟩ = some (.int .i64 v.n) := kv.out.cell 1
  have x2 : w1.cell? ⟨w.heap.size, 2, none⟩ = some (.string v.s) := kv.out.cell 2
  by_cases h1 : 300 < l.length
  · have t1 : decide ((300 : Int) < (l.length : Int)) = true := decide_eq_true (by omega)
    have t1n : decide (300 < l.length) = true := decide_eq_true h1
    clear h1
    go_wp2_with fail
    refine (liveI_any _ (he.out.below hB.out)).mono ?_
    rintro e wd ⟨rfl, hb0⟩
    have hB := hid (hB.out.trans (hb0.mono hB.out.size))
    clear hb0
    go_wp2_with fail
    go_ret
    exact ⟨rfl, hB.out⟩
  have t1 : decide ((300 : Int) < (l.length : Int)) = false := decide_eq_false (by omega)
  have t1n : decide (300 < l.length) = false := decide_eq_false h1
  have hll := hid (show l.length ≤ 300 by omega)
  clear h1
  have hvk := hid (fun W => rvalidk_any key W hkz.out)
  go_wp2_with fail
  refine (hvk.out _).mono ?_
  rintro e wq ⟨rfl, hwq⟩
  obtain rfl := hwq.symm
  cases hk0 : validK key with
  | false =>
    clear hk0
    go_wp2_with fail
    refine (liveI_any _ (he.out.below hB.out)).mono ?_
    rintro e wd ⟨rfl, hb0⟩
    have hB := hid (hB.out.trans (hb0.mono hB.out.size))
    clear hb0
    go_wp2_with fail
    go_ret
    exact ⟨rfl, hB.out⟩
  | true =>
  have hk := hid hk0
  clear hk0
  go_wp2_with fail
  refine (rvalid_any v _ hvz.out).mono ?_
  rintro e w9 ⟨rfl, hb0⟩
  have hB := hid (hB.out.trans (hb0.mono hB.out.size))
  have kv := hid (kv.out.below_all hb0)
  have hrl := hid (hrl.out.below_all hb0)
  clear x0 x1 x2 hb0
  rename World => w1
  have x0 : w1.cell? ⟨w.heap.size, 0, none⟩ = some (.int .i64 v.k) := kv.out.cell 0
  have x1 : w1.cell? ⟨w.heap.size, 1, none⟩ = some (.int .i64 v.n) := kv.out.cell 1
  have x2 : w1.cell? ⟨w.heap.size, 2, none⟩ = some (.string v.s) := kv.out.cell 2
  cases ho0 : v.ok with
  | false =>
    clear ho0
    go_wp2_with fail
    refine (liveI_any _ (he.out.below hB.out)).mono ?_
    rintro e wd ⟨rfl, hb0⟩
    have hB := hid (hB.out.trans (hb0.mono hB.out.size))
    clear hb0
    go_wp2_with fail
    go_ret
    exact ⟨rfl, hB.out⟩
  | true =>
  have ho := hid ho0
  clear ho0
  by_cases h0 : v.k = 0
  · have t2 : (v.k == 0) = true := by simpa using h0
    clear h0
    go_wp2_with fail
    refine (liveI_any _ (he.out.below hB.out)).mono ?_
    rintro e wd ⟨rfl, hb0⟩
    have hB := hid (hB.out.trans (hb0.mono hB.out.size))
    clear hb0
    go_wp2_with fail
    go_ret
    exact ⟨rfl, hB.out⟩
  have t2 : (v.k == 0) = false := by simpa using h0
  have hv0 := hid h0
  clear h0
  go_upto_region 3 with fail
  have t1 := t1
  clear t1 t1n t2
  go_upto_region 4 with fail
  have hn1 := hid (show w.heap.size < w1.heap.size from kv.out.lt)
  have hb9 : Below w1.heap.size w1 (((w1.alloc (.cells #[.int .i64 2, .int .i64 0, .string key, .int .i64 v.k, .int .i64 v.n, .string v.s] 55)).alloc (.cells #[.int .i64 1, .int .i64 0, .int .i64 1, .int .i64 1, .int .i64 22, .int .i64 0, .int .i64 1, .int .i64 0, .int .i64 20, .int .i64 0, .int .i64 29, .int .i64 0, .int .i64 1, .int .i64 0, .int .i64 23, .int .i64 0, .int .i64 1, .int .i64 0, .int .i64 20, .int .i64 0, .int .i64 28, .int .i64 0, .int .i64 29, .int .i64 0, .int .i64 31, .int .i64 0] 69)).alloc (.cells #[.int .i64 0, .slice (some ⟨w1.heap.size, 0, none⟩) 2 2, .slice (some ⟨w1.heap.size + 1, 0, none⟩) 13 13] 33)) := (((Below.refl _ _).alloc (Nat.le_refl _) _).alloc (by simp) _).alloc (by simp; omega) _
  have h32 := hid (((Blk.new w1 _ _).alloc (.cells #[.int .i64 1, .int .i64 0, .int .i64 1, .int .i64 1, .int .i64 22, .int .i64 0, .int .i64 1, .int .i64 0, .int .i64 20, .int .i64 0, .int .i64 29, .int .i64 0, .int .i64 1, .int .i64 0, .int .i64 23, .int .i64 0, .int .i64 1, .int .i64 0, .int .i64 20, .int .i64 0, .int .i64 28, .int .i64 0, .int .i64 29, .int .i64 0, .int .i64 31, .int .i64 0] 69)).alloc (.cells #[.int .i64 0, .slice (some ⟨w1.heap.size, 0, none⟩) 2 2, .slice (some ⟨w1.heap.size + 1, 0, none⟩) 13 13] 33) : Blk (((w1.alloc (.cells #[.int .i64 2, .int .i64 0, .string key, .int .i64 v.k, .int .i64 v.n, .string v.s] 55)).alloc (.cells #[.int .i64 1, .int .i64 0, .int .i64 1, .int .i64 1, .int .i64 22, .int .i64 0, .int .i64 1, .int .i64 0, .int .i64 20, .int .i64 0, .int .i64 29, .int .i64 0, .int .i64 1, .int .i64 0, .int .i64 23, .int .i64 0, .int .i64 1, .int .i64 0, .int .i64 20, .int .i64 0, .int .i64 28, .int .i64 0, .int .i64 29, .int .i64 0, .int .i64 31, .int .i64 0] 69)).alloc (.cells #[.int .i64 0, .slice (some ⟨w1.heap.size, 0, none⟩) 2 2, .slice (some ⟨w1.heap.size + 1, 0, none⟩) 13 13] 33)) w1.heap.size _ #[.int .i64 2, .int .i64 0, .string key, .int .i64 v.k, .int .i64 v.n, .string v.s])
  have h46 := hid ((Blk.new' (w1.alloc (.cells #[.int .i64 2, .int .i64 0, .string key, .int .i64 v.k, .int .i64 v.n, .string v.s] 55)) _ _ (by simp)).alloc (.cells #[.int .i64 0, .slice (some ⟨w1.heap.size, 0, none⟩) 2 2, .slice (some ⟨w1.heap.size + 1, 0, none⟩) 13 13] 33) : Blk (((w1.alloc (.cells #[.int .i64 2, .int .i64 0, .string key, .int .i64 v.k, .int .i64 v.n, .string v.s] 55)).alloc (.cells #[.int .i64 1, .int .i64 0, .int .i64 1, .int .i64 1, .int .i64 22, .int .i64 0, .int .i64 1, .int .i64 0, .int .i64 20, .int .i64 0, .int .i64 29, .int .i64 0, .int .i64 1, .int .i64 0, .int .i64 23, .int .i64 0, .int .i64 1, .int .i64 0, .int .i64 20, .int .i64 0, .int .i64 28, .int .i64 0, .int .i64 29, .int .i64 0, .int .i64 31, .int .i64 0] 69)).alloc (.cells #[.int .i64 0, .slice (some ⟨w1.heap.size, 0, none⟩) 2 2, .slice (some ⟨w1.heap.size + 1, 0, none⟩) 13 13] 33)) (w1.heap.size + 1) _ #[.int .i64 1, .int .i64 0, .int .i64 1, .int .i64 1, .int .i64 22, .int .i64 0, .int .i64 1, .int .i64 0, .int .i64 20, .int .i64 0, .int .i64 29, .int .i64 0, .int .i64 1, .int .i64 0, .int .i64 23, .int .i64 0, .int .i64 1, .int .i64 0, .int .i64 20, .int .i64 0, .int .i64 28, .int .i64 0, .int .i64 29, .int .i64 0, .int .i64 31, .int .i64 0])
  have kp := hid (Blk.new' ((w1.alloc (.cells #[.int .i64 2, .int .i64 0, .string key, .int .i64 v.k, .int .i64 v.n, .string v.s] 55)).alloc (.cells #[.int .i64 1, .int .i64 0, .int .i64 1, .int .i64 1, .int .i64 22, .int .i64 0, .int .i64 1, .int .i64 0, .int .i64 20, .int .i64 0, .int .i64 29, .int .i64 0, .int .i64 1, .int .i64 0, .int .i64 23, .int .i64 0, .int .i64 1, .int .i64 0, .int .i64 20, .int .i64 0, .int .i64 28, .int .i64 0, .int .i64 29, .int .i64 0, .int .i64 31, .int .i64 0] 69)) _ _ (by simp) : Blk (((w1.alloc (.cells #[.int .i64 2, .int .i64 0, .string key, .int .i64 v.k, .int .i64 v.n, .string v.s] 55)).alloc (.cells #[.int .i64 1, .int .i64 0, .int .i64 1, .int .i64 1, .int .i64 22, .int .i64 0, .int .i64 1, .int .i64 0, .int .i64 20, .int .i64 0, .int .i64 29, .int .i64 0, .int .i64 1, .int .i64 0, .int .i64 23, .int .i64 0, .int .i64 1, .int .i64 0, .int .i64 20, .int .i64 0, .int .i64 28, .int .i64 0, .int .i64 29, .int .i64 0, .int .i64 31, .int .i64 0] 69)).alloc (.cells #[.int .i64 0, .slice (some ⟨w1.heap.size, 0, none⟩) 2 2, .slice (some ⟨w1.heap.size + 1, 0, none⟩) 13 13] 33)) (w1.heap.size + 2) _ #[.int .i64 0, .slice (some ⟨w1.heap.size, 0, none⟩) 2 2, .slice (some ⟨w1.heap.size + 1, 0, none⟩) 13 13])
  have hB := hid (hB.out.trans (hb9.mono hB.out.size))
  have kv := hid (kv.out.below_all hb9)
  have hrl := hid (hrl.out.below_all hb9)
  clear hb9 x0 x1 x2
  generalize (((w1.alloc (.cells #[.int .i64 2, .int .i64 0, .string key, .int .i64 v.k, .int .i64 v.n, .string v.s] 55)).alloc (.cells #[.int .i64 1, .int .i64 0, .int .i64 1, .int .i64 1, .int .i64 22, .int .i64 0, .int .i64 1, .int .i64 0, .int .i64 20, .int .i64 0, .int .i64 29, .int .i64 0, .int .i64 1, .int .i64 0, .int .i64 23, .int .i64 0, .int .i64 1, .int .i64 0, .int .i64 20, .int .i64 0, .int .i64 28, .int .i64 0, .int .i64 29, .int .i64 0, .int .i64 31, .int .i64 0] 69)).alloc (.cells #[.int .i64 0, .slice (some ⟨w1.heap.size, 0, none⟩) 2 2, .slice (some ⟨w1.heap.size + 1, 0, none⟩) 13 13] 33)) = w2 at *
  generalize w1.heap.size = m at *
  have hkl := hid (show m + 2 < w2.heap.size from kp.out.lt)
  obtain ⟨il, hil, hil0, hil1, hil2⟩ := info_parts info_itmI
  go_upto_region 5 with (
    at_builtin
    refine wpList_copy_rd w2 rfl (.tmp 48) (.tmp 49) 34 rfl 63 il _ 4 48 Tryz.underlying34 hil hil0 hil1 hil2 rfl (by omega) _ rfl rfl _ Al l.length cl (srcCells l) rfl hrl.out (srcCells_one l) (by have := hll.out; simp only [maxLen]; omega) (by have := hll.out; omega) ?_
    intro Bl dl wa hown0 hba0
    have hown := hid hown0
    have hba := hid hba0
    clear hown0 hba0)
  have ksb := hid (Blk.new wa 50 #[.slice Bl l.length dl, .slice none 0 0])
  have hb9 : Below w2.heap.size w2 (wa.alloc (.cells #[.slice Bl l.length dl, .slice none 0 0] 50)) := hba.out.alloc hba.out.size _
  have osrc := hid (own_below hown.out ((Below.refl _ _).alloc (Nat.le_refl _) (.cells #[.slice Bl l.length dl, .slice none 0 0] 50)))
  have h32 := hid (h32.out.below_all hb9)
  have h46 := hid (h46.out.below_all hb9)
  have kp := hid (kp.out.below_all hb9)
  have kv := hid (kv.out.below_all hb9)
  have hB := hid (hB.out.trans (hb9.mono hB.out.size))
  have hsb := hid (show m + 2 < wa.heap.size from Nat.lt_of_lt_of_le hkl.out hba.out.size)
  clear hb9 hown hba hrl
  generalize wa.alloc (.cells #[.slice Bl l.length dl, .slice none 0 0] 50) = w3 at *
  generalize wa.heap.size = sb at *
  have hr := hid (run_all (w := w3) (F := ⟨ownPr key v, [], l, some ⟨m, 0, none⟩, 2, some ⟨m + 1, 0, none⟩, 13, none, 0, Bl, dl, sb⟩) 100 ⟨⟨(Rd.blk h32.out (size := 3) (n := 2) rfl).more fun q hq hl => ⟨hl, by have := hsb.out; show q ≠ sb; omega⟩, (Rd.blk h46.out (size := 2) (n := 13) rfl).more fun q hq hl => ⟨hl, by have := hsb.out; show q ≠ sb; omega⟩, fun x hx => by
      rcases List.mem_cons.1 hx with rfl | hx
      · exact hkz.out
      · rw [List.mem_singleton.1 hx]; exact hvz.out, by show (2 : Nat) ≤ _ ∧ (13 : Nat) ≤ _; omega⟩, Rd.nil_, Rd.away osrc.out ksb.out (by decide), ksb.out, fun W hW => he.out.below (hB.out.trans (hW.below hB.out.size fun q hq e => by have e : q = sb := e; have := hsb.out; have := hn1.out; omega))⟩ (by show 0 ≤ _; omega) (fun x hx => by cases hx) (fun x hx => by
      rcases List.mem_cons.1 hx with rfl | hx
      · show (-9223372036854775808 : Int) ≤ 0 ∧ (0 : Int) ≤ 9223372036854775807; decide
      · rw [List.mem_singleton.1 hx]; exact hvr.out) (fun x hx => by cases hx) hlr.out hlz.out (by have := hll.out; show l.length ≤ _; omega))
  have y0 : w3.cell? ⟨m + 2, 0, none⟩ = some (.int .i64 0) := kp.out.cell 0
  have y1 : w3.cell? ⟨m + 2, 1, none⟩ = some (.slice (some ⟨m, 0, none⟩) 2 2) := kp.out.cell 1
  have y2 : w3.cell? ⟨m + 2, 2, none⟩ = some (.slice (some ⟨m + 1, 0, none⟩) 13 13) := kp.out.cell 2
  go_wp2_with fail
  refine hr.out.mono ?_
  rintro e wb ⟨x, rfl, hoc, hask, hu0⟩
  have hor := own_run (v := v) l hk.out ho.out hv0.out
  replace hoc : OcV w3.heap.size wb x (runO (ownPr key v) [] l true 100) := hoc
  replace hask : AskV w3.heap.size wb _ (askO (ownPr key v) [] l true 100) := hask
  rw [hor.1] at hoc
  rw [hor.2] at hask
  unfold ownO at hoc
  obtain ⟨A1, c1, A2, c2, A3, c3, A4, c4, rfl, r1, r2, r3, r4⟩ := hoc
  obtain ⟨A5, c5, k5, _⟩ := hask
  have hb9 : Below wb.heap.size wb (wb.alloc (.cells #[.int .i64 0, .int .i64 12, .int .i64 0, .slice A1 2 c1, .slice A2 1 c2, .slice A3 0 c3, .slice A4 1 c4, .int .i64 87] 29)) := (Below.refl _ _).alloc (Nat.le_refl _) _
  have ko := hid (Blk.new wb 29 #[.int .i64 0, .int .i64 12, .int .i64 0, .slice A1 2 c1, .slice A2 1 c2, .slice A3 0 c3, .slice A4 1 c4, .int .i64 87])
  have r1 := hid (own_below r1 hb9)
  have r2 := hid (own_below r2 hb9)
  have k5 := hid (k5.below_all hb9)
  have kv := hid ((kv.out.upd hu0 (fun e => by have e : w.heap.size = sb := e; have := hsb.out; have := hn1.out; omega)).below_all hb9)
  have hB := hid ((hB.out.trans (hu0.below hB.out.size fun q hq e => by have e : q = sb := e; have := hsb.out; have := hn1.out; omega)).trans (hb9.mono (Nat.le_trans hB.out.size hu0.size)))
  clear hr hor r3 r4 hu0 hb9 y0 y1 y2 ksb osrc h32 h46 kp
  go_upto_region 6 with fail
  generalize wb.alloc (.cells #[.int .i64 0, .int .i64 12, .int .i64 0, .slice A1 2 c1, .slice A2 1 c2, .slice A3 0 c3, .slice A4 1 c4, .int .i64 87] 29) = w4 at *
  generalize wb.heap.size = n9 at *
  have z0 : w4.cell? ⟨n9, 0, none⟩ = some (.int .i64 0) := ko.out.cell 0
  have z3 : w4.cell? ⟨n9, 3, none⟩ = some (.slice A1 2 c1) := ko.out.cell 3
  have s1 : w4.cell? ⟨sb, 1, none⟩ = some (.slice A5 0 c5) := k5.out.cell 1
  have x0 : w4.cell? ⟨w.heap.size, 0, none⟩ = some (.int .i64 v.k) := kv.out.cell 0
  have x1 : w4.cell? ⟨w.heap.size, 1, none⟩ = some (.int .i64 v.n) := kv.out.cell 1
  have x2 : w4.cell? ⟨w.heap.size, 2, none⟩ = some (.string v.s) := kv.out.cell 2
  have hb9 := hid ((Below.refl w4.heap.size w4).alloc (Nat.le_refl _) (.cells #[.int .i64 v.k, .int .i64 v.n, .string v.s, .int .i64 1, .int .i64 1, .string ⟨#[]⟩] 55))
  have hvv := hid (valuesI_any (w := w4.alloc (.cells #[.int .i64 v.k, .int .i64 v.n, .string v.s, .int .i64 1, .int .i64 1, .string ⟨#[]⟩] 55)) (c := c1) (d := 2) (l := [v, numVl 1]) (m := [v, numVl 1]) (Rd.of_own' (own_below r1.out hb9.out)) (Rd.new w4 _ 3 2 #[.int .i64 v.k, .int .i64 v.n, .string v.s, .int .i64 1, .int .i64 1, .string ⟨#[]⟩] _ rfl rfl) (by show (2 : Nat) ≤ _; omega))
  go_wp2_with fail
  refine (numI_any _ _).mono ?_
  rintro e wq ⟨rfl, hwq⟩
  obtain rfl := hwq.symm
  go_wp2_with fail
  refine hvv.out.mono ?_
  rintro e w5 ⟨rfl, hb0⟩
  have ko := hid ((ko.out.below_all hb9.out).below_all hb0)
  have r2 := hid (own_below (own_below r2.out hb9.out) hb0)
  have hB := hid (hB.out.trans ((hb9.out.trans (hb0.mono hb9.out.size)).mono hB.out.size))
  clear hb9 hb0 hvv z0 z3 s1 x0 x1 x2
  have z4 : w5.cell? ⟨n9, 4, none⟩ = some (.slice A2 1 c2) := ko.out.cell 4
  have hb9 := hid ((Below.refl w5.heap.size w5).alloc (Nat.le_refl _) (.cells #[.string key, .bool true, .int .i64 0, .int .i64 0, .string ⟨#[]⟩] 57))
  have hww := hid (writesI_any (w := w5.alloc (.cells #[.string key, .bool true, .int .i64 0, .int .i64 0, .string ⟨#[]⟩] 57)) (c := c2) (d := 1) (l := [⟨key, true, vl0⟩]) (m := [⟨key, true, vl0⟩]) (Rd.of_own' (own_below r2.out hb9.out)) (Rd.new w5 _ 5 1 #[.string key, .bool true, .int .i64 0, .int .i64 0, .string ⟨#[]⟩] _ rfl rfl) (by show (1 : Nat) ≤ _; omega))
  go_wp2_with fail
  refine hww.out.mono ?_
  rintro e w6 ⟨rfl, hb0⟩
  have ko := hid ((ko.out.below_all hb9.out).below_all hb0)
  have hB := hid (hB.out.trans ((hb9.out.trans (hb0.mono hb9.out.size)).mono hB.out.size))
  clear hb9 hb0 hww z4
  have z5 : w6.cell? ⟨n9, 5, none⟩ = some (.slice A3 0 c3) := ko.out.cell 5
  go_wp2_with fail
  refine (liveI_any _ (he.out.below hB.out)).mono ?_
  rintro e wd ⟨rfl, hb0⟩
  have hB := hid (hB.out.trans (hb0.mono hB.out.size))
  clear hb0
  go_wp2_with fail
  go_ret
  exact ⟨rfl, hB.out⟩
end
end Go.Proofs.YtdmogoaaecdbaaaGreatDoor
