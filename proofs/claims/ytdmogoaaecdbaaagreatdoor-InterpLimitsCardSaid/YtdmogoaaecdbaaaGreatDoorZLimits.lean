/- InterpLimits: the walk. -/
import Derived.Test.YtdmogoaaecdbaaaGreatDoorZLimP
import Derived.Test.YtdmogoaaecdbaaaGreatDoorJ21
import Derived.Test.YtdmogoaaecdbaaaGreatDoorZTq
namespace Go.Proofs.YtdmogoaaecdbaaaGreatDoor
open Go.RowKit
set_option linter.unusedVariables false
set_option linter.unusedSimpArgs false

theorem own_full (w : World) (base : Nat) (e : TypeId) (size n : Nat) (cs : Array Value) (hb : base ≤ w.heap.size) (hm : n ≤ maxLen) (hs : cs.size = n * size) : (w.alloc (.cells cs e)).ownsRow base e size (.slice (some ⟨w.heap.size, 0, none⟩) n n) n cs.toList :=
  ⟨by simpa using hs, .inr ⟨w.heap.size, n, cs, rfl, hb, heap_alloc_new w _, Nat.le_refl _, hm, hs, by rw [List.take_of_length_le (by simp [hs])]⟩⟩
section
variable {w : World} {n : Nat}
set_option maxRecDepth 100000 in
set_option maxHeartbeats 4000000 in
theorem limitsI_in (hn0 : n ≤ 80) (he0 : Env w) : Calls Tryz.prog 9 #[.int .i64 (n : Nat)] w fun e w' => e = .returned (.bool true) ∧ Below w.heap.size w w' := by
  have he := hid he0
  have hn := hid hn0
  have t0 : decide ((n : Int) < 0) = false := decide_eq_false (by omega)
  have t1 : decide (80 < (n : Int)) = false := decide_eq_false (by omega)
  have t1' : decide (80 < n) = false := decide_eq_false (by omega)
  obtain ⟨ii, hii, hii0, hii1, hii2⟩ := info_parts info_insI
  clear he0 hn0
  go_enter Tryz.func9, Tryz.ntmps9
  go_wp2_with fail
  go_loopw [3] (fun v wr => ∃ k : Int, v = .int .i64 k ∧ (k = 0 ∨ k = 1 ∨ k = 2 ∨ k = 3) ∧ Below w.heap.size w wr) (fun v _ => 3 - (intOf v).toNat)
  case atStart => exact ⟨0, rfl, .inl rfl, Below.refl _ _⟩
  case round =>
    obtain ⟨k, rfl, hk, hBr0⟩ := hrel
    have hBw := hid hBr0
    clear hBr0
    rcases hk with rfl | rfl | rfl | rfl
    · go_upto_region 7 with fail
      have hb9 : Below wr.heap.size wr ((wr.alloc (.cells #[.int .i64 2, .int .i64 0, .string ⟨#[107]⟩, .int .i64 1, .int .i64 1, .string ⟨#[]⟩, .int .i64 1, .int .i64 0, .string ⟨#[]⟩] 55)).alloc (.cells #[.int .i64 1, .slice (some ⟨wr.heap.size, 0, none⟩) 3 3, .slice none 0 0] 33)) := below_two _ _
      have kc := hid (show Blk ((wr.alloc (.cells #[.int .i64 2, .int .i64 0, .string ⟨#[107]⟩, .int .i64 1, .int .i64 1, .string ⟨#[]⟩, .int .i64 1, .int .i64 0, .string ⟨#[]⟩] 55)).alloc (.cells #[.int .i64 1, .slice (some ⟨wr.heap.size, 0, none⟩) 3 3, .slice none 0 0] 33)) wr.heap.size 55 #[.int .i64 2, .int .i64 0, .string ⟨#[107]⟩, .int .i64 1, .int .i64 1, .string ⟨#[]⟩, .int .i64 1, .int .i64 0, .string ⟨#[]⟩] from (Blk.new wr _ _).alloc _)
      have kp := hid (show Blk ((wr.alloc (.cells #[.int .i64 2, .int .i64 0, .string ⟨#[107]⟩, .int .i64 1, .int .i64 1, .string ⟨#[]⟩, .int .i64 1, .int .i64 0, .string ⟨#[]⟩] 55)).alloc (.cells #[.int .i64 1, .slice (some ⟨wr.heap.size, 0, none⟩) 3 3, .slice none 0 0] 33)) (wr.heap.size + 1) 33 #[.int .i64 1, .slice (some ⟨wr.heap.size, 0, none⟩) 3 3, .slice none 0 0] from Blk.new' _ _ _ (by simp))
      have hBn := hid hb9
      have hBw0 := hid hBw.out
      clear hb9 hBw
      generalize ((wr.alloc (.cells #[.int .i64 2, .int .i64 0, .string ⟨#[107]⟩, .int .i64 1, .int .i64 1, .string ⟨#[]⟩, .int .i64 1, .int .i64 0, .string ⟨#[]⟩] 55)).alloc (.cells #[.int .i64 1, .slice (some ⟨wr.heap.size, 0, none⟩) 3 3, .slice none 0 0] 33)) = w2 at *
      obtain ⟨n0, hn0⟩ : ∃ n0, Hid (wr.heap.size = n0) := ⟨_, hid rfl⟩
      rw [hn0.out] at kc kp ⊢
      obtain ⟨n1, hn1⟩ : ∃ n1, Hid (n0 + 1 = n1) := ⟨_, hid rfl⟩
      rw [hn1.out] at kp ⊢
      have hs2 := hid (show wr.heap.size ≤ w2.heap.size from hBn.out.size)
      have y0 : (w2.alloc (.cells #[.int .i64 2, .int .i64 0, .int .i64 3, .int .i64 0, .int .i64 19, .int .i64 14, .int .i64 3, .int .i64 0] 69)).cell? ⟨n1, 2, none⟩ = some (.slice none 0 0) := (kp.out.alloc (.cells #[.int .i64 2, .int .i64 0, .int .i64 3, .int .i64 0, .int .i64 19, .int .i64 14, .int .i64 3, .int .i64 0] 69)).cell 2
      have fz0 := (kp.out.alloc (.cells #[.int .i64 2, .int .i64 0, .int .i64 3, .int .i64 0, .int .i64 19, .int .i64 14, .int .i64 3, .int .i64 0] 69)).frozen 2
      have hrow0 := hid (own_full w2 w2.heap.size 69 2 4 #[.int .i64 2, .int .i64 0, .int .i64 3, .int .i64 0, .int .i64 19, .int .i64 14, .int .i64 3, .int .i64 0] (Nat.le_refl _) (by simp only [maxLen]; omega) rfl)
      have kc3 := hid (kc.out.alloc (.cells #[.int .i64 2, .int .i64 0, .int .i64 3, .int .i64 0, .int .i64 19, .int .i64 14, .int .i64 3, .int .i64 0] 69))
      have kp3 := hid (kp.out.alloc (.cells #[.int .i64 2, .int .i64 0, .int .i64 3, .int .i64 0, .int .i64 19, .int .i64 14, .int .i64 3, .int .i64 0] 69))
      go_upto_region 10 with fail
      have u3 := (Upd.refl (fun q => q = n1) (w2.alloc (.cells #[.int .i64 2, .int .i64 0, .int .i64 3, .int .i64 0, .int .i64 19, .int .i64 14, .int .i64 3, .int .i64 0] 69))).setCell (p := ⟨n1, 2, none⟩) (fun _ => rfl) (.slice (some ⟨w2.heap.size, 0, none⟩) 4 4)
      have kp := hid (show Blk _ n1 33 #[.int .i64 1, .slice (some ⟨n0, 0, none⟩) 3 3, .slice (some ⟨w2.heap.size, 0, none⟩) 4 4] from kp3.out.set_ 2 _)
      have kc := hid (kc3.out.upd u3 (by have := hn1.out; omega))
      have hrow := hid (own_updG hrow0.out u3 kp3.out (by decide))
      have hBn := hid ((hBn.out.alloc hBn.out.size (.cells #[.int .i64 2, .int .i64 0, .int .i64 3, .int .i64 0, .int .i64 19, .int .i64 14, .int .i64 3, .int .i64 0] 69)).setCell (p := ⟨n1, 2, none⟩) (by show wr.heap.size ≤ n1; have := hn0.out; have := hn1.out; omega) (.slice (some ⟨w2.heap.size, 0, none⟩) 4 4))
      have hrow := hid (own_base (show wr.heap.size ≤ w2.heap.size from hs2.out) hrow.out)
      clear u3 kc3 kp3 hrow0 y0 fz0
      generalize (w2.alloc (.cells #[.int .i64 2, .int .i64 0, .int .i64 3, .int .i64 0, .int .i64 19, .int .i64 14, .int .i64 3, .int .i64 0] 69)).setCell ⟨n1, 2, none⟩ (.slice (some ⟨w2.heap.size, 0, none⟩) 4 4) = w3 at *
      generalize w2.heap.size = n2 at *
      have y2 : (w3.alloc (.cells #[.int .i64 29, .int .i64 0, .int .i64 1, .int .i64 1, .int .i64 3, .int .i64 0, .int .i64 4, .int .i64 0, .int .i64 3, .int .i64 0, .int .i64 4, .int .i64 0] 69)).cell? ⟨n1, 2, none⟩ = some (.slice (some ⟨n2, 0, none⟩) 4 4) := (kp.out.alloc (.cells #[.int .i64 29, .int .i64 0, .int .i64 1, .int .i64 1, .int .i64 3, .int .i64 0, .int .i64 4, .int .i64 0, .int .i64 3, .int .i64 0, .int .i64 4, .int .i64 0] 69)).cell 2
      have x2 : w3.cell? ⟨n1, 2, none⟩ = some (.slice (some ⟨n2, 0, none⟩) 4 4) := kp.out.cell 2
      have hba := hid ((Below.refl w3.heap.size w3).alloc (Nat.le_refl _) (.cells #[.int .i64 29, .int .i64 0, .int .i64 1, .int .i64 1, .int .i64 3, .int .i64 0, .int .i64 4, .int .i64 0, .int .i64 3, .int .i64 0, .int .i64 4, .int .i64 0] 69))
      go_upto_region 14 with (
        at_builtin
        refine wpList_append_rd _ rfl (.tmp 45) (.tmp 52) 31 rfl wr.heap.size 69 ii _ 2 16 Tryz.underlying31 hii hii0 hii1 hii2 rfl (by omega) (.slice (some ⟨n2, 0, none⟩) 4 4) 4 (#[.int .i64 2, .int .i64 0, .int .i64 3, .int .i64 0, .int .i64 19, .int .i64 14, .int .i64 3, .int .i64 0].toList) rfl (own_below hrow.out hba.out) (fun q => q = w3.heap.size) (some ⟨w3.heap.size, 0, none⟩) 6 6 #[.int .i64 29, .int .i64 0, .int .i64 1, .int .i64 1, .int .i64 3, .int .i64 0, .int .i64 4, .int .i64 0, .int .i64 3, .int .i64 0, .int .i64 4, .int .i64 0].toList rfl (Rd.new w3 69 2 6 #[.int .i64 29, .int .i64 0, .int .i64 1, .int .i64 1, .int .i64 3, .int .i64 0, .int .i64 4, .int .i64 0, .int .i64 3, .int .i64 0, .int .i64 4, .int .i64 0] w3.heap.size rfl rfl) (fun u hu => List.all_eq_true.1 (show List.all #[.int .i64 29, .int .i64 0, .int .i64 1, .int .i64 1, .int .i64 3, .int .i64 0, .int .i64 4, .int .i64 0, .int .i64 3, .int .i64 0, .int .i64 4, .int .i64 0].toList (fun u => u.oneCell') = true from rfl) u hu) (by simp only [maxLen]; omega) (by omega) (by have := hba.out.size; have := hBn.out.size; omega) ?_
        intro v9 w9 hown9 hg9 hat9
        obtain ⟨A4, c4, rfl, _, _⟩ := own_form hown9
        have hu9 : Hid (Upd (fun q => (Value.slice (some ⟨n2, 0, none⟩) 4 4).ownBlock = some q) w3 w9) := hid (((Upd.refl _ w3).alloc _).grown hg9 fun q hq _ => hq)
        have kp9 := hid (blk_updO kp.out hu9.out hrow.out (by decide))
        have kc9 := hid (blk_updO kc.out hu9.out hrow.out (by decide))
        have hBn9 := hid ((hBn.out.alloc hBn.out.size (.cells #[.int .i64 29, .int .i64 0, .int .i64 1, .int .i64 1, .int .i64 3, .int .i64 0, .int .i64 4, .int .i64 0, .int .i64 3, .int .i64 0, .int .i64 4, .int .i64 0] 69)).grown hg9 (by have := hba.out.size; have := hBn.out.size; omega) fun q hq => (hrow.out.lt q hq).1)
        have y3 : w9.cell? ⟨n1, 2, none⟩ = some (.slice (some ⟨n2, 0, none⟩) 4 4) := kp9.out.cell 2
        have fz3 := kp9.out.frozen 2
        have hrow9 := hid hown9
        clear hown9 hg9 hat9 y2 x2)
      have u3 := (Upd.refl (fun q => q = n1) w9).setCell (p := ⟨n1, 2, none⟩) (fun _ => rfl) (.slice A4 10 c4)
      have kp := hid (show Blk _ n1 33 #[.int .i64 1, .slice (some ⟨n0, 0, none⟩) 3 3, .slice A4 10 c4] from kp9.out.set_ 2 _)
      have kc := hid (kc9.out.upd u3 (by have := hn1.out; omega))
      have hrow := hid (own_updG hrow9.out u3 kp9.out (by decide))
      have hBn := hid (hBn9.out.setCell (p := ⟨n1, 2, none⟩) (by show wr.heap.size ≤ n1; have := hn0.out; have := hn1.out; omega) (.slice A4 10 c4))
      clear u3 kc9 kp9 hrow9 hBn9 hu9 hba y3 fz3
      generalize w9.setCell ⟨n1, 2, none⟩ (.slice A4 10 c4) = w4 at *
      have y2 : (w4.alloc (.cells #[.int .i64 8, .int .i64 0, .int .i64 3, .int .i64 0, .int .i64 4, .int .i64 0, .int .i64 18, .int .i64 1, .int .i64 4, .int .i64 0, .int .i64 31, .int .i64 0] 69)).cell? ⟨n1, 2, none⟩ = some (.slice A4 10 c4) := (kp.out.alloc (.cells #[.int .i64 8, .int .i64 0, .int .i64 3, .int .i64 0, .int .i64 4, .int .i64 0, .int .i64 18, .int .i64 1, .int .i64 4, .int .i64 0, .int .i64 31, .int .i64 0] 69)).cell 2
      have x2 : w4.cell? ⟨n1, 2, none⟩ = some (.slice A4 10 c4) := kp.out.cell 2
      have hba := hid ((Below.refl w4.heap.size w4).alloc (Nat.le_refl _) (.cells #[.int .i64 8, .int .i64 0, .int .i64 3, .int .i64 0, .int .i64 4, .int .i64 0, .int .i64 18, .int .i64 1, .int .i64 4, .int .i64 0, .int .i64 31, .int .i64 0] 69))
      go_upto_region 15 with (
        at_builtin
        refine wpList_append_rd _ rfl (.tmp 69) (.tmp 76) 31 rfl wr.heap.size 69 ii _ 2 16 Tryz.underlying31 hii hii0 hii1 hii2 rfl (by omega) (.slice A4 10 c4) 10 (#[.int .i64 2, .int .i64 0, .int .i64 3, .int .i64 0, .int .i64 19, .int .i64 14, .int .i64 3, .int .i64 0].toList ++ #[.int .i64 29, .int .i64 0, .int .i64 1, .int .i64 1, .int .i64 3, .int .i64 0, .int .i64 4, .int .i64 0, .int .i64 3, .int .i64 0, .int .i64 4, .int .i64 0].toList) rfl (own_below hrow.out hba.out) (fun q => q = w4.heap.size) (some ⟨w4.heap.size, 0, none⟩) 6 6 #[.int .i64 8, .int .i64 0, .int .i64 3, .int .i64 0, .int .i64 4, .int .i64 0, .int .i64 18, .int .i64 1, .int .i64 4, .int .i64 0, .int .i64 31, .int .i64 0].toList rfl (Rd.new w4 69 2 6 #[.int .i64 8, .int .i64 0, .int .i64 3, .int .i64 0, .int .i64 4, .int .i64 0, .int .i64 18, .int .i64 1, .int .i64 4, .int .i64 0, .int .i64 31, .int .i64 0] w4.heap.size rfl rfl) (fun u hu => List.all_eq_true.1 (show List.all #[.int .i64 8, .int .i64 0, .int .i64 3, .int .i64 0, .int .i64 4, .int .i64 0, .int .i64 18, .int .i64 1, .int .i64 4, .int .i64 0, .int .i64 31, .int .i64 0].toList (fun u => u.oneCell') = true from rfl) u hu) (by simp only [maxLen]; omega) (by omega) (by have := hba.out.size; have := hBn.out.size; omega) ?_
        intro v9 w9 hown9 hg9 hat9
        obtain ⟨A5, c5, rfl, _, _⟩ := own_form hown9
        have hu9 : Hid (Upd (fun q => (Value.slice A4 10 c4).ownBlock = some q) w4 w9) := hid (((Upd.refl _ w4).alloc _).grown hg9 fun q hq _ => hq)
        have kp9 := hid (blk_updO kp.out hu9.out hrow.out (by decide))
        have kc9 := hid (blk_updO kc.out hu9.out hrow.out (by decide))
        have hBn9 := hid ((hBn.out.alloc hBn.out.size (.cells #[.int .i64 8, .int .i64 0, .int .i64 3, .int .i64 0, .int .i64 4, .int .i64 0, .int .i64 18, .int .i64 1, .int .i64 4, .int .i64 0, .int .i64 31, .int .i64 0] 69)).grown hg9 (by have := hba.out.size; have := hBn.out.size; omega) fun q hq => (hrow.out.lt q hq).1)
        have y3 : w9.cell? ⟨n1, 2, none⟩ = some (.slice A4 10 c4) := kp9.out.cell 2
        have fz3 := kp9.out.frozen 2
        have hrow9 := hid hown9
        clear hown9 hg9 hat9 y2 x2)
      have u3 := (Upd.refl (fun q => q = n1) w9).setCell (p := ⟨n1, 2, none⟩) (fun _ => rfl) (.slice A5 16 c5)
      have kp := hid (show Blk _ n1 33 #[.int .i64 1, .slice (some ⟨n0, 0, none⟩) 3 3, .slice A5 16 c5] from kp9.out.set_ 2 _)
      have kc := hid (kc9.out.upd u3 (by have := hn1.out; omega))
      have hrow := hid (own_updG hrow9.out u3 kp9.out (by decide))
      have hBn := hid (hBn9.out.setCell (p := ⟨n1, 2, none⟩) (by show wr.heap.size ≤ n1; have := hn0.out; have := hn1.out; omega) (.slice A5 16 c5))
      clear u3 kc9 kp9 hrow9 hBn9 hu9 hba y3 fz3
      generalize w9.setCell ⟨n1, 2, none⟩ (.slice A5 16 c5) = w5 at *
      have hW9 : Below w5.heap.size w5 ((w5.alloc (.cells #[.int .i64 1, .int .i64 (n : Nat), .string ⟨#[]⟩] 55)).alloc (.cells #[.slice none 0 0, .slice none 0 0] 50)) := below_two _ _
      have hrun : Hid (Calls Tryz.prog 14 #[.agg #[.int .i64 1, .slice (some ⟨n0, 0, none⟩) 3 3, .slice A5 16 c5], .slice (some ⟨w5.heap.size, 0, none⟩) 1 1, .iface 41 (.pointer (some ⟨w5.heap.size + 1, 0, none⟩)), .int .i64 5000] ((w5.alloc (.cells #[.int .i64 1, .int .i64 (n : Nat), .string ⟨#[]⟩] 55)).alloc (.cells #[.slice none 0 0, .slice none 0 0] 50)) fun e w' => ∃ v, e = .returned v ∧ OcV ((w5.alloc (.cells #[.int .i64 1, .int .i64 (n : Nat), .string ⟨#[]⟩] 55)).alloc (.cells #[.slice none 0 0, .slice none 0 0] 50)).heap.size w' v (runO (limPr 0) [numVl n] [] true 5000) ∧ Upd (fun q => q = w5.heap.size + 1) ((w5.alloc (.cells #[.int .i64 1, .int .i64 (n : Nat), .string ⟨#[]⟩] 55)).alloc (.cells #[.slice none 0 0, .slice none 0 0] 50)) w') := hid (by
        have hsb : Blk ((w5.alloc (.cells #[.int .i64 1, .int .i64 (n : Nat), .string ⟨#[]⟩] 55)).alloc (.cells #[.slice none 0 0, .slice none 0 0] 50)) (w5.heap.size + 1) 50 #[.slice none 0 0, .slice none 0 0] := Blk.new' _ _ _ (by simp)
        have hge : Blk ((w5.alloc (.cells #[.int .i64 1, .int .i64 (n : Nat), .string ⟨#[]⟩] 55)).alloc (.cells #[.slice none 0 0, .slice none 0 0] 50)) w5.heap.size 55 #[.int .i64 1, .int .i64 (n : Nat), .string ⟨#[]⟩] := (Blk.new w5 _ _).alloc _
        have hkc := kc.out.below_all hW9
        have b1 := hBw0.out.trans (hBn.out.mono hBw0.out.size)
        have b2 := b1.trans (hW9.mono b1.size)
        have h := run_all (w := ((w5.alloc (.cells #[.int .i64 1, .int .i64 (n : Nat), .string ⟨#[]⟩] 55)).alloc (.cells #[.slice none 0 0, .slice none 0 0] 50))) (F := ⟨limPr 0, [numVl n], [], some ⟨n0, 0, none⟩, 3, A5, c5, some ⟨w5.heap.size, 0, none⟩, 1, none, 0, w5.heap.size + 1⟩) 5000 ⟨⟨(Rd.blk hkc (size := 3) (n := 3) rfl).more fun q hq hl => ⟨hl, fun e => absurd (blk_ty (show Blk ((w5.alloc (.cells #[.int .i64 1, .int .i64 (n : Nat), .string ⟨#[]⟩] 55)).alloc (.cells #[.slice none 0 0, .slice none 0 0] 50)) (w5.heap.size + 1) 55 #[.int .i64 2, .int .i64 0, .string ⟨#[107]⟩, .int .i64 1, .int .i64 1, .string ⟨#[]⟩, .int .i64 1, .int .i64 0, .string ⟨#[]⟩] from by rw [← (show q = w5.heap.size + 1 from e), hq]; exact hkc) hsb) (by decide)⟩, Rd.away (own_below hrow.out hW9) hsb (by decide), fun x hx => ?_, by show (3 : Nat) ≤ _ ∧ (16 : Nat) ≤ _; omega⟩, (Rd.blk hge (size := 3) (n := 1) rfl).more fun q hq hl => ⟨hl, fun e => by have hq : q = w5.heap.size := hq; have e : q = w5.heap.size + 1 := e; omega⟩, Rd.nil_, hsb, fun W' hW' => he.out.below (b2.trans (hW'.below b2.size fun q hq e => by have e : q = w5.heap.size + 1 := e; have := b1.size; omega))⟩ (by show (1 : Nat) ≤ _; omega) (fun x hx => by rw [List.mem_singleton.1 hx]; show 0 ≤ _; omega) ?_ (fun x hx => by rw [List.mem_singleton.1 hx]; show -9223372036854775808 ≤ (n : Int) ∧ (n : Int) ≤ 9223372036854775807; have := hn.out; omega) (fun x hx => by cases hx) (fun x hx => by cases hx) (by show (0 : Nat) ≤ _; omega)
        · refine h.mono ?_
          rintro e w' ⟨v, h1, h2, _, h4⟩
          exact ⟨v, h1, h2, h4⟩
        · revert x hx
          exact (by decide : ∀ x ∈ [wrdV kB, numVl 1, numVl 0], x.s.size ≤ 9223372036854775806)
        · intro x hx
          have hx : x ∈ [wrdV kB, numVl 1, numVl 0] := hx
          simp only [List.mem_cons, List.not_mem_nil, or_false] at hx
          rcases hx with rfl | rfl | rfl <;> exact ⟨by decide, by decide⟩)
      have hlr := hid (lim_run (k := 0) (n := n) (by decide) hn.out)
      generalize runO (limPr 0) [numVl n] [] true 5000 = o at *
      have hBW := hid (hBn.out.trans (hW9.mono hBn.out.size))
      have x0 := kp.out.cell 0
      have x1 := kp.out.cell 1
      have x2 := kp.out.cell 2
      simp only [List.getElem?_toArray, List.getElem?_cons_zero, List.getElem?_cons_succ] at x0 x1 x2
      clear hW9
      go_wp2_with fail
      refine hrun.out.mono ?_
      rintro e w6 ⟨v, rfl, hoc, hu6⟩
      have hB6 := hid (hBW.out.trans (hu6.below hBW.out.size fun q hq e => by have := hBn.out.size; omega))
      clear hrun x0 x1 x2
      obtain ⟨A1, ac1, A2, ac2, A3, ac3, A4, ac4, rfl, _, _, _, _⟩ := id hoc
      clear hoc hu6
      have ko := hid (show Blk (((w6.alloc (.cells #[.int .i64 o.code, .int .i64 o.at_, .int .i64 o.ab, .slice A1 o.out.length ac1, .slice A2 o.ws.length ac2, .slice A3 o.rd.length ac3, .slice A4 o.wr.length ac4, .int .i64 o.left] 29)).alloc (.cells #[.int .i64 16, .int .i64 32, .int .i64 64] 3)).alloc (.cells #[.int .i64 75, .int .i64 77, .int .i64 78] 3)) w6.heap.size 29 #[.int .i64 o.code, .int .i64 o.at_, .int .i64 o.ab, .slice A1 o.out.length ac1, .slice A2 o.ws.length ac2, .slice A3 o.rd.length ac3, .slice A4 o.wr.length ac4, .int .i64 o.left] from ((Blk.new w6 _ _).alloc _).alloc _)
      have km := hid (show Blk (((w6.alloc (.cells #[.int .i64 o.code, .int .i64 o.at_, .int .i64 o.ab, .slice A1 o.out.length ac1, .slice A2 o.ws.length ac2, .slice A3 o.rd.length ac3, .slice A4 o.wr.length ac4, .int .i64 o.left] 29)).alloc (.cells #[.int .i64 16, .int .i64 32, .int .i64 64] 3)).alloc (.cells #[.int .i64 75, .int .i64 77, .int .i64 78] 3)) (w6.heap.size + 1) 3 #[.int .i64 16, .int .i64 32, .int .i64 64] from (Blk.new' _ _ _ (by simp)).alloc _)
      have ke := hid (show Blk (((w6.alloc (.cells #[.int .i64 o.code, .int .i64 o.at_, .int .i64 o.ab, .slice A1 o.out.length ac1, .slice A2 o.ws.length ac2, .slice A3 o.rd.length ac3, .slice A4 o.wr.length ac4, .int .i64 o.left] 29)).alloc (.cells #[.int .i64 16, .int .i64 32, .int .i64 64] 3)).alloc (.cells #[.int .i64 75, .int .i64 77, .int .i64 78] 3)) (w6.heap.size + 1 + 1) 3 #[.int .i64 75, .int .i64 77, .int .i64 78] from Blk.new' _ _ _ (by simp))
      have hB7 := hid (((hB6.out.alloc hB6.out.size (.cells #[.int .i64 o.code, .int .i64 o.at_, .int .i64 o.ab, .slice A1 o.out.length ac1, .slice A2 o.ws.length ac2, .slice A3 o.rd.length ac3, .slice A4 o.wr.length ac4, .int .i64 o.left] 29)).alloc (by have := hB6.out.size; simp; omega) (.cells #[.int .i64 16, .int .i64 32, .int .i64 64] 3)).alloc (by have := hB6.out.size; simp; omega) (.cells #[.int .i64 75, .int .i64 77, .int .i64 78] 3))
      go_upto_region 18 with fail
      generalize (((w6.alloc (.cells #[.int .i64 o.code, .int .i64 o.at_, .int .i64 o.ab, .slice A1 o.out.length ac1, .slice A2 o.ws.length ac2, .slice A3 o.rd.length ac3, .slice A4 o.wr.length ac4, .int .i64 o.left] 29)).alloc (.cells #[.int .i64 16, .int .i64 32, .int .i64 64] 3)).alloc (.cells #[.int .i64 75, .int .i64 77, .int .i64 78] 3)) = w7 at *
      have hX := hid (fun W (hW : Below w7.heap.size w7 W) => (show W.cell? ⟨w6.heap.size, 0, none⟩ = some (.int .i64 o.code) ∧ W.cell? ⟨w6.heap.size + 1, 0, none⟩ = some (.int .i64 16) ∧ W.cell? ⟨w6.heap.size + 1 + 1, 0, none⟩ = some (.int .i64 75) from ⟨(ko.out.below_all hW).cell 0, (km.out.below_all hW).cell 0, (ke.out.below_all hW).cell 0⟩))
      have hfin := hid (fun W (hW : Below w7.heap.size w7 W) => hBw0.out.trans ((hB7.out.trans (hW.mono hB7.out.size)).mono hBw0.out.size))
      refine wp_region_held_drew (S := fun w'' => Below w7.heap.size w7 w'') (by kernel_rfl) ?_ (fun hHeld => ?_)
      · exact (Below.refl _ _).drew
      have hbd : Hid (Below w7.heap.size w7 w7.drew) := hid ((Below.refl _ _).drew)
      generalize World.drew w7 = wd at *
      by_cases hle : n ≤ 16
      · have hoc : o.code = 0 := by rw [hlr.out]; exact if_pos hle
        rw [hoc] at hX
        have d1 : decide ((n : Int) ≤ 16) = true := decide_eq_true (by omega)
        have d2 : decide (16 < (n : Int)) = false := decide_eq_false (by omega)
        have d2' : decide (16 < n) = false := decide_eq_false (by omega)
        clear hle hoc hlr
        refine tH 0 (v := ?v1) ?h1 ?r1
        case h1 => intro w' hSw; obtain ⟨y0, y1, y2⟩ := hX.out w' hSw; (try dsimp only at hSw); go_simp; try with_reducible rfl
        (try simp only [Act.put, tq1, tq2, tq3, List.getElem_toArray, List.getElem_cons_zero, List.getElem_cons_succ])
        refine tH 1 (v := ?v2) ?h2 ?r2
        case h2 => intro w' hSw; obtain ⟨y0, y1, y2⟩ := hX.out w' hSw; (try dsimp only at hSw); go_simp; try with_reducible rfl
        (try simp only [Act.put, tq1, tq2, tq3, List.getElem_toArray, List.getElem_cons_zero, List.getElem_cons_succ])
        refine tH 2 (v := ?v3) ?h3 ?r3
        case h3 => intro w' hSw; obtain ⟨y0, y1, y2⟩ := hX.out w' hSw; (try dsimp only at hSw); go_simp; try with_reducible rfl
        (try simp only [Act.put, tq1, tq2, tq3, List.getElem_toArray, List.getElem_cons_zero, List.getElem_cons_succ])
        refine tH 3 (v := ?v4) ?h4 ?r4
        case h4 => intro w' hSw; obtain ⟨y0, y1, y2⟩ := hX.out w' hSw; (try dsimp only at hSw); go_simp; try with_reducible rfl
        (try simp only [Act.put, tq1, tq2, tq3, List.getElem_toArray, List.getElem_cons_zero, List.getElem_cons_succ])
        refine tH 4 (v := ?v5) ?h5 ?r5
        case h5 => intro w' hSw; obtain ⟨y0, y1, y2⟩ := hX.out w' hSw; (try dsimp only at hSw); go_simp; try with_reducible rfl
        (try simp only [Act.put, tq1, tq2, tq3, List.getElem_toArray, List.getElem_cons_zero, List.getElem_cons_succ])
        refine tH 5 (v := ?v6) ?h6 ?r6
        case h6 => intro w' hSw; obtain ⟨y0, y1, y2⟩ := hX.out w' hSw; (try dsimp only at hSw); go_simp; try with_reducible rfl
        (try simp only [Act.put, tq1, tq2, tq3, List.getElem_toArray, List.getElem_cons_zero, List.getElem_cons_succ])
        refine tH 6 (v := ?v7) ?h7 ?r7
        case h7 => intro w' hSw; obtain ⟨y0, y1, y2⟩ := hX.out w' hSw; (try dsimp only at hSw); go_simp; try with_reducible rfl
        (try simp only [Act.put, tq1, tq2, tq3, List.getElem_toArray, List.getElem_cons_zero, List.getElem_cons_succ])
        refine tH 7 (v := ?v8) ?h8 ?r8
        case h8 => intro w' hSw; obtain ⟨y0, y1, y2⟩ := hX.out w' hSw; (try dsimp only at hSw); go_simp; try with_reducible rfl
        (try simp only [Act.put, tq1, tq2, tq3, List.getElem_toArray, List.getElem_cons_zero, List.getElem_cons_succ])
        refine tH 8 (v := ?v9) ?h9 ?r9
        case h9 => intro w' hSw; obtain ⟨y0, y1, y2⟩ := hX.out w' hSw; (try dsimp only at hSw); go_simp; try with_reducible rfl
        (try simp only [Act.put, tq1, tq2, tq3, List.getElem_toArray, List.getElem_cons_zero, List.getElem_cons_succ])
        refine wpAnyH_ready (rs := [9]) (by kernel_rfl) (by simp) ?_
        refine AllReadyH.cons rfl (fun K hK => ?_) AllReadyH.nil
        rw [if_pos (by rfl)]
        go_simp
        refine (numI_any _ _).mono ?_
        rintro e wq ⟨rfl, hwq⟩
        obtain rfl := hwq.symm
        refine hK.out _ _ ?_ (fun hHeld => ?_)
        · exact hbd.out
        clear hK K
        (try simp only [Act.put, tq1, tq2, tq3, List.getElem_toArray, List.getElem_cons_zero, List.getElem_cons_succ])
        refine tH 10 (v := ?v10) ?h10 ?r10
        case h10 => intro w' hSw; obtain ⟨y0, y1, y2⟩ := hX.out w' hSw; (try dsimp only at hSw); go_simp; try with_reducible rfl
        (try simp only [Act.put, tq1, tq2, tq3, List.getElem_toArray, List.getElem_cons_zero, List.getElem_cons_succ])
        refine tH 11 (v := ?v11) ?h11 ?r11
        case h11 => intro w' hSw; obtain ⟨y0, y1, y2⟩ := hX.out w' hSw; (try dsimp only at hSw); go_simp; try with_reducible rfl
        (try simp only [Act.put, tq1, tq2, tq3, List.getElem_toArray, List.getElem_cons_zero, List.getElem_cons_succ])
        refine tH 12 (v := ?v12) ?h12 ?r12
        case h12 => intro w' hSw; obtain ⟨y0, y1, y2⟩ := hX.out w' hSw; (try dsimp only at hSw); go_simp; try with_reducible rfl
        (try simp only [Act.put, tq1, tq2, tq3, List.getElem_toArray, List.getElem_cons_zero, List.getElem_cons_succ])
        refine tH 13 (v := ?v13) ?h13 ?r13
        case h13 => intro w' hSw; obtain ⟨y0, y1, y2⟩ := hX.out w' hSw; (try dsimp only at hSw); go_simp; try with_reducible rfl
        (try simp only [Act.put, tq1, tq2, tq3, List.getElem_toArray, List.getElem_cons_zero, List.getElem_cons_succ])
        refine tH 14 (v := ?v14) ?h14 ?r14
        case h14 => intro w' hSw; obtain ⟨y0, y1, y2⟩ := hX.out w' hSw; (try dsimp only at hSw); go_simp; try with_reducible rfl
        (try simp only [Act.put, tq1, tq2, tq3, List.getElem_toArray, List.getElem_cons_zero, List.getElem_cons_succ])
        refine tH 15 (v := ?v15) ?h15 ?r15
        case h15 => intro w' hSw; obtain ⟨y0, y1, y2⟩ := hX.out w' hSw; (try dsimp only at hSw); go_simp; try with_reducible rfl
        (try simp only [Act.put, tq1, tq2, tq3, List.getElem_toArray, List.getElem_cons_zero, List.getElem_cons_succ])
        refine tH 16 (v := ?v16) ?h16 ?r16
        case h16 => intro w' hSw; obtain ⟨y0, y1, y2⟩ := hX.out w' hSw; (try dsimp only at hSw); go_simp; try with_reducible rfl
        (try simp only [Act.put, tq1, tq2, tq3, List.getElem_toArray, List.getElem_cons_zero, List.getElem_cons_succ])
        refine tH 17 (v := ?v17) ?h17 ?r17
        case h17 => intro w' hSw; obtain ⟨y0, y1, y2⟩ := hX.out w' hSw; (try dsimp only at hSw); go_simp; try with_reducible rfl
        (try simp only [Act.put, tq1, tq2, tq3, List.getElem_toArray, List.getElem_cons_zero, List.getElem_cons_succ])
        refine tH 18 (v := ?v18) ?h18 ?r18
        case h18 => intro w' hSw; obtain ⟨y0, y1, y2⟩ := hX.out w' hSw; (try dsimp only at hSw); go_simp; try with_reducible rfl
        (try simp only [Act.put, tq1, tq2, tq3, List.getElem_toArray, List.getElem_cons_zero, List.getElem_cons_succ])
        refine tH 19 (v := ?v19) ?h19 ?r19
        case h19 => intro w' hSw; obtain ⟨y0, y1, y2⟩ := hX.out w' hSw; (try dsimp only at hSw); go_simp; try with_reducible rfl
        (try simp only [Act.put, tq1, tq2, tq3, List.getElem_toArray, List.getElem_cons_zero, List.getElem_cons_succ])
        refine tS 20 ?_
        (try simp only [Act.put, tq1, tq2, tq3, List.getElem_toArray, List.getElem_cons_zero, List.getElem_cons_succ])
        refine tS 21 ?_
        (try simp only [Act.put, tq1, tq2, tq3, List.getElem_toArray, List.getElem_cons_zero, List.getElem_cons_succ])
        refine tS 22 ?_
        (try simp only [Act.put, tq1, tq2, tq3, List.getElem_toArray, List.getElem_cons_zero, List.getElem_cons_succ])
        refine tS 23 ?_
        (try simp only [Act.put, tq1, tq2, tq3, List.getElem_toArray, List.getElem_cons_zero, List.getElem_cons_succ])
        refine tS 24 ?_
        (try simp only [Act.put, tq1, tq2, tq3, List.getElem_toArray, List.getElem_cons_zero, List.getElem_cons_succ])
        refine tS 25 ?_
        (try simp only [Act.put, tq1, tq2, tq3, List.getElem_toArray, List.getElem_cons_zero, List.getElem_cons_succ])
        refine tS 26 ?_
        (try simp only [Act.put, tq1, tq2, tq3, List.getElem_toArray, List.getElem_cons_zero, List.getElem_cons_succ])
        refine tS 27 ?_
        (try simp only [Act.put, tq1, tq2, tq3, List.getElem_toArray, List.getElem_cons_zero, List.getElem_cons_succ])
        refine tH 28 (v := ?v20) ?h20 ?r20
        case h20 => intro w' hSw; obtain ⟨y0, y1, y2⟩ := hX.out w' hSw; (try dsimp only at hSw); go_simp; try with_reducible rfl
        (try simp only [Act.put, tq1, tq2, tq3, List.getElem_toArray, List.getElem_cons_zero, List.getElem_cons_succ])
        refine tH 29 (v := ?v21) ?h21 ?r21
        case h21 => intro w' hSw; obtain ⟨y0, y1, y2⟩ := hX.out w' hSw; (try dsimp only at hSw); go_simp; try with_reducible rfl
        (try simp only [Act.put, tq1, tq2, tq3, List.getElem_toArray, List.getElem_cons_zero, List.getElem_cons_succ])
        refine wpAnyH_done (by kernel_rfl) ?_ _
        go_wp2_with fail
        go_roundw
        case rel => exact ⟨1, by first | rfl | (simp), by omega, hfin.out _ hbd.out⟩
        case measure => simp [intOf]
      · have hoc : o.code = 75 := by rw [hlr.out]; exact if_neg hle
        rw [hoc] at hX
        have d1 : decide ((n : Int) ≤ 16) = false := decide_eq_false (by omega)
        have d2 : decide (16 < (n : Int)) = true := decide_eq_true (by omega)
        have d2' : decide (16 < n) = true := decide_eq_true (by omega)
        clear hle hoc hlr
        refine tH 0 (v := ?v22) ?h22 ?r22
        case h22 => intro w' hSw; obtain ⟨y0, y1, y2⟩ := hX.out w' hSw; (try dsimp only at hSw); go_simp; try with_reducible rfl
        (try simp only [Act.put, tq1, tq2, tq3, List.getElem_toArray, List.getElem_cons_zero, List.getElem_cons_succ])
        refine tH 1 (v := ?v23) ?h23 ?r23
        case h23 => intro w' hSw; obtain ⟨y0, y1, y2⟩ := hX.out w' hSw; (try dsimp only at hSw); go_simp; try with_reducible rfl
        (try simp only [Act.put, tq1, tq2, tq3, List.getElem_toArray, List.getElem_cons_zero, List.getElem_cons_succ])
        refine tH 2 (v := ?v24) ?h24 ?r24
        case h24 => intro w' hSw; obtain ⟨y0, y1, y2⟩ := hX.out w' hSw; (try dsimp only at hSw); go_simp; try with_reducible rfl
        (try simp only [Act.put, tq1, tq2, tq3, List.getElem_toArray, List.getElem_cons_zero, List.getElem_cons_succ])
        refine tH 3 (v := ?v25) ?h25 ?r25
        case h25 => intro w' hSw; obtain ⟨y0, y1, y2⟩ := hX.out w' hSw; (try dsimp only at hSw); go_simp; try with_reducible rfl
        (try simp only [Act.put, tq1, tq2, tq3, List.getElem_toArray, List.getElem_cons_zero, List.getElem_cons_succ])
        refine tH 4 (v := ?v26) ?h26 ?r26
        case h26 => intro w' hSw; obtain ⟨y0, y1, y2⟩ := hX.out w' hSw; (try dsimp only at hSw); go_simp; try with_reducible rfl
        (try simp only [Act.put, tq1, tq2, tq3, List.getElem_toArray, List.getElem_cons_zero, List.getElem_cons_succ])
        refine tH 5 (v := ?v27) ?h27 ?r27
        case h27 => intro w' hSw; obtain ⟨y0, y1, y2⟩ := hX.out w' hSw; (try dsimp only at hSw); go_simp; try with_reducible rfl
        (try simp only [Act.put, tq1, tq2, tq3, List.getElem_toArray, List.getElem_cons_zero, List.getElem_cons_succ])
        refine tH 6 (v := ?v28) ?h28 ?r28
        case h28 => intro w' hSw; obtain ⟨y0, y1, y2⟩ := hX.out w' hSw; (try dsimp only at hSw); go_simp; try with_reducible rfl
        (try simp only [Act.put, tq1, tq2, tq3, List.getElem_toArray, List.getElem_cons_zero, List.getElem_cons_succ])
        refine tS 7 ?_
        (try simp only [Act.put, tq1, tq2, tq3, List.getElem_toArray, List.getElem_cons_zero, List.getElem_cons_succ])
        refine tS 8 ?_
        (try simp only [Act.put, tq1, tq2, tq3, List.getElem_toArray, List.getElem_cons_zero, List.getElem_cons_succ])
        refine tS 9 ?_
        (try simp only [Act.put, tq1, tq2, tq3, List.getElem_toArray, List.getElem_cons_zero, List.getElem_cons_succ])
        refine tS 10 ?_
        (try simp only [Act.put, tq1, tq2, tq3, List.getElem_toArray, List.getElem_cons_zero, List.getElem_cons_succ])
        refine tH 11 (v := ?v29) ?h29 ?r29
        case h29 => intro w' hSw; obtain ⟨y0, y1, y2⟩ := hX.out w' hSw; (try dsimp only at hSw); go_simp; try with_reducible rfl
        (try simp only [Act.put, tq1, tq2, tq3, List.getElem_toArray, List.getElem_cons_zero, List.getElem_cons_succ])
        refine tH 12 (v := ?v30) ?h30 ?r30
        case h30 => intro w' hSw; obtain ⟨y0, y1, y2⟩ := hX.out w' hSw; (try dsimp only at hSw); go_simp; try with_reducible rfl
        (try simp only [Act.put, tq1, tq2, tq3, List.getElem_toArray, List.getElem_cons_zero, List.getElem_cons_succ])
        refine tH 13 (v := ?v31) ?h31 ?r31
        case h31 => intro w' hSw; obtain ⟨y0, y1, y2⟩ := hX.out w' hSw; (try dsimp only at hSw); go_simp; try with_reducible rfl
        (try simp only [Act.put, tq1, tq2, tq3, List.getElem_toArray, List.getElem_cons_zero, List.getElem_cons_succ])
        refine tH 14 (v := ?v32) ?h32 ?r32
        case h32 => intro w' hSw; obtain ⟨y0, y1, y2⟩ := hX.out w' hSw; (try dsimp only at hSw); go_simp; try with_reducible rfl
        (try simp only [Act.put, tq1, tq2, tq3, List.getElem_toArray, List.getElem_cons_zero, List.getElem_cons_succ])
        refine tH 15 (v := ?v33) ?h33 ?r33
        case h33 => intro w' hSw; obtain ⟨y0, y1, y2⟩ := hX.out w' hSw; (try dsimp only at hSw); go_simp; try with_reducible rfl
        (try simp only [Act.put, tq1, tq2, tq3, List.getElem_toArray, List.getElem_cons_zero, List.getElem_cons_succ])
        refine tH 16 (v := ?v34) ?h34 ?r34
        case h34 => intro w' hSw; obtain ⟨y0, y1, y2⟩ := hX.out w' hSw; (try dsimp only at hSw); go_simp; try with_reducible rfl
        (try simp only [Act.put, tq1, tq2, tq3, List.getElem_toArray, List.getElem_cons_zero, List.getElem_cons_succ])
        refine tH 17 (v := ?v35) ?h35 ?r35
        case h35 => intro w' hSw; obtain ⟨y0, y1, y2⟩ := hX.out w' hSw; (try dsimp only at hSw); go_simp; try with_reducible rfl
        (try simp only [Act.put, tq1, tq2, tq3, List.getElem_toArray, List.getElem_cons_zero, List.getElem_cons_succ])
        refine tH 18 (v := ?v36) ?h36 ?r36
        case h36 => intro w' hSw; obtain ⟨y0, y1, y2⟩ := hX.out w' hSw; (try dsimp only at hSw); go_simp; try with_reducible rfl
        (try simp only [Act.put, tq1, tq2, tq3, List.getElem_toArray, List.getElem_cons_zero, List.getElem_cons_succ])
        refine tH 19 (v := ?v37) ?h37 ?r37
        case h37 => intro w' hSw; obtain ⟨y0, y1, y2⟩ := hX.out w' hSw; (try dsimp only at hSw); go_simp; try with_reducible rfl
        (try simp only [Act.put, tq1, tq2, tq3, List.getElem_toArray, List.getElem_cons_zero, List.getElem_cons_succ])
        refine tH 20 (v := ?v38) ?h38 ?r38
        case h38 => intro w' hSw; obtain ⟨y0, y1, y2⟩ := hX.out w' hSw; (try dsimp only at hSw); go_simp; try with_reducible rfl
        (try simp only [Act.put, tq1, tq2, tq3, List.getElem_toArray, List.getElem_cons_zero, List.getElem_cons_succ])
        refine tH 21 (v := ?v39) ?h39 ?r39
        case h39 => intro w' hSw; obtain ⟨y0, y1, y2⟩ := hX.out w' hSw; (try dsimp only at hSw); go_simp; try with_reducible rfl
        (try simp only [Act.put, tq1, tq2, tq3, List.getElem_toArray, List.getElem_cons_zero, List.getElem_cons_succ])
        refine tH 23 (v := ?v40) ?h40 ?r40
        case h40 => intro w' hSw; obtain ⟨y0, y1, y2⟩ := hX.out w' hSw; (try dsimp only at hSw); go_simp; try with_reducible rfl
        (try simp only [Act.put, tq1, tq2, tq3, List.getElem_toArray, List.getElem_cons_zero, List.getElem_cons_succ])
        refine tH 24 (v := ?v41) ?h41 ?r41
        case h41 => intro w' hSw; obtain ⟨y0, y1, y2⟩ := hX.out w' hSw; (try dsimp only at hSw); go_simp; try with_reducible rfl
        (try simp only [Act.put, tq1, tq2, tq3, List.getElem_toArray, List.getElem_cons_zero, List.getElem_cons_succ])
        refine tH 25 (v := ?v42) ?h42 ?r42
        case h42 => intro w' hSw; obtain ⟨y0, y1, y2⟩ := hX.out w' hSw; (try dsimp only at hSw); go_simp; try with_reducible rfl
        (try simp only [Act.put, tq1, tq2, tq3, List.getElem_toArray, List.getElem_cons_zero, List.getElem_cons_succ])
        refine tH 26 (v := ?v43) ?h43 ?r43
        case h43 => intro w' hSw; obtain ⟨y0, y1, y2⟩ := hX.out w' hSw; (try dsimp only at hSw); go_simp; try with_reducible rfl
        (try simp only [Act.put, tq1, tq2, tq3, List.getElem_toArray, List.getElem_cons_zero, List.getElem_cons_succ])
        refine wpAnyH_ready (rs := [22]) (by kernel_rfl) (by simp) ?_
        refine AllReadyH.cons rfl (fun K hK => ?_) AllReadyH.nil
        rw [if_pos (by rfl)]
        go_simp
        refine (numI_any _ _).mono ?_
        rintro e wq ⟨rfl, hwq⟩
        obtain rfl := hwq.symm
        refine hK.out _ _ ?_ (fun hHeld => ?_)
        · exact hbd.out
        clear hK K
        (try simp only [Act.put, tq1, tq2, tq3, List.getElem_toArray, List.getElem_cons_zero, List.getElem_cons_succ])
        refine tH 27 (v := ?v44) ?h44 ?r44
        case h44 => intro w' hSw; obtain ⟨y0, y1, y2⟩ := hX.out w' hSw; (try dsimp only at hSw); go_simp; try with_reducible rfl
        (try simp only [Act.put, tq1, tq2, tq3, List.getElem_toArray, List.getElem_cons_zero, List.getElem_cons_succ])
        refine tH 28 (v := ?v45) ?h45 ?r45
        case h45 => intro w' hSw; obtain ⟨y0, y1, y2⟩ := hX.out w' hSw; (try dsimp only at hSw); go_simp; try with_reducible rfl
        (try simp only [Act.put, tq1, tq2, tq3, List.getElem_toArray, List.getElem_cons_zero, List.getElem_cons_succ])
        refine tH 29 (v := ?v46) ?h46 ?r46
        case h46 => intro w' hSw; obtain ⟨y0, y1, y2⟩ := hX.out w' hSw; (try dsimp only at hSw); go_simp; try with_reducible rfl
        (try simp only [Act.put, tq1, tq2, tq3, List.getElem_toArray, List.getElem_cons_zero, List.getElem_cons_succ])
        refine wpAnyH_done (by kernel_rfl) ?_ _
        go_wp2_with fail
        go_roundw
        case rel => exact ⟨1, by first | rfl | (simp), by omega, hfin.out _ hbd.out⟩
        case measure => simp [intOf]
    · go_upto_region 7 with fail
      have hb9 : Below wr.heap.size wr ((wr.alloc (.cells #[.int .i64 2, .int .i64 0, .string ⟨#[107]⟩, .int .i64 1, .int .i64 1, .string ⟨#[]⟩, .int .i64 1, .int .i64 0, .string ⟨#[]⟩] 55)).alloc (.cells #[.int .i64 1, .slice (some ⟨wr.heap.size, 0, none⟩) 3 3, .slice none 0 0] 33)) := below_two _ _
      have kc := hid (show Blk ((wr.alloc (.cells #[.int .i64 2, .int .i64 0, .string ⟨#[107]⟩, .int .i64 1, .int .i64 1, .string ⟨#[]⟩, .int .i64 1, .int .i64 0, .string ⟨#[]⟩] 55)).alloc (.cells #[.int .i64 1, .slice (some ⟨wr.heap.size, 0, none⟩) 3 3, .slice none 0 0] 33)) wr.heap.size 55 #[.int .i64 2, .int .i64 0, .string ⟨#[107]⟩, .int .i64 1, .int .i64 1, .string ⟨#[]⟩, .int .i64 1, .int .i64 0, .string ⟨#[]⟩] from (Blk.new wr _ _).alloc _)
      have kp := hid (show Blk ((wr.alloc (.cells #[.int .i64 2, .int .i64 0, .string ⟨#[107]⟩, .int .i64 1, .int .i64 1, .string ⟨#[]⟩, .int .i64 1, .int .i64 0, .string ⟨#[]⟩] 55)).alloc (.cells #[.int .i64 1, .slice (some ⟨wr.heap.size, 0, none⟩) 3 3, .slice none 0 0] 33)) (wr.heap.size + 1) 33 #[.int .i64 1, .slice (some ⟨wr.heap.size, 0, none⟩) 3 3, .slice none 0 0] from Blk.new' _ _ _ (by simp))
      have hBn := hid hb9
      have hBw0 := hid hBw.out
      clear hb9 hBw
      generalize ((wr.alloc (.cells #[.int .i64 2, .int .i64 0, .string ⟨#[107]⟩, .int .i64 1, .int .i64 1, .string ⟨#[]⟩, .int .i64 1, .int .i64 0, .string ⟨#[]⟩] 55)).alloc (.cells #[.int .i64 1, .slice (some ⟨wr.heap.size, 0, none⟩) 3 3, .slice none 0 0] 33)) = w2 at *
      obtain ⟨n0, hn0⟩ : ∃ n0, Hid (wr.heap.size = n0) := ⟨_, hid rfl⟩
      rw [hn0.out] at kc kp ⊢
      obtain ⟨n1, hn1⟩ : ∃ n1, Hid (n0 + 1 = n1) := ⟨_, hid rfl⟩
      rw [hn1.out] at kp ⊢
      have hs2 := hid (show wr.heap.size ≤ w2.heap.size from hBn.out.size)
      have y0 : (w2.alloc (.cells #[.int .i64 2, .int .i64 0, .int .i64 3, .int .i64 0, .int .i64 19, .int .i64 14, .int .i64 3, .int .i64 0] 69)).cell? ⟨n1, 2, none⟩ = some (.slice none 0 0) := (kp.out.alloc (.cells #[.int .i64 2, .int .i64 0, .int .i64 3, .int .i64 0, .int .i64 19, .int .i64 14, .int .i64 3, .int .i64 0] 69)).cell 2
      have fz0 := (kp.out.alloc (.cells #[.int .i64 2, .int .i64 0, .int .i64 3, .int .i64 0, .int .i64 19, .int .i64 14, .int .i64 3, .int .i64 0] 69)).frozen 2
      have hrow0 := hid (own_full w2 w2.heap.size 69 2 4 #[.int .i64 2, .int .i64 0, .int .i64 3, .int .i64 0, .int .i64 19, .int .i64 14, .int .i64 3, .int .i64 0] (Nat.le_refl _) (by simp only [maxLen]; omega) rfl)
      have kc3 := hid (kc.out.alloc (.cells #[.int .i64 2, .int .i64 0, .int .i64 3, .int .i64 0, .int .i64 19, .int .i64 14, .int .i64 3, .int .i64 0] 69))
      have kp3 := hid (kp.out.alloc (.cells #[.int .i64 2, .int .i64 0, .int .i64 3, .int .i64 0, .int .i64 19, .int .i64 14, .int .i64 3, .int .i64 0] 69))
      go_upto_region 10 with fail
      have u3 := (Upd.refl (fun q => q = n1) (w2.alloc (.cells #[.int .i64 2, .int .i64 0, .int .i64 3, .int .i64 0, .int .i64 19, .int .i64 14, .int .i64 3, .int .i64 0] 69))).setCell (p := ⟨n1, 2, none⟩) (fun _ => rfl) (.slice (some ⟨w2.heap.size, 0, none⟩) 4 4)
      have kp := hid (show Blk _ n1 33 #[.int .i64 1, .slice (some ⟨n0, 0, none⟩) 3 3, .slice (some ⟨w2.heap.size, 0, none⟩) 4 4] from kp3.out.set_ 2 _)
      have kc := hid (kc3.out.upd u3 (by have := hn1.out; omega))
      have hrow := hid (own_updG hrow0.out u3 kp3.out (by decide))
      have hBn := hid ((hBn.out.alloc hBn.out.size (.cells #[.int .i64 2, .int .i64 0, .int .i64 3, .int .i64 0, .int .i64 19, .int .i64 14, .int .i64 3, .int .i64 0] 69)).setCell (p := ⟨n1, 2, none⟩) (by show wr.heap.size ≤ n1; have := hn0.out; have := hn1.out; omega) (.slice (some ⟨w2.heap.size, 0, none⟩) 4 4))
      have hrow := hid (own_base (show wr.heap.size ≤ w2.heap.size from hs2.out) hrow.out)
      clear u3 kc3 kp3 hrow0 y0 fz0
      generalize (w2.alloc (.cells #[.int .i64 2, .int .i64 0, .int .i64 3, .int .i64 0, .int .i64 19, .int .i64 14, .int .i64 3, .int .i64 0] 69)).setCell ⟨n1, 2, none⟩ (.slice (some ⟨w2.heap.size, 0, none⟩) 4 4) = w3 at *
      generalize w2.heap.size = n2 at *
      have y2 : (w3.alloc (.cells #[.int .i64 25, .int .i64 0, .int .i64 1, .int .i64 0, .int .i64 24, .int .i64 0, .int .i64 1, .int .i64 1, .int .i64 22, .int .i64 0, .int .i64 1, .int .i64 1] 69)).cell? ⟨n1, 2, none⟩ = some (.slice (some ⟨n2, 0, none⟩) 4 4) := (kp.out.alloc (.cells #[.int .i64 25, .int .i64 0, .int .i64 1, .int .i64 0, .int .i64 24, .int .i64 0, .int .i64 1, .int .i64 1, .int .i64 22, .int .i64 0, .int .i64 1, .int .i64 1] 69)).cell 2
      have x2 : w3.cell? ⟨n1, 2, none⟩ = some (.slice (some ⟨n2, 0, none⟩) 4 4) := kp.out.cell 2
      have hba := hid ((Below.refl w3.heap.size w3).alloc (Nat.le_refl _) (.cells #[.int .i64 25, .int .i64 0, .int .i64 1, .int .i64 0, .int .i64 24, .int .i64 0, .int .i64 1, .int .i64 1, .int .i64 22, .int .i64 0, .int .i64 1, .int .i64 1] 69))
      go_upto_region 14 with (
        at_builtin
        refine wpList_append_rd _ rfl (.tmp 58) (.tmp 65) 31 rfl wr.heap.size 69 ii _ 2 16 Tryz.underlying31 hii hii0 hii1 hii2 rfl (by omega) (.slice (some ⟨n2, 0, none⟩) 4 4) 4 (#[.int .i64 2, .int .i64 0, .int .i64 3, .int .i64 0, .int .i64 19, .int .i64 14, .int .i64 3, .int .i64 0].toList) rfl (own_below hrow.out hba.out) (fun q => q = w3.heap.size) (some ⟨w3.heap.size, 0, none⟩) 6 6 #[.int .i64 25, .int .i64 0, .int .i64 1, .int .i64 0, .int .i64 24, .int .i64 0, .int .i64 1, .int .i64 1, .int .i64 22, .int .i64 0, .int .i64 1, .int .i64 1].toList rfl (Rd.new w3 69 2 6 #[.int .i64 25, .int .i64 0, .int .i64 1, .int .i64 0, .int .i64 24, .int .i64 0, .int .i64 1, .int .i64 1, .int .i64 22, .int .i64 0, .int .i64 1, .int .i64 1] w3.heap.size rfl rfl) (fun u hu => List.all_eq_true.1 (show List.all #[.int .i64 25, .int .i64 0, .int .i64 1, .int .i64 0, .int .i64 24, .int .i64 0, .int .i64 1, .int .i64 1, .int .i64 22, .int .i64 0, .int .i64 1, .int .i64 1].toList (fun u => u.oneCell') = true from rfl) u hu) (by simp only [maxLen]; omega) (by omega) (by have := hba.out.size; have := hBn.out.size; omega) ?_
        intro v9 w9 hown9 hg9 hat9
        obtain ⟨A4, c4, rfl, _, _⟩ := own_form hown9
        have hu9 : Hid (Upd (fun q => (Value.slice (some ⟨n2, 0, none⟩) 4 4).ownBlock = some q) w3 w9) := hid (((Upd.refl _ w3).alloc _).grown hg9 fun q hq _ => hq)
        have kp9 := hid (blk_updO kp.out hu9.out hrow.out (by decide))
        have kc9 := hid (blk_updO kc.out hu9.out hrow.out (by decide))
        have hBn9 := hid ((hBn.out.alloc hBn.out.size (.cells #[.int .i64 25, .int .i64 0, .int .i64 1, .int .i64 0, .int .i64 24, .int .i64 0, .int .i64 1, .int .i64 1, .int .i64 22, .int .i64 0, .int .i64 1, .int .i64 1] 69)).grown hg9 (by have := hba.out.size; have := hBn.out.size; omega) fun q hq => (hrow.out.lt q hq).1)
        have y3 : w9.cell? ⟨n1, 2, none⟩ = some (.slice (some ⟨n2, 0, none⟩) 4 4) := kp9.out.cell 2
        have fz3 := kp9.out.frozen 2
        have hrow9 := hid hown9
        clear hown9 hg9 hat9 y2 x2)
      have u3 := (Upd.refl (fun q => q = n1) w9).setCell (p := ⟨n1, 2, none⟩) (fun _ => rfl) (.slice A4 10 c4)
      have kp := hid (show Blk _ n1 33 #[.int .i64 1, .slice (some ⟨n0, 0, none⟩) 3 3, .slice A4 10 c4] from kp9.out.set_ 2 _)
      have kc := hid (kc9.out.upd u3 (by have := hn1.out; omega))
      have hrow := hid (own_updG hrow9.out u3 kp9.out (by decide))
      have hBn := hid (hBn9.out.setCell (p := ⟨n1, 2, none⟩) (by show wr.heap.size ≤ n1; have := hn0.out; have := hn1.out; omega) (.slice A4 10 c4))
      clear u3 kc9 kp9 hrow9 hBn9 hu9 hba y3 fz3
      generalize w9.setCell ⟨n1, 2, none⟩ (.slice A4 10 c4) = w4 at *
      have y2 : (w4.alloc (.cells #[.int .i64 8, .int .i64 0, .int .i64 3, .int .i64 0, .int .i64 4, .int .i64 0, .int .i64 18, .int .i64 1, .int .i64 4, .int .i64 0, .int .i64 31, .int .i64 0] 69)).cell? ⟨n1, 2, none⟩ = some (.slice A4 10 c4) := (kp.out.alloc (.cells #[.int .i64 8, .int .i64 0, .int .i64 3, .int .i64 0, .int .i64 4, .int .i64 0, .int .i64 18, .int .i64 1, .int .i64 4, .int .i64 0, .int .i64 31, .int .i64 0] 69)).cell 2
      have x2 : w4.cell? ⟨n1, 2, none⟩ = some (.slice A4 10 c4) := kp.out.cell 2
      have hba := hid ((Below.refl w4.heap.size w4).alloc (Nat.le_refl _) (.cells #[.int .i64 8, .int .i64 0, .int .i64 3, .int .i64 0, .int .i64 4, .int .i64 0, .int .i64 18, .int .i64 1, .int .i64 4, .int .i64 0, .int .i64 31, .int .i64 0] 69))
      go_upto_region 15 with (
        at_builtin
        refine wpList_append_rd _ rfl (.tmp 69) (.tmp 76) 31 rfl wr.heap.size 69 ii _ 2 16 Tryz.underlying31 hii hii0 hii1 hii2 rfl (by omega) (.slice A4 10 c4) 10 (#[.int .i64 2, .int .i64 0, .int .i64 3, .int .i64 0, .int .i64 19, .int .i64 14, .int .i64 3, .int .i64 0].toList ++ #[.int .i64 25, .int .i64 0, .int .i64 1, .int .i64 0, .int .i64 24, .int .i64 0, .int .i64 1, .int .i64 1, .int .i64 22, .int .i64 0, .int .i64 1, .int .i64 1].toList) rfl (own_below hrow.out hba.out) (fun q => q = w4.heap.size) (some ⟨w4.heap.size, 0, none⟩) 6 6 #[.int .i64 8, .int .i64 0, .int .i64 3, .int .i64 0, .int .i64 4, .int .i64 0, .int .i64 18, .int .i64 1, .int .i64 4, .int .i64 0, .int .i64 31, .int .i64 0].toList rfl (Rd.new w4 69 2 6 #[.int .i64 8, .int .i64 0, .int .i64 3, .int .i64 0, .int .i64 4, .int .i64 0, .int .i64 18, .int .i64 1, .int .i64 4, .int .i64 0, .int .i64 31, .int .i64 0] w4.heap.size rfl rfl) (fun u hu => List.all_eq_true.1 (show List.all #[.int .i64 8, .int .i64 0, .int .i64 3, .int .i64 0, .int .i64 4, .int .i64 0, .int .i64 18, .int .i64 1, .int .i64 4, .int .i64 0, .int .i64 31, .int .i64 0].toList (fun u => u.oneCell') = true from rfl) u hu) (by simp only [maxLen]; omega) (by omega) (by have := hba.out.size; have := hBn.out.size; omega) ?_
        intro v9 w9 hown9 hg9 hat9
        obtain ⟨A5, c5, rfl, _, _⟩ := own_form hown9
        have hu9 : Hid (Upd (fun q => (Value.slice A4 10 c4).ownBlock = some q) w4 w9) := hid (((Upd.refl _ w4).alloc _).grown hg9 fun q hq _ => hq)
        have kp9 := hid (blk_updO kp.out hu9.out hrow.out (by decide))
        have kc9 := hid (blk_updO kc.out hu9.out hrow.out (by decide))
        have hBn9 := hid ((hBn.out.alloc hBn.out.size (.cells #[.int .i64 8, .int .i64 0, .int .i64 3, .int .i64 0, .int .i64 4, .int .i64 0, .int .i64 18, .int .i64 1, .int .i64 4, .int .i64 0, .int .i64 31, .int .i64 0] 69)).grown hg9 (by have := hba.out.size; have := hBn.out.size; omega) fun q hq => (hrow.out.lt q hq).1)
        have y3 : w9.cell? ⟨n1, 2, none⟩ = some (.slice A4 10 c4) := kp9.out.cell 2
        have fz3 := kp9.out.frozen 2
        have hrow9 := hid hown9
        clear hown9 hg9 hat9 y2 x2)
      have u3 := (Upd.refl (fun q => q = n1) w9).setCell (p := ⟨n1, 2, none⟩) (fun _ => rfl) (.slice A5 16 c5)
      have kp := hid (show Blk _ n1 33 #[.int .i64 1, .slice (some ⟨n0, 0, none⟩) 3 3, .slice A5 16 c5] from kp9.out.set_ 2 _)
      have kc := hid (kc9.out.upd u3 (by have := hn1.out; omega))
      have hrow := hid (own_updG hrow9.out u3 kp9.out (by decide))
      have hBn := hid (hBn9.out.setCell (p := ⟨n1, 2, none⟩) (by show wr.heap.size ≤ n1; have := hn0.out; have := hn1.out; omega) (.slice A5 16 c5))
      clear u3 kc9 kp9 hrow9 hBn9 hu9 hba y3 fz3
      generalize w9.setCell ⟨n1, 2, none⟩ (.slice A5 16 c5) = w5 at *
      have hW9 : Below w5.heap.size w5 ((w5.alloc (.cells #[.int .i64 1, .int .i64 (n : Nat), .string ⟨#[]⟩] 55)).alloc (.cells #[.slice none 0 0, .slice none 0 0] 50)) := below_two _ _
      have hrun : Hid (Calls Tryz.prog 14 #[.agg #[.int .i64 1, .slice (some ⟨n0, 0, none⟩) 3 3, .slice A5 16 c5], .slice (some ⟨w5.heap.size, 0, none⟩) 1 1, .iface 41 (.pointer (some ⟨w5.heap.size + 1, 0, none⟩)), .int .i64 5000] ((w5.alloc (.cells #[.int .i64 1, .int .i64 (n : Nat), .string ⟨#[]⟩] 55)).alloc (.cells #[.slice none 0 0, .slice none 0 0] 50)) fun e w' => ∃ v, e = .returned v ∧ OcV ((w5.alloc (.cells #[.int .i64 1, .int .i64 (n : Nat), .string ⟨#[]⟩] 55)).alloc (.cells #[.slice none 0 0, .slice none 0 0] 50)).heap.size w' v (runO (limPr 1) [numVl n] [] true 5000) ∧ Upd (fun q => q = w5.heap.size + 1) ((w5.alloc (.cells #[.int .i64 1, .int .i64 (n : Nat), .string ⟨#[]⟩] 55)).alloc (.cells #[.slice none 0 0, .slice none 0 0] 50)) w') := hid (by
        have hsb : Blk ((w5.alloc (.cells #[.int .i64 1, .int .i64 (n : Nat), .string ⟨#[]⟩] 55)).alloc (.cells #[.slice none 0 0, .slice none 0 0] 50)) (w5.heap.size + 1) 50 #[.slice none 0 0, .slice none 0 0] := Blk.new' _ _ _ (by simp)
        have hge : Blk ((w5.alloc (.cells #[.int .i64 1, .int .i64 (n : Nat), .string ⟨#[]⟩] 55)).alloc (.cells #[.slice none 0 0, .slice none 0 0] 50)) w5.heap.size 55 #[.int .i64 1, .int .i64 (n : Nat), .string ⟨#[]⟩] := (Blk.new w5 _ _).alloc _
        have hkc := kc.out.below_all hW9
        have b1 := hBw0.out.trans (hBn.out.mono hBw0.out.size)
        have b2 := b1.trans (hW9.mono b1.size)
        have h := run_all (w := ((w5.alloc (.cells #[.int .i64 1, .int .i64 (n : Nat), .string ⟨#[]⟩] 55)).alloc (.cells #[.slice none 0 0, .slice none 0 0] 50))) (F := ⟨limPr 1, [numVl n], [], some ⟨n0, 0, none⟩, 3, A5, c5, some ⟨w5.heap.size, 0, none⟩, 1, none, 0, w5.heap.size + 1⟩) 5000 ⟨⟨(Rd.blk hkc (size := 3) (n := 3) rfl).more fun q hq hl => ⟨hl, fun e => absurd (blk_ty (show Blk ((w5.alloc (.cells #[.int .i64 1, .int .i64 (n : Nat), .string ⟨#[]⟩] 55)).alloc (.cells #[.slice none 0 0, .slice none 0 0] 50)) (w5.heap.size + 1) 55 #[.int .i64 2, .int .i64 0, .string ⟨#[107]⟩, .int .i64 1, .int .i64 1, .string ⟨#[]⟩, .int .i64 1, .int .i64 0, .string ⟨#[]⟩] from by rw [← (show q = w5.heap.size + 1 from e), hq]; exact hkc) hsb) (by decide)⟩, Rd.away (own_below hrow.out hW9) hsb (by decide), fun x hx => ?_, by show (3 : Nat) ≤ _ ∧ (16 : Nat) ≤ _; omega⟩, (Rd.blk hge (size := 3) (n := 1) rfl).more fun q hq hl => ⟨hl, fun e => by have hq : q = w5.heap.size := hq; have e : q = w5.heap.size + 1 := e; omega⟩, Rd.nil_, hsb, fun W' hW' => he.out.below (b2.trans (hW'.below b2.size fun q hq e => by have e : q = w5.heap.size + 1 := e; have := b1.size; omega))⟩ (by show (1 : Nat) ≤ _; omega) (fun x hx => by rw [List.mem_singleton.1 hx]; show 0 ≤ _; omega) ?_ (fun x hx => by rw [List.mem_singleton.1 hx]; show -9223372036854775808 ≤ (n : Int) ∧ (n : Int) ≤ 9223372036854775807; have := hn.out; omega) (fun x hx => by cases hx) (fun x hx => by cases hx) (by show (0 : Nat) ≤ _; omega)
        · refine h.mono ?_
          rintro e w' ⟨v, h1, h2, _, h4⟩
          exact ⟨v, h1, h2, h4⟩
        · revert x hx
          exact (by decide : ∀ x ∈ [wrdV kB, numVl 1, numVl 0], x.s.size ≤ 9223372036854775806)
        · intro x hx
          have hx : x ∈ [wrdV kB, numVl 1, numVl 0] := hx
          simp only [List.mem_cons, List.not_mem_nil, or_false] at hx
          rcases hx with rfl | rfl | rfl <;> exact ⟨by decide, by decide⟩)
      have hlr := hid (lim_run (k := 1) (n := n) (by decide) hn.out)
      generalize runO (limPr 1) [numVl n] [] true 5000 = o at *
      have hBW := hid (hBn.out.trans (hW9.mono hBn.out.size))
      have x0 := kp.out.cell 0
      have x1 := kp.out.cell 1
      have x2 := kp.out.cell 2
      simp only [List.getElem?_toArray, List.getElem?_cons_zero, List.getElem?_cons_succ] at x0 x1 x2
      clear hW9
      go_wp2_with fail
      refine hrun.out.mono ?_
      rintro e w6 ⟨v, rfl, hoc, hu6⟩
      have hB6 := hid (hBW.out.trans (hu6.below hBW.out.size fun q hq e => by have := hBn.out.size; omega))
      clear hrun x0 x1 x2
      obtain ⟨A1, ac1, A2, ac2, A3, ac3, A4, ac4, rfl, _, _, _, _⟩ := id hoc
      clear hoc hu6
      have ko := hid (show Blk (((w6.alloc (.cells #[.int .i64 o.code, .int .i64 o.at_, .int .i64 o.ab, .slice A1 o.out.length ac1, .slice A2 o.ws.length ac2, .slice A3 o.rd.length ac3, .slice A4 o.wr.length ac4, .int .i64 o.left] 29)).alloc (.cells #[.int .i64 16, .int .i64 32, .int .i64 64] 3)).alloc (.cells #[.int .i64 75, .int .i64 77, .int .i64 78] 3)) w6.heap.size 29 #[.int .i64 o.code, .int .i64 o.at_, .int .i64 o.ab, .slice A1 o.out.length ac1, .slice A2 o.ws.length ac2, .slice A3 o.rd.length ac3, .slice A4 o.wr.length ac4, .int .i64 o.left] from ((Blk.new w6 _ _).alloc _).alloc _)
      have km := hid (show Blk (((w6.alloc (.cells #[.int .i64 o.code, .int .i64 o.at_, .int .i64 o.ab, .slice A1 o.out.length ac1, .slice A2 o.ws.length ac2, .slice A3 o.rd.length ac3, .slice A4 o.wr.length ac4, .int .i64 o.left] 29)).alloc (.cells #[.int .i64 16, .int .i64 32, .int .i64 64] 3)).alloc (.cells #[.int .i64 75, .int .i64 77, .int .i64 78] 3)) (w6.heap.size + 1) 3 #[.int .i64 16, .int .i64 32, .int .i64 64] from (Blk.new' _ _ _ (by simp)).alloc _)
      have ke := hid (show Blk (((w6.alloc (.cells #[.int .i64 o.code, .int .i64 o.at_, .int .i64 o.ab, .slice A1 o.out.length ac1, .slice A2 o.ws.length ac2, .slice A3 o.rd.length ac3, .slice A4 o.wr.length ac4, .int .i64 o.left] 29)).alloc (.cells #[.int .i64 16, .int .i64 32, .int .i64 64] 3)).alloc (.cells #[.int .i64 75, .int .i64 77, .int .i64 78] 3)) (w6.heap.size + 1 + 1) 3 #[.int .i64 75, .int .i64 77, .int .i64 78] from Blk.new' _ _ _ (by simp))
      have hB7 := hid (((hB6.out.alloc hB6.out.size (.cells #[.int .i64 o.code, .int .i64 o.at_, .int .i64 o.ab, .slice A1 o.out.length ac1, .slice A2 o.ws.length ac2, .slice A3 o.rd.length ac3, .slice A4 o.wr.length ac4, .int .i64 o.left] 29)).alloc (by have := hB6.out.size; simp; omega) (.cells #[.int .i64 16, .int .i64 32, .int .i64 64] 3)).alloc (by have := hB6.out.size; simp; omega) (.cells #[.int .i64 75, .int .i64 77, .int .i64 78] 3))
      go_upto_region 18 with fail
      generalize (((w6.alloc (.cells #[.int .i64 o.code, .int .i64 o.at_, .int .i64 o.ab, .slice A1 o.out.length ac1, .slice A2 o.ws.length ac2, .slice A3 o.rd.length ac3, .slice A4 o.wr.length ac4, .int .i64 o.left] 29)).alloc (.cells #[.int .i64 16, .int .i64 32, .int .i64 64] 3)).alloc (.cells #[.int .i64 75, .int .i64 77, .int .i64 78] 3)) = w7 at *
      have hX := hid (fun W (hW : Below w7.heap.size w7 W) => (show W.cell? ⟨w6.heap.size, 0, none⟩ = some (.int .i64 o.code) ∧ W.cell? ⟨w6.heap.size + 1, 1, none⟩ = some (.int .i64 32) ∧ W.cell? ⟨w6.heap.size + 1 + 1, 1, none⟩ = some (.int .i64 77) from ⟨(ko.out.below_all hW).cell 0, (km.out.below_all hW).cell 1, (ke.out.below_all hW).cell 1⟩))
      have hfin := hid (fun W (hW : Below w7.heap.size w7 W) => hBw0.out.trans ((hB7.out.trans (hW.mono hB7.out.size)).mono hBw0.out.size))
      refine wp_region_held_drew (S := fun w'' => Below w7.heap.size w7 w'') (by kernel_rfl) ?_ (fun hHeld => ?_)
      · exact (Below.refl _ _).drew
      have hbd : Hid (Below w7.heap.size w7 w7.drew) := hid ((Below.refl _ _).drew)
      generalize World.drew w7 = wd at *
      by_cases hle : n ≤ 32
      · have hoc : o.code = 0 := by rw [hlr.out]; exact if_pos hle
        rw [hoc] at hX
        have d1 : decide ((n : Int) ≤ 32) = true := decide_eq_true (by omega)
        have d2 : decide (32 < (n : Int)) = false := decide_eq_false (by omega)
        have d2' : decide (32 < n) = false := decide_eq_false (by omega)
        clear hle hoc hlr
        refine tH 0 (v := ?v47) ?h47 ?r47
        case h47 => intro w' hSw; obtain ⟨y0, y1, y2⟩ := hX.out w' hSw; (try dsimp only at hSw); go_simp; try with_reducible rfl
        (try simp only [Act.put, tq1, tq2, tq3, List.getElem_toArray, List.getElem_cons_zero, List.getElem_cons_succ])
        refine tH 1 (v := ?v48) ?h48 ?r48
        case h48 => intro w' hSw; obtain ⟨y0, y1, y2⟩ := hX.out w' hSw; (try dsimp only at hSw); go_simp; try with_reducible rfl
        (try simp only [Act.put, tq1, tq2, tq3, List.getElem_toArray, List.getElem_cons_zero, List.getElem_cons_succ])
        refine tH 2 (v := ?v49) ?h49 ?r49
        case h49 => intro w' hSw; obtain ⟨y0, y1, y2⟩ := hX.out w' hSw; (try dsimp only at hSw); go_simp; try with_reducible rfl
        (try simp only [Act.put, tq1, tq2, tq3, List.getElem_toArray, List.getElem_cons_zero, List.getElem_cons_succ])
        refine tH 3 (v := ?v50) ?h50 ?r50
        case h50 => intro w' hSw; obtain ⟨y0, y1, y2⟩ := hX.out w' hSw; (try dsimp only at hSw); go_simp; try with_reducible rfl
        (try simp only [Act.put, tq1, tq2, tq3, List.getElem_toArray, List.getElem_cons_zero, List.getElem_cons_succ])
        refine tH 4 (v := ?v51) ?h51 ?r51
        case h51 => intro w' hSw; obtain ⟨y0, y1, y2⟩ := hX.out w' hSw; (try dsimp only at hSw); go_simp; try with_reducible rfl
        (try simp only [Act.put, tq1, tq2, tq3, List.getElem_toArray, List.getElem_cons_zero, List.getElem_cons_succ])
        refine tH 5 (v := ?v52) ?h52 ?r52
        case h52 => intro w' hSw; obtain ⟨y0, y1, y2⟩ := hX.out w' hSw; (try dsimp only at hSw); go_simp; try with_reducible rfl
        (try simp only [Act.put, tq1, tq2, tq3, List.getElem_toArray, List.getElem_cons_zero, List.getElem_cons_succ])
        refine tH 6 (v := ?v53) ?h53 ?r53
        case h53 => intro w' hSw; obtain ⟨y0, y1, y2⟩ := hX.out w' hSw; (try dsimp only at hSw); go_simp; try with_reducible rfl
        (try simp only [Act.put, tq1, tq2, tq3, List.getElem_toArray, List.getElem_cons_zero, List.getElem_cons_succ])
        refine tH 7 (v := ?v54) ?h54 ?r54
        case h54 => intro w' hSw; obtain ⟨y0, y1, y2⟩ := hX.out w' hSw; (try dsimp only at hSw); go_simp; try with_reducible rfl
        (try simp only [Act.put, tq1, tq2, tq3, List.getElem_toArray, List.getElem_cons_zero, List.getElem_cons_succ])
        refine tH 8 (v := ?v55) ?h55 ?r55
        case h55 => intro w' hSw; obtain ⟨y0, y1, y2⟩ := hX.out w' hSw; (try dsimp only at hSw); go_simp; try with_reducible rfl
        (try simp only [Act.put, tq1, tq2, tq3, List.getElem_toArray, List.getElem_cons_zero, List.getElem_cons_succ])
        refine wpAnyH_ready (rs := [9]) (by kernel_rfl) (by simp) ?_
        refine AllReadyH.cons rfl (fun K hK => ?_) AllReadyH.nil
        rw [if_pos (by rfl)]
        go_simp
        refine (numI_any _ _).mono ?_
        rintro e wq ⟨rfl, hwq⟩
        obtain rfl := hwq.symm
        refine hK.out _ _ ?_ (fun hHeld => ?_)
        · exact hbd.out
        clear hK K
        (try simp only [Act.put, tq1, tq2, tq3, List.getElem_toArray, List.getElem_cons_zero, List.getElem_cons_succ])
        refine tH 10 (v := ?v56) ?h56 ?r56
        case h56 => intro w' hSw; obtain ⟨y0, y1, y2⟩ := hX.out w' hSw; (try dsimp only at hSw); go_simp; try with_reducible rfl
        (try simp only [Act.put, tq1, tq2, tq3, List.getElem_toArray, List.getElem_cons_zero, List.getElem_cons_succ])
        refine tH 11 (v := ?v57) ?h57 ?r57
        case h57 => intro w' hSw; obtain ⟨y0, y1, y2⟩ := hX.out w' hSw; (try dsimp only at hSw); go_simp; try with_reducible rfl
        (try simp only [Act.put, tq1, tq2, tq3, List.getElem_toArray, List.getElem_cons_zero, List.getElem_cons_succ])
        refine tH 12 (v := ?v58) ?h58 ?r58
        case h58 => intro w' hSw; obtain ⟨y0, y1, y2⟩ := hX.out w' hSw; (try dsimp only at hSw); go_simp; try with_reducible rfl
        (try simp only [Act.put, tq1, tq2, tq3, List.getElem_toArray, List.getElem_cons_zero, List.getElem_cons_succ])
        refine tH 13 (v := ?v59) ?h59 ?r59
        case h59 => intro w' hSw; obtain ⟨y0, y1, y2⟩ := hX.out w' hSw; (try dsimp only at hSw); go_simp; try with_reducible rfl
        (try simp only [Act.put, tq1, tq2, tq3, List.getElem_toArray, List.getElem_cons_zero, List.getElem_cons_succ])
        refine tH 14 (v := ?v60) ?h60 ?r60
        case h60 => intro w' hSw; obtain ⟨y0, y1, y2⟩ := hX.out w' hSw; (try dsimp only at hSw); go_simp; try with_reducible rfl
        (try simp only [Act.put, tq1, tq2, tq3, List.getElem_toArray, List.getElem_cons_zero, List.getElem_cons_succ])
        refine tH 15 (v := ?v61) ?h61 ?r61
        case h61 => intro w' hSw; obtain ⟨y0, y1, y2⟩ := hX.out w' hSw; (try dsimp only at hSw); go_simp; try with_reducible rfl
        (try simp only [Act.put, tq1, tq2, tq3, List.getElem_toArray, List.getElem_cons_zero, List.getElem_cons_succ])
        refine tH 16 (v := ?v62) ?h62 ?r62
        case h62 => intro w' hSw; obtain ⟨y0, y1, y2⟩ := hX.out w' hSw; (try dsimp only at hSw); go_simp; try with_reducible rfl
        (try simp only [Act.put, tq1, tq2, tq3, List.getElem_toArray, List.getElem_cons_zero, List.getElem_cons_succ])
        refine tH 17 (v := ?v63) ?h63 ?r63
        case h63 => intro w' hSw; obtain ⟨y0, y1, y2⟩ := hX.out w' hSw; (try dsimp only at hSw); go_simp; try with_reducible rfl
        (try simp only [Act.put, tq1, tq2, tq3, List.getElem_toArray, List.getElem_cons_zero, List.getElem_cons_succ])
        refine tH 18 (v := ?v64) ?h64 ?r64
        case h64 => intro w' hSw; obtain ⟨y0, y1, y2⟩ := hX.out w' hSw; (try dsimp only at hSw); go_simp; try with_reducible rfl
        (try simp only [Act.put, tq1, tq2, tq3, List.getElem_toArray, List.getElem_cons_zero, List.getElem_cons_succ])
        refine tH 19 (v := ?v65) ?h65 ?r65
        case h65 => intro w' hSw; obtain ⟨y0, y1, y2⟩ := hX.out w' hSw; (try dsimp only at hSw); go_simp; try with_reducible rfl
        (try simp only [Act.put, tq1, tq2, tq3, List.getElem_toArray, List.getElem_cons_zero, List.getElem_cons_succ])
        refine tS 20 ?_
        (try simp only [Act.put, tq1, tq2, tq3, List.getElem_toArray, List.getElem_cons_zero, List.getElem_cons_succ])
        refine tS 21 ?_
        (try simp only [Act.put, tq1, tq2, tq3, List.getElem_toArray, List.getElem_cons_zero, List.getElem_cons_succ])
        refine tS 22 ?_
        (try simp only [Act.put, tq1, tq2, tq3, List.getElem_toArray, List.getElem_cons_zero, List.getElem_cons_succ])
        refine tS 23 ?_
        (try simp only [Act.put, tq1, tq2, tq3, List.getElem_toArray, List.getElem_cons_zero, List.getElem_cons_succ])
        refine tS 24 ?_
        (try simp only [Act.put, tq1, tq2, tq3, List.getElem_toArray, List.getElem_cons_zero, List.getElem_cons_succ])
        refine tS 25 ?_
        (try simp only [Act.put, tq1, tq2, tq3, List.getElem_toArray, List.getElem_cons_zero, List.getElem_cons_succ])
        refine tS 26 ?_
        (try simp only [Act.put, tq1, tq2, tq3, List.getElem_toArray, List.getElem_cons_zero, List.getElem_cons_succ])
        refine tS 27 ?_
        (try simp only [Act.put, tq1, tq2, tq3, List.getElem_toArray, List.getElem_cons_zero, List.getElem_cons_succ])
        refine tH 28 (v := ?v66) ?h66 ?r66
        case h66 => intro w' hSw; obtain ⟨y0, y1, y2⟩ := hX.out w' hSw; (try dsimp only at hSw); go_simp; try with_reducible rfl
        (try simp only [Act.put, tq1, tq2, tq3, List.getElem_toArray, List.getElem_cons_zero, List.getElem_cons_succ])
        refine tH 29 (v := ?v67) ?h67 ?r67
        case h67 => intro w' hSw; obtain ⟨y0, y1, y2⟩ := hX.out w' hSw; (try dsimp only at hSw); go_simp; try with_reducible rfl
        (try simp only [Act.put, tq1, tq2, tq3, List.getElem_toArray, List.getElem_cons_zero, List.getElem_cons_succ])
        refine wpAnyH_done (by kernel_rfl) ?_ _
        go_wp2_with fail
        go_roundw
        case rel => exact ⟨2, by first | rfl | (simp), by omega, hfin.out _ hbd.out⟩
        case measure => simp [intOf]
      · have hoc : o.code = 77 := by rw [hlr.out]; exact if_neg hle
        rw [hoc] at hX
        have d1 : decide ((n : Int) ≤ 32) = false := decide_eq_false (by omega)
        have d2 : decide (32 < (n : Int)) = true := decide_eq_true (by omega)
        have d2' : decide (32 < n) = true := decide_eq_true (by omega)
        clear hle hoc hlr
        refine tH 0 (v := ?v68) ?h68 ?r68
        case h68 => intro w' hSw; obtain ⟨y0, y1, y2⟩ := hX.out w' hSw; (try dsimp only at hSw); go_simp; try with_reducible rfl
        (try simp only [Act.put, tq1, tq2, tq3, List.getElem_toArray, List.getElem_cons_zero, List.getElem_cons_succ])
        refine tH 1 (v := ?v69) ?h69 ?r69
        case h69 => intro w' hSw; obtain ⟨y0, y1, y2⟩ := hX.out w' hSw; (try dsimp only at hSw); go_simp; try with_reducible rfl
        (try simp only [Act.put, tq1, tq2, tq3, List.getElem_toArray, List.getElem_cons_zero, List.getElem_cons_succ])
        refine tH 2 (v := ?v70) ?h70 ?r70
        case h70 => intro w' hSw; obtain ⟨y0, y1, y2⟩ := hX.out w' hSw; (try dsimp only at hSw); go_simp; try with_reducible rfl
        (try simp only [Act.put, tq1, tq2, tq3, List.getElem_toArray, List.getElem_cons_zero, List.getElem_cons_succ])
        refine tH 3 (v := ?v71) ?h71 ?r71
        case h71 => intro w' hSw; obtain ⟨y0, y1, y2⟩ := hX.out w' hSw; (try dsimp only at hSw); go_simp; try with_reducible rfl
        (try simp only [Act.put, tq1, tq2, tq3, List.getElem_toArray, List.getElem_cons_zero, List.getElem_cons_succ])
        refine tH 4 (v := ?v72) ?h72 ?r72
        case h72 => intro w' hSw; obtain ⟨y0, y1, y2⟩ := hX.out w' hSw; (try dsimp only at hSw); go_simp; try with_reducible rfl
        (try simp only [Act.put, tq1, tq2, tq3, List.getElem_toArray, List.getElem_cons_zero, List.getElem_cons_succ])
        refine tH 5 (v := ?v73) ?h73 ?r73
        case h73 => intro w' hSw; obtain ⟨y0, y1, y2⟩ := hX.out w' hSw; (try dsimp only at hSw); go_simp; try with_reducible rfl
        (try simp only [Act.put, tq1, tq2, tq3, List.getElem_toArray, List.getElem_cons_zero, List.getElem_cons_succ])
        refine tH 6 (v := ?v74) ?h74 ?r74
        case h74 => intro w' hSw; obtain ⟨y0, y1, y2⟩ := hX.out w' hSw; (try dsimp only at hSw); go_simp; try with_reducible rfl
        (try simp only [Act.put, tq1, tq2, tq3, List.getElem_toArray, List.getElem_cons_zero, List.getElem_cons_succ])
        refine tS 7 ?_
        (try simp only [Act.put, tq1, tq2, tq3, List.getElem_toArray, List.getElem_cons_zero, List.getElem_cons_succ])
        refine tS 8 ?_
        (try simp only [Act.put, tq1, tq2, tq3, List.getElem_toArray, List.getElem_cons_zero, List.getElem_cons_succ])
        refine tS 9 ?_
        (try simp only [Act.put, tq1, tq2, tq3, List.getElem_toArray, List.getElem_cons_zero, List.getElem_cons_succ])
        refine tS 10 ?_
        (try simp only [Act.put, tq1, tq2, tq3, List.getElem_toArray, List.getElem_cons_zero, List.getElem_cons_succ])
        refine tH 11 (v := ?v75) ?h75 ?r75
        case h75 => intro w' hSw; obtain ⟨y0, y1, y2⟩ := hX.out w' hSw; (try dsimp only at hSw); go_simp; try with_reducible rfl
        (try simp only [Act.put, tq1, tq2, tq3, List.getElem_toArray, List.getElem_cons_zero, List.getElem_cons_succ])
        refine tH 12 (v := ?v76) ?h76 ?r76
        case h76 => intro w' hSw; obtain ⟨y0, y1, y2⟩ := hX.out w' hSw; (try dsimp only at hSw); go_simp; try with_reducible rfl
        (try simp only [Act.put, tq1, tq2, tq3, List.getElem_toArray, List.getElem_cons_zero, List.getElem_cons_succ])
        refine tH 13 (v := ?v77) ?h77 ?r77
        case h77 => intro w' hSw; obtain ⟨y0, y1, y2⟩ := hX.out w' hSw; (try dsimp only at hSw); go_simp; try with_reducible rfl
        (try simp only [Act.put, tq1, tq2, tq3, List.getElem_toArray, List.getElem_cons_zero, List.getElem_cons_succ])
        refine tH 14 (v := ?v78) ?h78 ?r78
        case h78 => intro w' hSw; obtain ⟨y0, y1, y2⟩ := hX.out w' hSw; (try dsimp only at hSw); go_simp; try with_reducible rfl
        (try simp only [Act.put, tq1, tq2, tq3, List.getElem_toArray, List.getElem_cons_zero, List.getElem_cons_succ])
        refine tH 15 (v := ?v79) ?h79 ?r79
        case h79 => intro w' hSw; obtain ⟨y0, y1, y2⟩ := hX.out w' hSw; (try dsimp only at hSw); go_simp; try with_reducible rfl
        (try simp only [Act.put, tq1, tq2, tq3, List.getElem_toArray, List.getElem_cons_zero, List.getElem_cons_succ])
        refine tH 16 (v := ?v80) ?h80 ?r80
        case h80 => intro w' hSw; obtain ⟨y0, y1, y2⟩ := hX.out w' hSw; (try dsimp only at hSw); go_simp; try with_reducible rfl
        (try simp only [Act.put, tq1, tq2, tq3, List.getElem_toArray, List.getElem_cons_zero, List.getElem_cons_succ])
        refine tH 17 (v := ?v81) ?h81 ?r81
        case h81 => intro w' hSw; obtain ⟨y0, y1, y2⟩ := hX.out w' hSw; (try dsimp only at hSw); go_simp; try with_reducible rfl
        (try simp only [Act.put, tq1, tq2, tq3, List.getElem_toArray, List.getElem_cons_zero, List.getElem_cons_succ])
        refine tH 18 (v := ?v82) ?h82 ?r82
        case h82 => intro w' hSw; obtain ⟨y0, y1, y2⟩ := hX.out w' hSw; (try dsimp only at hSw); go_simp; try with_reducible rfl
        (try simp only [Act.put, tq1, tq2, tq3, List.getElem_toArray, List.getElem_cons_zero, List.getElem_cons_succ])
        refine tH 19 (v := ?v83) ?h83 ?r83
        case h83 => intro w' hSw; obtain ⟨y0, y1, y2⟩ := hX.out w' hSw; (try dsimp only at hSw); go_simp; try with_reducible rfl
        (try simp only [Act.put, tq1, tq2, tq3, List.getElem_toArray, List.getElem_cons_zero, List.getElem_cons_succ])
        refine tH 20 (v := ?v84) ?h84 ?r84
        case h84 => intro w' hSw; obtain ⟨y0, y1, y2⟩ := hX.out w' hSw; (try dsimp only at hSw); go_simp; try with_reducible rfl
        (try simp only [Act.put, tq1, tq2, tq3, List.getElem_toArray, List.getElem_cons_zero, List.getElem_cons_succ])
        refine tH 21 (v := ?v85) ?h85 ?r85
        case h85 => intro w' hSw; obtain ⟨y0, y1, y2⟩ := hX.out w' hSw; (try dsimp only at hSw); go_simp; try with_reducible rfl
        (try simp only [Act.put, tq1, tq2, tq3, List.getElem_toArray, List.getElem_cons_zero, List.getElem_cons_succ])
        refine tH 23 (v := ?v86) ?h86 ?r86
        case h86 => intro w' hSw; obtain ⟨y0, y1, y2⟩ := hX.out w' hSw; (try dsimp only at hSw); go_simp; try with_reducible rfl
        (try simp only [Act.put, tq1, tq2, tq3, List.getElem_toArray, List.getElem_cons_zero, List.getElem_cons_succ])
        refine tH 24 (v := ?v87) ?h87 ?r87
        case h87 => intro w' hSw; obtain ⟨y0, y1, y2⟩ := hX.out w' hSw; (try dsimp only at hSw); go_simp; try with_reducible rfl
        (try simp only [Act.put, tq1, tq2, tq3, List.getElem_toArray, List.getElem_cons_zero, List.getElem_cons_succ])
        refine tH 25 (v := ?v88) ?h88 ?r88
        case h88 => intro w' hSw; obtain ⟨y0, y1, y2⟩ := hX.out w' hSw; (try dsimp only at hSw); go_simp; try with_reducible rfl
        (try simp only [Act.put, tq1, tq2, tq3, List.getElem_toArray, List.getElem_cons_zero, List.getElem_cons_succ])
        refine tH 26 (v := ?v89) ?h89 ?r89
        case h89 => intro w' hSw; obtain ⟨y0, y1, y2⟩ := hX.out w' hSw; (try dsimp only at hSw); go_simp; try with_reducible rfl
        (try simp only [Act.put, tq1, tq2, tq3, List.getElem_toArray, List.getElem_cons_zero, List.getElem_cons_succ])
        refine wpAnyH_ready (rs := [22]) (by kernel_rfl) (by simp) ?_
        refine AllReadyH.cons rfl (fun K hK => ?_) AllReadyH.nil
        rw [if_pos (by rfl)]
        go_simp
        refine (numI_any _ _).mono ?_
        rintro e wq ⟨rfl, hwq⟩
        obtain rfl := hwq.symm
        refine hK.out _ _ ?_ (fun hHeld => ?_)
        · exact hbd.out
        clear hK K
        (try simp only [Act.put, tq1, tq2, tq3, List.getElem_toArray, List.getElem_cons_zero, List.getElem_cons_succ])
        refine tH 27 (v := ?v90) ?h90 ?r90
        case h90 => intro w' hSw; obtain ⟨y0, y1, y2⟩ := hX.out w' hSw; (try dsimp only at hSw); go_simp; try with_reducible rfl
        (try simp only [Act.put, tq1, tq2, tq3, List.getElem_toArray, List.getElem_cons_zero, List.getElem_cons_succ])
        refine tH 28 (v := ?v91) ?h91 ?r91
        case h91 => intro w' hSw; obtain ⟨y0, y1, y2⟩ := hX.out w' hSw; (try dsimp only at hSw); go_simp; try with_reducible rfl
        (try simp only [Act.put, tq1, tq2, tq3, List.getElem_toArray, List.getElem_cons_zero, List.getElem_cons_succ])
        refine tH 29 (v := ?v92) ?h92 ?r92
        case h92 => intro w' hSw; obtain ⟨y0, y1, y2⟩ := hX.out w' hSw; (try dsimp only at hSw); go_simp; try with_reducible rfl
        (try simp only [Act.put, tq1, tq2, tq3, List.getElem_toArray, List.getElem_cons_zero, List.getElem_cons_succ])
        refine wpAnyH_done (by kernel_rfl) ?_ _
        go_wp2_with fail
        go_roundw
        case rel => exact ⟨2, by first | rfl | (simp), by omega, hfin.out _ hbd.out⟩
        case measure => simp [intOf]
    · go_upto_region 7 with fail
      have hb9 : Below wr.heap.size wr ((wr.alloc (.cells #[.int .i64 2, .int .i64 0, .string ⟨#[107]⟩, .int .i64 1, .int .i64 1, .string ⟨#[]⟩, .int .i64 1, .int .i64 0, .string ⟨#[]⟩] 55)).alloc (.cells #[.int .i64 1, .slice (some ⟨wr.heap.size, 0, none⟩) 3 3, .slice none 0 0] 33)) := below_two _ _
      have kc := hid (show Blk ((wr.alloc (.cells #[.int .i64 2, .int .i64 0, .string ⟨#[107]⟩, .int .i64 1, .int .i64 1, .string ⟨#[]⟩, .int .i64 1, .int .i64 0, .string ⟨#[]⟩] 55)).alloc (.cells #[.int .i64 1, .slice (some ⟨wr.heap.size, 0, none⟩) 3 3, .slice none 0 0] 33)) wr.heap.size 55 #[.int .i64 2, .int .i64 0, .string ⟨#[107]⟩, .int .i64 1, .int .i64 1, .string ⟨#[]⟩, .int .i64 1, .int .i64 0, .string ⟨#[]⟩] from (Blk.new wr _ _).alloc _)
      have kp := hid (show Blk ((wr.alloc (.cells #[.int .i64 2, .int .i64 0, .string ⟨#[107]⟩, .int .i64 1, .int .i64 1, .string ⟨#[]⟩, .int .i64 1, .int .i64 0, .string ⟨#[]⟩] 55)).alloc (.cells #[.int .i64 1, .slice (some ⟨wr.heap.size, 0, none⟩) 3 3, .slice none 0 0] 33)) (wr.heap.size + 1) 33 #[.int .i64 1, .slice (some ⟨wr.heap.size, 0, none⟩) 3 3, .slice none 0 0] from Blk.new' _ _ _ (by simp))
      have hBn := hid hb9
      have hBw0 := hid hBw.out
      clear hb9 hBw
      generalize ((wr.alloc (.cells #[.int .i64 2, .int .i64 0, .string ⟨#[107]⟩, .int .i64 1, .int .i64 1, .string ⟨#[]⟩, .int .i64 1, .int .i64 0, .string ⟨#[]⟩] 55)).alloc (.cells #[.int .i64 1, .slice (some ⟨wr.heap.size, 0, none⟩) 3 3, .slice none 0 0] 33)) = w2 at *
      obtain ⟨n0, hn0⟩ : ∃ n0, Hid (wr.heap.size = n0) := ⟨_, hid rfl⟩
      rw [hn0.out] at kc kp ⊢
      obtain ⟨n1, hn1⟩ : ∃ n1, Hid (n0 + 1 = n1) := ⟨_, hid rfl⟩
      rw [hn1.out] at kp ⊢
      have hs2 := hid (show wr.heap.size ≤ w2.heap.size from hBn.out.size)
      have y0 : (w2.alloc (.cells #[.int .i64 2, .int .i64 0, .int .i64 3, .int .i64 0, .int .i64 19, .int .i64 14, .int .i64 3, .int .i64 0] 69)).cell? ⟨n1, 2, none⟩ = some (.slice none 0 0) := (kp.out.alloc (.cells #[.int .i64 2, .int .i64 0, .int .i64 3, .int .i64 0, .int .i64 19, .int .i64 14, .int .i64 3, .int .i64 0] 69)).cell 2
      have fz0 := (kp.out.alloc (.cells #[.int .i64 2, .int .i64 0, .int .i64 3, .int .i64 0, .int .i64 19, .int .i64 14, .int .i64 3, .int .i64 0] 69)).frozen 2
      have hrow0 := hid (own_full w2 w2.heap.size 69 2 4 #[.int .i64 2, .int .i64 0, .int .i64 3, .int .i64 0, .int .i64 19, .int .i64 14, .int .i64 3, .int .i64 0] (Nat.le_refl _) (by simp only [maxLen]; omega) rfl)
      have kc3 := hid (kc.out.alloc (.cells #[.int .i64 2, .int .i64 0, .int .i64 3, .int .i64 0, .int .i64 19, .int .i64 14, .int .i64 3, .int .i64 0] 69))
      have kp3 := hid (kp.out.alloc (.cells #[.int .i64 2, .int .i64 0, .int .i64 3, .int .i64 0, .int .i64 19, .int .i64 14, .int .i64 3, .int .i64 0] 69))
      go_upto_region 10 with fail
      have u3 := (Upd.refl (fun q => q = n1) (w2.alloc (.cells #[.int .i64 2, .int .i64 0, .int .i64 3, .int .i64 0, .int .i64 19, .int .i64 14, .int .i64 3, .int .i64 0] 69))).setCell (p := ⟨n1, 2, none⟩) (fun _ => rfl) (.slice (some ⟨w2.heap.size, 0, none⟩) 4 4)
      have kp := hid (show Blk _ n1 33 #[.int .i64 1, .slice (some ⟨n0, 0, none⟩) 3 3, .slice (some ⟨w2.heap.size, 0, none⟩) 4 4] from kp3.out.set_ 2 _)
      have kc := hid (kc3.out.upd u3 (by have := hn1.out; omega))
      have hrow := hid (own_updG hrow0.out u3 kp3.out (by decide))
      have hBn := hid ((hBn.out.alloc hBn.out.size (.cells #[.int .i64 2, .int .i64 0, .int .i64 3, .int .i64 0, .int .i64 19, .int .i64 14, .int .i64 3, .int .i64 0] 69)).setCell (p := ⟨n1, 2, none⟩) (by show wr.heap.size ≤ n1; have := hn0.out; have := hn1.out; omega) (.slice (some ⟨w2.heap.size, 0, none⟩) 4 4))
      have hrow := hid (own_base (show wr.heap.size ≤ w2.heap.size from hs2.out) hrow.out)
      clear u3 kc3 kp3 hrow0 y0 fz0
      generalize (w2.alloc (.cells #[.int .i64 2, .int .i64 0, .int .i64 3, .int .i64 0, .int .i64 19, .int .i64 14, .int .i64 3, .int .i64 0] 69)).setCell ⟨n1, 2, none⟩ (.slice (some ⟨w2.heap.size, 0, none⟩) 4 4) = w3 at *
      generalize w2.heap.size = n2 at *
      have y2 : (w3.alloc (.cells #[.int .i64 25, .int .i64 0, .int .i64 1, .int .i64 0, .int .i64 24, .int .i64 0, .int .i64 20, .int .i64 0, .int .i64 4, .int .i64 0, .int .i64 1, .int .i64 1] 69)).cell? ⟨n1, 2, none⟩ = some (.slice (some ⟨n2, 0, none⟩) 4 4) := (kp.out.alloc (.cells #[.int .i64 25, .int .i64 0, .int .i64 1, .int .i64 0, .int .i64 24, .int .i64 0, .int .i64 20, .int .i64 0, .int .i64 4, .int .i64 0, .int .i64 1, .int .i64 1] 69)).cell 2
      have x2 : w3.cell? ⟨n1, 2, none⟩ = some (.slice (some ⟨n2, 0, none⟩) 4 4) := kp.out.cell 2
      have hba := hid ((Below.refl w3.heap.size w3).alloc (Nat.le_refl _) (.cells #[.int .i64 25, .int .i64 0, .int .i64 1, .int .i64 0, .int .i64 24, .int .i64 0, .int .i64 20, .int .i64 0, .int .i64 4, .int .i64 0, .int .i64 1, .int .i64 1] 69))
      go_upto_region 14 with (
        at_builtin
        refine wpList_append_rd _ rfl (.tmp 32) (.tmp 39) 31 rfl wr.heap.size 69 ii _ 2 16 Tryz.underlying31 hii hii0 hii1 hii2 rfl (by omega) (.slice (some ⟨n2, 0, none⟩) 4 4) 4 (#[.int .i64 2, .int .i64 0, .int .i64 3, .int .i64 0, .int .i64 19, .int .i64 14, .int .i64 3, .int .i64 0].toList) rfl (own_below hrow.out hba.out) (fun q => q = w3.heap.size) (some ⟨w3.heap.size, 0, none⟩) 6 6 #[.int .i64 25, .int .i64 0, .int .i64 1, .int .i64 0, .int .i64 24, .int .i64 0, .int .i64 20, .int .i64 0, .int .i64 4, .int .i64 0, .int .i64 1, .int .i64 1].toList rfl (Rd.new w3 69 2 6 #[.int .i64 25, .int .i64 0, .int .i64 1, .int .i64 0, .int .i64 24, .int .i64 0, .int .i64 20, .int .i64 0, .int .i64 4, .int .i64 0, .int .i64 1, .int .i64 1] w3.heap.size rfl rfl) (fun u hu => List.all_eq_true.1 (show List.all #[.int .i64 25, .int .i64 0, .int .i64 1, .int .i64 0, .int .i64 24, .int .i64 0, .int .i64 20, .int .i64 0, .int .i64 4, .int .i64 0, .int .i64 1, .int .i64 1].toList (fun u => u.oneCell') = true from rfl) u hu) (by simp only [maxLen]; omega) (by omega) (by have := hba.out.size; have := hBn.out.size; omega) ?_
        intro v9 w9 hown9 hg9 hat9
        obtain ⟨A4, c4, rfl, _, _⟩ := own_form hown9
        have hu9 : Hid (Upd (fun q => (Value.slice (some ⟨n2, 0, none⟩) 4 4).ownBlock = some q) w3 w9) := hid (((Upd.refl _ w3).alloc _).grown hg9 fun q hq _ => hq)
        have kp9 := hid (blk_updO kp.out hu9.out hrow.out (by decide))
        have kc9 := hid (blk_updO kc.out hu9.out hrow.out (by decide))
        have hBn9 := hid ((hBn.out.alloc hBn.out.size (.cells #[.int .i64 25, .int .i64 0, .int .i64 1, .int .i64 0, .int .i64 24, .int .i64 0, .int .i64 20, .int .i64 0, .int .i64 4, .int .i64 0, .int .i64 1, .int .i64 1] 69)).grown hg9 (by have := hba.out.size; have := hBn.out.size; omega) fun q hq => (hrow.out.lt q hq).1)
        have y3 : w9.cell? ⟨n1, 2, none⟩ = some (.slice (some ⟨n2, 0, none⟩) 4 4) := kp9.out.cell 2
        have fz3 := kp9.out.frozen 2
        have hrow9 := hid hown9
        clear hown9 hg9 hat9 y2 x2)
      have u3 := (Upd.refl (fun q => q = n1) w9).setCell (p := ⟨n1, 2, none⟩) (fun _ => rfl) (.slice A4 10 c4)
      have kp := hid (show Blk _ n1 33 #[.int .i64 1, .slice (some ⟨n0, 0, none⟩) 3 3, .slice A4 10 c4] from kp9.out.set_ 2 _)
      have kc := hid (kc9.out.upd u3 (by have := hn1.out; omega))
      have hrow := hid (own_updG hrow9.out u3 kp9.out (by decide))
      have hBn := hid (hBn9.out.setCell (p := ⟨n1, 2, none⟩) (by show wr.heap.size ≤ n1; have := hn0.out; have := hn1.out; omega) (.slice A4 10 c4))
      clear u3 kc9 kp9 hrow9 hBn9 hu9 hba y3 fz3
      generalize w9.setCell ⟨n1, 2, none⟩ (.slice A4 10 c4) = w4 at *
      have y2 : (w4.alloc (.cells #[.int .i64 8, .int .i64 0, .int .i64 3, .int .i64 0, .int .i64 4, .int .i64 0, .int .i64 18, .int .i64 1, .int .i64 4, .int .i64 0, .int .i64 31, .int .i64 0] 69)).cell? ⟨n1, 2, none⟩ = some (.slice A4 10 c4) := (kp.out.alloc (.cells #[.int .i64 8, .int .i64 0, .int .i64 3, .int .i64 0, .int .i64 4, .int .i64 0, .int .i64 18, .int .i64 1, .int .i64 4, .int .i64 0, .int .i64 31, .int .i64 0] 69)).cell 2
      have x2 : w4.cell? ⟨n1, 2, none⟩ = some (.slice A4 10 c4) := kp.out.cell 2
      have hba := hid ((Below.refl w4.heap.size w4).alloc (Nat.le_refl _) (.cells #[.int .i64 8, .int .i64 0, .int .i64 3, .int .i64 0, .int .i64 4, .int .i64 0, .int .i64 18, .int .i64 1, .int .i64 4, .int .i64 0, .int .i64 31, .int .i64 0] 69))
      go_upto_region 15 with (
        at_builtin
        refine wpList_append_rd _ rfl (.tmp 69) (.tmp 76) 31 rfl wr.heap.size 69 ii _ 2 16 Tryz.underlying31 hii hii0 hii1 hii2 rfl (by omega) (.slice A4 10 c4) 10 (#[.int .i64 2, .int .i64 0, .int .i64 3, .int .i64 0, .int .i64 19, .int .i64 14, .int .i64 3, .int .i64 0].toList ++ #[.int .i64 25, .int .i64 0, .int .i64 1, .int .i64 0, .int .i64 24, .int .i64 0, .int .i64 20, .int .i64 0, .int .i64 4, .int .i64 0, .int .i64 1, .int .i64 1].toList) rfl (own_below hrow.out hba.out) (fun q => q = w4.heap.size) (some ⟨w4.heap.size, 0, none⟩) 6 6 #[.int .i64 8, .int .i64 0, .int .i64 3, .int .i64 0, .int .i64 4, .int .i64 0, .int .i64 18, .int .i64 1, .int .i64 4, .int .i64 0, .int .i64 31, .int .i64 0].toList rfl (Rd.new w4 69 2 6 #[.int .i64 8, .int .i64 0, .int .i64 3, .int .i64 0, .int .i64 4, .int .i64 0, .int .i64 18, .int .i64 1, .int .i64 4, .int .i64 0, .int .i64 31, .int .i64 0] w4.heap.size rfl rfl) (fun u hu => List.all_eq_true.1 (show List.all #[.int .i64 8, .int .i64 0, .int .i64 3, .int .i64 0, .int .i64 4, .int .i64 0, .int .i64 18, .int .i64 1, .int .i64 4, .int .i64 0, .int .i64 31, .int .i64 0].toList (fun u => u.oneCell') = true from rfl) u hu) (by simp only [maxLen]; omega) (by omega) (by have := hba.out.size; have := hBn.out.size; omega) ?_
        intro v9 w9 hown9 hg9 hat9
        obtain ⟨A5, c5, rfl, _, _⟩ := own_form hown9
        have hu9 : Hid (Upd (fun q => (Value.slice A4 10 c4).ownBlock = some q) w4 w9) := hid (((Upd.refl _ w4).alloc _).grown hg9 fun q hq _ => hq)
        have kp9 := hid (blk_updO kp.out hu9.out hrow.out (by decide))
        have kc9 := hid (blk_updO kc.out hu9.out hrow.out (by decide))
        have hBn9 := hid ((hBn.out.alloc hBn.out.size (.cells #[.int .i64 8, .int .i64 0, .int .i64 3, .int .i64 0, .int .i64 4, .int .i64 0, .int .i64 18, .int .i64 1, .int .i64 4, .int .i64 0, .int .i64 31, .int .i64 0] 69)).grown hg9 (by have := hba.out.size; have := hBn.out.size; omega) fun q hq => (hrow.out.lt q hq).1)
        have y3 : w9.cell? ⟨n1, 2, none⟩ = some (.slice A4 10 c4) := kp9.out.cell 2
        have fz3 := kp9.out.frozen 2
        have hrow9 := hid hown9
        clear hown9 hg9 hat9 y2 x2)
      have u3 := (Upd.refl (fun q => q = n1) w9).setCell (p := ⟨n1, 2, none⟩) (fun _ => rfl) (.slice A5 16 c5)
      have kp := hid (show Blk _ n1 33 #[.int .i64 1, .slice (some ⟨n0, 0, none⟩) 3 3, .slice A5 16 c5] from kp9.out.set_ 2 _)
      have kc := hid (kc9.out.upd u3 (by have := hn1.out; omega))
      have hrow := hid (own_updG hrow9.out u3 kp9.out (by decide))
      have hBn := hid (hBn9.out.setCell (p := ⟨n1, 2, none⟩) (by show wr.heap.size ≤ n1; have := hn0.out; have := hn1.out; omega) (.slice A5 16 c5))
      clear u3 kc9 kp9 hrow9 hBn9 hu9 hba y3 fz3
      generalize w9.setCell ⟨n1, 2, none⟩ (.slice A5 16 c5) = w5 at *
      have hW9 : Below w5.heap.size w5 ((w5.alloc (.cells #[.int .i64 1, .int .i64 (n : Nat), .string ⟨#[]⟩] 55)).alloc (.cells #[.slice none 0 0, .slice none 0 0] 50)) := below_two _ _
      have hrun : Hid (Calls Tryz.prog 14 #[.agg #[.int .i64 1, .slice (some ⟨n0, 0, none⟩) 3 3, .slice A5 16 c5], .slice (some ⟨w5.heap.size, 0, none⟩) 1 1, .iface 41 (.pointer (some ⟨w5.heap.size + 1, 0, none⟩)), .int .i64 5000] ((w5.alloc (.cells #[.int .i64 1, .int .i64 (n : Nat), .string ⟨#[]⟩] 55)).alloc (.cells #[.slice none 0 0, .slice none 0 0] 50)) fun e w' => ∃ v, e = .returned v ∧ OcV ((w5.alloc (.cells #[.int .i64 1, .int .i64 (n : Nat), .string ⟨#[]⟩] 55)).alloc (.cells #[.slice none 0 0, .slice none 0 0] 50)).heap.size w' v (runO (limPr 2) [numVl n] [] true 5000) ∧ Upd (fun q => q = w5.heap.size + 1) ((w5.alloc (.cells #[.int .i64 1, .int .i64 (n : Nat), .string ⟨#[]⟩] 55)).alloc (.cells #[.slice none 0 0, .slice none 0 0] 50)) w') := hid (by
        have hsb : Blk ((w5.alloc (.cells #[.int .i64 1, .int .i64 (n : Nat), .string ⟨#[]⟩] 55)).alloc (.cells #[.slice none 0 0, .slice none 0 0] 50)) (w5.heap.size + 1) 50 #[.slice none 0 0, .slice none 0 0] := Blk.new' _ _ _ (by simp)
        have hge : Blk ((w5.alloc (.cells #[.int .i64 1, .int .i64 (n : Nat), .string ⟨#[]⟩] 55)).alloc (.cells #[.slice none 0 0, .slice none 0 0] 50)) w5.heap.size 55 #[.int .i64 1, .int .i64 (n : Nat), .string ⟨#[]⟩] := (Blk.new w5 _ _).alloc _
        have hkc := kc.out.below_all hW9
        have b1 := hBw0.out.trans (hBn.out.mono hBw0.out.size)
        have b2 := b1.trans (hW9.mono b1.size)
        have h := run_all (w := ((w5.alloc (.cells #[.int .i64 1, .int .i64 (n : Nat), .string ⟨#[]⟩] 55)).alloc (.cells #[.slice none 0 0, .slice none 0 0] 50))) (F := ⟨limPr 2, [numVl n], [], some ⟨n0, 0, none⟩, 3, A5, c5, some ⟨w5.heap.size, 0, none⟩, 1, none, 0, w5.heap.size + 1⟩) 5000 ⟨⟨(Rd.blk hkc (size := 3) (n := 3) rfl).more fun q hq hl => ⟨hl, fun e => absurd (blk_ty (show Blk ((w5.alloc (.cells #[.int .i64 1, .int .i64 (n : Nat), .string ⟨#[]⟩] 55)).alloc (.cells #[.slice none 0 0, .slice none 0 0] 50)) (w5.heap.size + 1) 55 #[.int .i64 2, .int .i64 0, .string ⟨#[107]⟩, .int .i64 1, .int .i64 1, .string ⟨#[]⟩, .int .i64 1, .int .i64 0, .string ⟨#[]⟩] from by rw [← (show q = w5.heap.size + 1 from e), hq]; exact hkc) hsb) (by decide)⟩, Rd.away (own_below hrow.out hW9) hsb (by decide), fun x hx => ?_, by show (3 : Nat) ≤ _ ∧ (16 : Nat) ≤ _; omega⟩, (Rd.blk hge (size := 3) (n := 1) rfl).more fun q hq hl => ⟨hl, fun e => by have hq : q = w5.heap.size := hq; have e : q = w5.heap.size + 1 := e; omega⟩, Rd.nil_, hsb, fun W' hW' => he.out.below (b2.trans (hW'.below b2.size fun q hq e => by have e : q = w5.heap.size + 1 := e; have := b1.size; omega))⟩ (by show (1 : Nat) ≤ _; omega) (fun x hx => by rw [List.mem_singleton.1 hx]; show 0 ≤ _; omega) ?_ (fun x hx => by rw [List.mem_singleton.1 hx]; show -9223372036854775808 ≤ (n : Int) ∧ (n : Int) ≤ 9223372036854775807; have := hn.out; omega) (fun x hx => by cases hx) (fun x hx => by cases hx) (by show (0 : Nat) ≤ _; omega)
        · refine h.mono ?_
          rintro e w' ⟨v, h1, h2, _, h4⟩
          exact ⟨v, h1, h2, h4⟩
        · revert x hx
          exact (by decide : ∀ x ∈ [wrdV kB, numVl 1, numVl 0], x.s.size ≤ 9223372036854775806)
        · intro x hx
          have hx : x ∈ [wrdV kB, numVl 1, numVl 0] := hx
          simp only [List.mem_cons, List.not_mem_nil, or_false] at hx
          rcases hx with rfl | rfl | rfl <;> exact ⟨by decide, by decide⟩)
      have hlr := hid (lim_run (k := 2) (n := n) (by decide) hn.out)
      generalize runO (limPr 2) [numVl n] [] true 5000 = o at *
      have hBW := hid (hBn.out.trans (hW9.mono hBn.out.size))
      have x0 := kp.out.cell 0
      have x1 := kp.out.cell 1
      have x2 := kp.out.cell 2
      simp only [List.getElem?_toArray, List.getElem?_cons_zero, List.getElem?_cons_succ] at x0 x1 x2
      clear hW9
      go_wp2_with fail
      refine hrun.out.mono ?_
      rintro e w6 ⟨v, rfl, hoc, hu6⟩
      have hB6 := hid (hBW.out.trans (hu6.below hBW.out.size fun q hq e => by have := hBn.out.size; omega))
      clear hrun x0 x1 x2
      obtain ⟨A1, ac1, A2, ac2, A3, ac3, A4, ac4, rfl, _, _, _, _⟩ := id hoc
      clear hoc hu6
      have ko := hid (show Blk (((w6.alloc (.cells #[.int .i64 o.code, .int .i64 o.at_, .int .i64 o.ab, .slice A1 o.out.length ac1, .slice A2 o.ws.length ac2, .slice A3 o.rd.length ac3, .slice A4 o.wr.length ac4, .int .i64 o.left] 29)).alloc (.cells #[.int .i64 16, .int .i64 32, .int .i64 64] 3)).alloc (.cells #[.int .i64 75, .int .i64 77, .int .i64 78] 3)) w6.heap.size 29 #[.int .i64 o.code, .int .i64 o.at_, .int .i64 o.ab, .slice A1 o.out.length ac1, .slice A2 o.ws.length ac2, .slice A3 o.rd.length ac3, .slice A4 o.wr.length ac4, .int .i64 o.left] from ((Blk.new w6 _ _).alloc _).alloc _)
      have km := hid (show Blk (((w6.alloc (.cells #[.int .i64 o.code, .int .i64 o.at_, .int .i64 o.ab, .slice A1 o.out.length ac1, .slice A2 o.ws.length ac2, .slice A3 o.rd.length ac3, .slice A4 o.wr.length ac4, .int .i64 o.left] 29)).alloc (.cells #[.int .i64 16, .int .i64 32, .int .i64 64] 3)).alloc (.cells #[.int .i64 75, .int .i64 77, .int .i64 78] 3)) (w6.heap.size + 1) 3 #[.int .i64 16, .int .i64 32, .int .i64 64] from (Blk.new' _ _ _ (by simp)).alloc _)
      have ke := hid (show Blk (((w6.alloc (.cells #[.int .i64 o.code, .int .i64 o.at_, .int .i64 o.ab, .slice A1 o.out.length ac1, .slice A2 o.ws.length ac2, .slice A3 o.rd.length ac3, .slice A4 o.wr.length ac4, .int .i64 o.left] 29)).alloc (.cells #[.int .i64 16, .int .i64 32, .int .i64 64] 3)).alloc (.cells #[.int .i64 75, .int .i64 77, .int .i64 78] 3)) (w6.heap.size + 1 + 1) 3 #[.int .i64 75, .int .i64 77, .int .i64 78] from Blk.new' _ _ _ (by simp))
      have hB7 := hid (((hB6.out.alloc hB6.out.size (.cells #[.int .i64 o.code, .int .i64 o.at_, .int .i64 o.ab, .slice A1 o.out.length ac1, .slice A2 o.ws.length ac2, .slice A3 o.rd.length ac3, .slice A4 o.wr.length ac4, .int .i64 o.left] 29)).alloc (by have := hB6.out.size; simp; omega) (.cells #[.int .i64 16, .int .i64 32, .int .i64 64] 3)).alloc (by have := hB6.out.size; simp; omega) (.cells #[.int .i64 75, .int .i64 77, .int .i64 78] 3))
      go_upto_region 18 with fail
      generalize (((w6.alloc (.cells #[.int .i64 o.code, .int .i64 o.at_, .int .i64 o.ab, .slice A1 o.out.length ac1, .slice A2 o.ws.length ac2, .slice A3 o.rd.length ac3, .slice A4 o.wr.length ac4, .int .i64 o.left] 29)).alloc (.cells #[.int .i64 16, .int .i64 32, .int .i64 64] 3)).alloc (.cells #[.int .i64 75, .int .i64 77, .int .i64 78] 3)) = w7 at *
      have hX := hid (fun W (hW : Below w7.heap.size w7 W) => (show W.cell? ⟨w6.heap.size, 0, none⟩ = some (.int .i64 o.code) ∧ W.cell? ⟨w6.heap.size + 1, 2, none⟩ = some (.int .i64 64) ∧ W.cell? ⟨w6.heap.size + 1 + 1, 2, none⟩ = some (.int .i64 78) from ⟨(ko.out.below_all hW).cell 0, (km.out.below_all hW).cell 2, (ke.out.below_all hW).cell 2⟩))
      have hfin := hid (fun W (hW : Below w7.heap.size w7 W) => hBw0.out.trans ((hB7.out.trans (hW.mono hB7.out.size)).mono hBw0.out.size))
      refine wp_region_held_drew (S := fun w'' => Below w7.heap.size w7 w'') (by kernel_rfl) ?_ (fun hHeld => ?_)
      · exact (Below.refl _ _).drew
      have hbd : Hid (Below w7.heap.size w7 w7.drew) := hid ((Below.refl _ _).drew)
      generalize World.drew w7 = wd at *
      by_cases hle : n ≤ 64
      · have hoc : o.code = 0 := by rw [hlr.out]; exact if_pos hle
        rw [hoc] at hX
        have d1 : decide ((n : Int) ≤ 64) = true := decide_eq_true (by omega)
        have d2 : decide (64 < (n : Int)) = false := decide_eq_false (by omega)
        have d2' : decide (64 < n) = false := decide_eq_false (by omega)
        clear hle hoc hlr
        refine tH 0 (v := ?v93) ?h93 ?r93
        case h93 => intro w' hSw; obtain ⟨y0, y1, y2⟩ := hX.out w' hSw; (try dsimp only at hSw); go_simp; try with_reducible rfl
        (try simp only [Act.put, tq1, tq2, tq3, List.getElem_toArray, List.getElem_cons_zero, List.getElem_cons_succ])
        refine tH 1 (v := ?v94) ?h94 ?r94
        case h94 => intro w' hSw; obtain ⟨y0, y1, y2⟩ := hX.out w' hSw; (try dsimp only at hSw); go_simp; try with_reducible rfl
        (try simp only [Act.put, tq1, tq2, tq3, List.getElem_toArray, List.getElem_cons_zero, List.getElem_cons_succ])
        refine tH 2 (v := ?v95) ?h95 ?r95
        case h95 => intro w' hSw; obtain ⟨y0, y1, y2⟩ := hX.out w' hSw; (try dsimp only at hSw); go_simp; try with_reducible rfl
        (try simp only [Act.put, tq1, tq2, tq3, List.getElem_toArray, List.getElem_cons_zero, List.getElem_cons_succ])
        refine tH 3 (v := ?v96) ?h96 ?r96
        case h96 => intro w' hSw; obtain ⟨y0, y1, y2⟩ := hX.out w' hSw; (try dsimp only at hSw); go_simp; try with_reducible rfl
        (try simp only [Act.put, tq1, tq2, tq3, List.getElem_toArray, List.getElem_cons_zero, List.getElem_cons_succ])
        refine tH 4 (v := ?v97) ?h97 ?r97
        case h97 => intro w' hSw; obtain ⟨y0, y1, y2⟩ := hX.out w' hSw; (try dsimp only at hSw); go_simp; try with_reducible rfl
        (try simp only [Act.put, tq1, tq2, tq3, List.getElem_toArray, List.getElem_cons_zero, List.getElem_cons_succ])
        refine tH 5 (v := ?v98) ?h98 ?r98
        case h98 => intro w' hSw; obtain ⟨y0, y1, y2⟩ := hX.out w' hSw; (try dsimp only at hSw); go_simp; try with_reducible rfl
        (try simp only [Act.put, tq1, tq2, tq3, List.getElem_toArray, List.getElem_cons_zero, List.getElem_cons_succ])
        refine tH 6 (v := ?v99) ?h99 ?r99
        case h99 => intro w' hSw; obtain ⟨y0, y1, y2⟩ := hX.out w' hSw; (try dsimp only at hSw); go_simp; try with_reducible rfl
        (try simp only [Act.put, tq1, tq2, tq3, List.getElem_toArray, List.getElem_cons_zero, List.getElem_cons_succ])
        refine tH 7 (v := ?v100) ?h100 ?r100
        case h100 => intro w' hSw; obtain ⟨y0, y1, y2⟩ := hX.out w' hSw; (try dsimp only at hSw); go_simp; try with_reducible rfl
        (try simp only [Act.put, tq1, tq2, tq3, List.getElem_toArray, List.getElem_cons_zero, List.getElem_cons_succ])
        refine tH 8 (v := ?v101) ?h101 ?r101
        case h101 => intro w' hSw; obtain ⟨y0, y1, y2⟩ := hX.out w' hSw; (try dsimp only at hSw); go_simp; try with_reducible rfl
        (try simp only [Act.put, tq1, tq2, tq3, List.getElem_toArray, List.getElem_cons_zero, List.getElem_cons_succ])
        refine wpAnyH_ready (rs := [9]) (by kernel_rfl) (by simp) ?_
        refine AllReadyH.cons rfl (fun K hK => ?_) AllReadyH.nil
        rw [if_pos (by rfl)]
        go_simp
        refine (numI_any _ _).mono ?_
        rintro e wq ⟨rfl, hwq⟩
        obtain rfl := hwq.symm
        refine hK.out _ _ ?_ (fun hHeld => ?_)
        · exact hbd.out
        clear hK K
        (try simp only [Act.put, tq1, tq2, tq3, List.getElem_toArray, List.getElem_cons_zero, List.getElem_cons_succ])
        refine tH 10 (v := ?v102) ?h102 ?r102
        case h102 => intro w' hSw; obtain ⟨y0, y1, y2⟩ := hX.out w' hSw; (try dsimp only at hSw); go_simp; try with_reducible rfl
        (try simp only [Act.put, tq1, tq2, tq3, List.getElem_toArray, List.getElem_cons_zero, List.getElem_cons_succ])
        refine tH 11 (v := ?v103) ?h103 ?r103
        case h103 => intro w' hSw; obtain ⟨y0, y1, y2⟩ := hX.out w' hSw; (try dsimp only at hSw); go_simp; try with_reducible rfl
        (try simp only [Act.put, tq1, tq2, tq3, List.getElem_toArray, List.getElem_cons_zero, List.getElem_cons_succ])
        refine tH 12 (v := ?v104) ?h104 ?r104
        case h104 => intro w' hSw; obtain ⟨y0, y1, y2⟩ := hX.out w' hSw; (try dsimp only at hSw); go_simp; try with_reducible rfl
        (try simp only [Act.put, tq1, tq2, tq3, List.getElem_toArray, List.getElem_cons_zero, List.getElem_cons_succ])
        refine tH 13 (v := ?v105) ?h105 ?r105
        case h105 => intro w' hSw; obtain ⟨y0, y1, y2⟩ := hX.out w' hSw; (try dsimp only at hSw); go_simp; try with_reducible rfl
        (try simp only [Act.put, tq1, tq2, tq3, List.getElem_toArray, List.getElem_cons_zero, List.getElem_cons_succ])
        refine tH 14 (v := ?v106) ?h106 ?r106
        case h106 => intro w' hSw; obtain ⟨y0, y1, y2⟩ := hX.out w' hSw; (try dsimp only at hSw); go_simp; try with_reducible rfl
        (try simp only [Act.put, tq1, tq2, tq3, List.getElem_toArray, List.getElem_cons_zero, List.getElem_cons_succ])
        refine tH 15 (v := ?v107) ?h107 ?r107
        case h107 => intro w' hSw; obtain ⟨y0, y1, y2⟩ := hX.out w' hSw; (try dsimp only at hSw); go_simp; try with_reducible rfl
        (try simp only [Act.put, tq1, tq2, tq3, List.getElem_toArray, List.getElem_cons_zero, List.getElem_cons_succ])
        refine tH 16 (v := ?v108) ?h108 ?r108
        case h108 => intro w' hSw; obtain ⟨y0, y1, y2⟩ := hX.out w' hSw; (try dsimp only at hSw); go_simp; try with_reducible rfl
        (try simp only [Act.put, tq1, tq2, tq3, List.getElem_toArray, List.getElem_cons_zero, List.getElem_cons_succ])
        refine tH 17 (v := ?v109) ?h109 ?r109
        case h109 => intro w' hSw; obtain ⟨y0, y1, y2⟩ := hX.out w' hSw; (try dsimp only at hSw); go_simp; try with_reducible rfl
        (try simp only [Act.put, tq1, tq2, tq3, List.getElem_toArray, List.getElem_cons_zero, List.getElem_cons_succ])
        refine tH 18 (v := ?v110) ?h110 ?r110
        case h110 => intro w' hSw; obtain ⟨y0, y1, y2⟩ := hX.out w' hSw; (try dsimp only at hSw); go_simp; try with_reducible rfl
        (try simp only [Act.put, tq1, tq2, tq3, List.getElem_toArray, List.getElem_cons_zero, List.getElem_cons_succ])
        refine tH 19 (v := ?v111) ?h111 ?r111
        case h111 => intro w' hSw; obtain ⟨y0, y1, y2⟩ := hX.out w' hSw; (try dsimp only at hSw); go_simp; try with_reducible rfl
        (try simp only [Act.put, tq1, tq2, tq3, List.getElem_toArray, List.getElem_cons_zero, List.getElem_cons_succ])
        refine tS 20 ?_
        (try simp only [Act.put, tq1, tq2, tq3, List.getElem_toArray, List.getElem_cons_zero, List.getElem_cons_succ])
        refine tS 21 ?_
        (try simp only [Act.put, tq1, tq2, tq3, List.getElem_toArray, List.getElem_cons_zero, List.getElem_cons_succ])
        refine tS 22 ?_
        (try simp only [Act.put, tq1, tq2, tq3, List.getElem_toArray, List.getElem_cons_zero, List.getElem_cons_succ])
        refine tS 23 ?_
        (try simp only [Act.put, tq1, tq2, tq3, List.getElem_toArray, List.getElem_cons_zero, List.getElem_cons_succ])
        refine tS 24 ?_
        (try simp only [Act.put, tq1, tq2, tq3, List.getElem_toArray, List.getElem_cons_zero, List.getElem_cons_succ])
        refine tS 25 ?_
        (try simp only [Act.put, tq1, tq2, tq3, List.getElem_toArray, List.getElem_cons_zero, List.getElem_cons_succ])
        refine tS 26 ?_
        (try simp only [Act.put, tq1, tq2, tq3, List.getElem_toArray, List.getElem_cons_zero, List.getElem_cons_succ])
        refine tS 27 ?_
        (try simp only [Act.put, tq1, tq2, tq3, List.getElem_toArray, List.getElem_cons_zero, List.getElem_cons_succ])
        refine tH 28 (v := ?v112) ?h112 ?r112
        case h112 => intro w' hSw; obtain ⟨y0, y1, y2⟩ := hX.out w' hSw; (try dsimp only at hSw); go_simp; try with_reducible rfl
        (try simp only [Act.put, tq1, tq2, tq3, List.getElem_toArray, List.getElem_cons_zero, List.getElem_cons_succ])
        refine tH 29 (v := ?v113) ?h113 ?r113
        case h113 => intro w' hSw; obtain ⟨y0, y1, y2⟩ := hX.out w' hSw; (try dsimp only at hSw); go_simp; try with_reducible rfl
        (try simp only [Act.put, tq1, tq2, tq3, List.getElem_toArray, List.getElem_cons_zero, List.getElem_cons_succ])
        refine wpAnyH_done (by kernel_rfl) ?_ _
        go_wp2_with fail
        go_roundw
        case rel => exact ⟨3, by first | rfl | (simp), by omega, hfin.out _ hbd.out⟩
        case measure => simp [intOf]
      · have hoc : o.code = 78 := by rw [hlr.out]; exact if_neg hle
        rw [hoc] at hX
        have d1 : decide ((n : Int) ≤ 64) = false := decide_eq_false (by omega)
        have d2 : decide (64 < (n : Int)) = true := decide_eq_true (by omega)
        have d2' : decide (64 < n) = true := decide_eq_true (by omega)
        clear hle hoc hlr
        refine tH 0 (v := ?v114) ?h114 ?r114
        case h114 => intro w' hSw; obtain ⟨y0, y1, y2⟩ := hX.out w' hSw; (try dsimp only at hSw); go_simp; try with_reducible rfl
        (try simp only [Act.put, tq1, tq2, tq3, List.getElem_toArray, List.getElem_cons_zero, List.getElem_cons_succ])
        refine tH 1 (v := ?v115) ?h115 ?r115
        case h115 => intro w' hSw; obtain ⟨y0, y1, y2⟩ := hX.out w' hSw; (try dsimp only at hSw); go_simp; try with_reducible rfl
        (try simp only [Act.put, tq1, tq2, tq3, List.getElem_toArray, List.getElem_cons_zero, List.getElem_cons_succ])
        refine tH 2 (v := ?v116) ?h116 ?r116
        case h116 => intro w' hSw; obtain ⟨y0, y1, y2⟩ := hX.out w' hSw; (try dsimp only at hSw); go_simp; try with_reducible rfl
        (try simp only [Act.put, tq1, tq2, tq3, List.getElem_toArray, List.getElem_cons_zero, List.getElem_cons_succ])
        refine tH 3 (v := ?v117) ?h117 ?r117
        case h117 => intro w' hSw; obtain ⟨y0, y1, y2⟩ := hX.out w' hSw; (try dsimp only at hSw); go_simp; try with_reducible rfl
        (try simp only [Act.put, tq1, tq2, tq3, List.getElem_toArray, List.getElem_cons_zero, List.getElem_cons_succ])
        refine tH 4 (v := ?v118) ?h118 ?r118
        case h118 => intro w' hSw; obtain ⟨y0, y1, y2⟩ := hX.out w' hSw; (try dsimp only at hSw); go_simp; try with_reducible rfl
        (try simp only [Act.put, tq1, tq2, tq3, List.getElem_toArray, List.getElem_cons_zero, List.getElem_cons_succ])
        refine tH 5 (v := ?v119) ?h119 ?r119
        case h119 => intro w' hSw; obtain ⟨y0, y1, y2⟩ := hX.out w' hSw; (try dsimp only at hSw); go_simp; try with_reducible rfl
        (try simp only [Act.put, tq1, tq2, tq3, List.getElem_toArray, List.getElem_cons_zero, List.getElem_cons_succ])
        refine tH 6 (v := ?v120) ?h120 ?r120
        case h120 => intro w' hSw; obtain ⟨y0, y1, y2⟩ := hX.out w' hSw; (try dsimp only at hSw); go_simp; try with_reducible rfl
        (try simp only [Act.put, tq1, tq2, tq3, List.getElem_toArray, List.getElem_cons_zero, List.getElem_cons_succ])
        refine tS 7 ?_
        (try simp only [Act.put, tq1, tq2, tq3, List.getElem_toArray, List.getElem_cons_zero, List.getElem_cons_succ])
        refine tS 8 ?_
        (try simp only [Act.put, tq1, tq2, tq3, List.getElem_toArray, List.getElem_cons_zero, List.getElem_cons_succ])
        refine tS 9 ?_
        (try simp only [Act.put, tq1, tq2, tq3, List.getElem_toArray, List.getElem_cons_zero, List.getElem_cons_succ])
        refine tS 10 ?_
        (try simp only [Act.put, tq1, tq2, tq3, List.getElem_toArray, List.getElem_cons_zero, List.getElem_cons_succ])
        refine tH 11 (v := ?v121) ?h121 ?r121
        case h121 => intro w' hSw; obtain ⟨y0, y1, y2⟩ := hX.out w' hSw; (try dsimp only at hSw); go_simp; try with_reducible rfl
        (try simp only [Act.put, tq1, tq2, tq3, List.getElem_toArray, List.getElem_cons_zero, List.getElem_cons_succ])
        refine tH 12 (v := ?v122) ?h122 ?r122
        case h122 => intro w' hSw; obtain ⟨y0, y1, y2⟩ := hX.out w' hSw; (try dsimp only at hSw); go_simp; try with_reducible rfl
        (try simp only [Act.put, tq1, tq2, tq3, List.getElem_toArray, List.getElem_cons_zero, List.getElem_cons_succ])
        refine tH 13 (v := ?v123) ?h123 ?r123
        case h123 => intro w' hSw; obtain ⟨y0, y1, y2⟩ := hX.out w' hSw; (try dsimp only at hSw); go_simp; try with_reducible rfl
        (try simp only [Act.put, tq1, tq2, tq3, List.getElem_toArray, List.getElem_cons_zero, List.getElem_cons_succ])
        refine tH 14 (v := ?v124) ?h124 ?r124
        case h124 => intro w' hSw; obtain ⟨y0, y1, y2⟩ := hX.out w' hSw; (try dsimp only at hSw); go_simp; try with_reducible rfl
        (try simp only [Act.put, tq1, tq2, tq3, List.getElem_toArray, List.getElem_cons_zero, List.getElem_cons_succ])
        refine tH 15 (v := ?v125) ?h125 ?r125
        case h125 => intro w' hSw; obtain ⟨y0, y1, y2⟩ := hX.out w' hSw; (try dsimp only at hSw); go_simp; try with_reducible rfl
        (try simp only [Act.put, tq1, tq2, tq3, List.getElem_toArray, List.getElem_cons_zero, List.getElem_cons_succ])
        refine tH 16 (v := ?v126) ?h126 ?r126
        case h126 => intro w' hSw; obtain ⟨y0, y1, y2⟩ := hX.out w' hSw; (try dsimp only at hSw); go_simp; try with_reducible rfl
        (try simp only [Act.put, tq1, tq2, tq3, List.getElem_toArray, List.getElem_cons_zero, List.getElem_cons_succ])
        refine tH 17 (v := ?v127) ?h127 ?r127
        case h127 => intro w' hSw; obtain ⟨y0, y1, y2⟩ := hX.out w' hSw; (try dsimp only at hSw); go_simp; try with_reducible rfl
        (try simp only [Act.put, tq1, tq2, tq3, List.getElem_toArray, List.getElem_cons_zero, List.getElem_cons_succ])
        refine tH 18 (v := ?v128) ?h128 ?r128
        case h128 => intro w' hSw; obtain ⟨y0, y1, y2⟩ := hX.out w' hSw; (try dsimp only at hSw); go_simp; try with_reducible rfl
        (try simp only [Act.put, tq1, tq2, tq3, List.getElem_toArray, List.getElem_cons_zero, List.getElem_cons_succ])
        refine tH 19 (v := ?v129) ?h129 ?r129
        case h129 => intro w' hSw; obtain ⟨y0, y1, y2⟩ := hX.out w' hSw; (try dsimp only at hSw); go_simp; try with_reducible rfl
        (try simp only [Act.put, tq1, tq2, tq3, List.getElem_toArray, List.getElem_cons_zero, List.getElem_cons_succ])
        refine tH 20 (v := ?v130) ?h130 ?r130
        case h130 => intro w' hSw; obtain ⟨y0, y1, y2⟩ := hX.out w' hSw; (try dsimp only at hSw); go_simp; try with_reducible rfl
        (try simp only [Act.put, tq1, tq2, tq3, List.getElem_toArray, List.getElem_cons_zero, List.getElem_cons_succ])
        refine tH 21 (v := ?v131) ?h131 ?r131
        case h131 => intro w' hSw; obtain ⟨y0, y1, y2⟩ := hX.out w' hSw; (try dsimp only at hSw); go_simp; try with_reducible rfl
        (try simp only [Act.put, tq1, tq2, tq3, List.getElem_toArray, List.getElem_cons_zero, List.getElem_cons_succ])
        refine tH 23 (v := ?v132) ?h132 ?r132
        case h132 => intro w' hSw; obtain ⟨y0, y1, y2⟩ := hX.out w' hSw; (try dsimp only at hSw); go_simp; try with_reducible rfl
        (try simp only [Act.put, tq1, tq2, tq3, List.getElem_toArray, List.getElem_cons_zero, List.getElem_cons_succ])
        refine tH 24 (v := ?v133) ?h133 ?r133
        case h133 => intro w' hSw; obtain ⟨y0, y1, y2⟩ := hX.out w' hSw; (try dsimp only at hSw); go_simp; try with_reducible rfl
        (try simp only [Act.put, tq1, tq2, tq3, List.getElem_toArray, List.getElem_cons_zero, List.getElem_cons_succ])
        refine tH 25 (v := ?v134) ?h134 ?r134
        case h134 => intro w' hSw; obtain ⟨y0, y1, y2⟩ := hX.out w' hSw; (try dsimp only at hSw); go_simp; try with_reducible rfl
        (try simp only [Act.put, tq1, tq2, tq3, List.getElem_toArray, List.getElem_cons_zero, List.getElem_cons_succ])
        refine tH 26 (v := ?v135) ?h135 ?r135
        case h135 => intro w' hSw; obtain ⟨y0, y1, y2⟩ := hX.out w' hSw; (try dsimp only at hSw); go_simp; try with_reducible rfl
        (try simp only [Act.put, tq1, tq2, tq3, List.getElem_toArray, List.getElem_cons_zero, List.getElem_cons_succ])
        refine wpAnyH_ready (rs := [22]) (by kernel_rfl) (by simp) ?_
        refine AllReadyH.cons rfl (fun K hK => ?_) AllReadyH.nil
        rw [if_pos (by rfl)]
        go_simp
        refine (numI_any _ _).mono ?_
        rintro e wq ⟨rfl, hwq⟩
        obtain rfl := hwq.symm
        refine hK.out _ _ ?_ (fun hHeld => ?_)
        · exact hbd.out
        clear hK K
        (try simp only [Act.put, tq1, tq2, tq3, List.getElem_toArray, List.getElem_cons_zero, List.getElem_cons_succ])
        refine tH 27 (v := ?v136) ?h136 ?r136
        case h136 => intro w' hSw; obtain ⟨y0, y1, y2⟩ := hX.out w' hSw; (try dsimp only at hSw); go_simp; try with_reducible rfl
        (try simp only [Act.put, tq1, tq2, tq3, List.getElem_toArray, List.getElem_cons_zero, List.getElem_cons_succ])
        refine tH 28 (v := ?v137) ?h137 ?r137
        case h137 => intro w' hSw; obtain ⟨y0, y1, y2⟩ := hX.out w' hSw; (try dsimp only at hSw); go_simp; try with_reducible rfl
        (try simp only [Act.put, tq1, tq2, tq3, List.getElem_toArray, List.getElem_cons_zero, List.getElem_cons_succ])
        refine tH 29 (v := ?v138) ?h138 ?r138
        case h138 => intro w' hSw; obtain ⟨y0, y1, y2⟩ := hX.out w' hSw; (try dsimp only at hSw); go_simp; try with_reducible rfl
        (try simp only [Act.put, tq1, tq2, tq3, List.getElem_toArray, List.getElem_cons_zero, List.getElem_cons_succ])
        refine wpAnyH_done (by kernel_rfl) ?_ _
        go_wp2_with fail
        go_roundw
        case rel => exact ⟨3, by first | rfl | (simp), by omega, hfin.out _ hbd.out⟩
        case measure => simp [intOf]
    · have hB := hid hBw.out
      go_wp2_with fail
      refine (liveI_any _ (he.out.below hB.out)).mono ?_
      rintro e wd ⟨rfl, hb0⟩
      have hB := hid (hB.out.trans (hb0.mono hB.out.size))
      clear hb0
      go_wp2_with fail
      go_ret
      exact ⟨rfl, hB.out⟩
set_option maxRecDepth 100000 in
set_option maxHeartbeats 4000000 in
theorem limitsI_any {a : Int} (ha : -9223372036854775808 ≤ a ∧ a ≤ 9223372036854775807) (he0 : Env w) : Calls Tryz.prog 9 #[.int .i64 a] w fun e w' => e = .returned (.bool true) ∧ Below w.heap.size w w' := by
  by_cases h : 0 ≤ a ∧ a ≤ 80
  · obtain ⟨k, rfl⟩ : ∃ k : Nat, a = k := ⟨a.toNat, by omega⟩
    exact limitsI_in (by omega) he0
  have he := hid he0
  have hB := hid (Below.refl w.heap.size w)
  by_cases h0 : a < 0
  · have t0 : decide (a < 0) = true := decide_eq_true h0
    clear he0 h h0 ha
    go_enter Tryz.func9, Tryz.ntmps9
    go_wp2_with fail
    refine (liveI_any _ (he.out.below hB.out)).mono ?_
    rintro e wd ⟨rfl, hb0⟩
    have hB := hid (hB.out.trans (hb0.mono hB.out.size))
    clear hb0
    go_wp2_with fail
    go_ret
    exact ⟨rfl, hB.out⟩
  · have t0 : decide (a < 0) = false := decide_eq_false h0
    have t1 : decide (80 < a) = true := decide_eq_true (by omega)
    clear he0 h h0 ha
    go_enter Tryz.func9, Tryz.ntmps9
    go_wp2_with fail
    refine (liveI_any _ (he.out.below hB.out)).mono ?_
    rintro e wd ⟨rfl, hb0⟩
    have hB := hid (hB.out.trans (hb0.mono hB.out.size))
    clear hb0
    go_wp2_with fail
    go_ret
    exact ⟨rfl, hB.out⟩
end
end Go.Proofs.YtdmogoaaecdbaaaGreatDoor
