/- interp: the law's source by itself: Get. -/
import Derived.Test.YtdmogoaaecdbaaaGreatDoorJ21
namespace Go.Proofs.YtdmogoaaecdbaaaGreatDoor
open Go.RowKit
set_option linter.unusedVariables false
set_option linter.unusedSimpArgs false

section
variable {w : World} {sb : Nat} {src : List Kv} {ks : List ByteArray} {Al A : Option Addr} {cl c : Nat}
set_option maxRecDepth 100000 in
set_option maxHeartbeats 4000000 in
theorem sget_any (k : ByteArray) (hb0 : Blk w sb 50 #[.slice Al src.length cl, .slice A ks.length c]) (ho0 : w.ownsRow sb 9 1 (.slice A ks.length c) ks.length (strs ks)) (hs0 : Rd (fun q => q < sb) w 4 Al src.length (srcCells src)) (hn0 : ks.length ≤ 1000000) (hl0 : src.length ≤ 1000000) : Calls Tryz.prog 24 #[.pointer (some ⟨sb, 0, none⟩), .string k] w fun e w' => e = .returned (.agg #[.int .i64 (rawV src k).k, .int .i64 (rawV src k).n, .string (rawV src k).s]) ∧ ∃ A' c', Blk w' sb 50 #[.slice Al src.length cl, .slice A' (ks.length + 1) c'] ∧ w'.ownsRow sb 9 1 (.slice A' (ks.length + 1) c') (ks.length + 1) (strs (ks ++ [k])) ∧ Upd (fun q => q = sb ∨ (Value.slice A ks.length c).ownBlock = some q) w w' := by
  have hB0 : Below w.heap.size w (w.alloc (.cells #[.int .i64 0, .int .i64 0, .string ⟨#[]⟩] 55)) := (Below.refl _ _).alloc (Nat.le_refl _) _
  have kr := hid (Blk.new w 55 #[.int .i64 0, .int .i64 0, .string ⟨#[]⟩])
  have kb := hid (hb0.below_all hB0)
  have ho := hid (own_below ho0 hB0)
  have ho9 := hid ho0
  have hs := hid (hs0.below_all hB0)
  have hB := hid hB0
  have hnn := hid hn0
  have hll := hid hl0
  have hsl := hid hb0.lt
  obtain ⟨i0, hi0, hz0, hz1, hz2⟩ := info_parts info_strI
  have hgo : Hid (¬ (Value.slice A ks.length c).ownBlock = some sb) := hid fun e => by
    obtain ⟨cur, hc⟩ := own_blk0 ho0 e
    exact absurd (blk_ty hc hb0) (by decide)
  clear hb0 ho0 hs0 hB0 hn0 hl0
  go_enter Tryz.func24, Tryz.ntmps24
  go_upto_region 1 with fail
  have hs1 : Hid ((w.alloc (.cells #[.int .i64 0, .int .i64 0, .string ⟨#[]⟩] 55)).heap.size = w.heap.size + 1) := hid (by simp)
  generalize w.alloc (.cells #[.int .i64 0, .int .i64 0, .string ⟨#[]⟩] 55) = w1 at *
  have hro : Hid (¬ (Value.slice A ks.length c).ownBlock = some w.heap.size) := hid fun e => by
    have := (ho9.out.lt _ e).2
    omega
  have x1 : w1.cell? ⟨sb, 1, none⟩ = some (.slice A ks.length c) := kb.out.cell 1
  go_wp2_with (
    at_builtin
    refine wpList_append_rd _ rfl (.tmp 10) (.tmp 12) 25 rfl sb 9 i0 _ 1 16 Tryz.underlying25 hi0 hz0 hz1 hz2 rfl (by omega) (.slice A ks.length c) ks.length (strs ks) rfl (ho.out.alloc _) (fun b => b = w1.heap.size) (some ⟨w1.heap.size, 0, none⟩) 1 1 #[.string k].toList rfl (Rd.new w1 9 1 1 #[.string k] w1.heap.size rfl rfl) (by intro v hv; simp at hv; rcases hv with rfl; rfl) (by have := hnn.out; simp only [maxLen]; omega) (by have := hnn.out; omega) (by have := hsl.out; have := hs1.out; simp; omega) ?_
    intro v3 w3 hown3 hg3 hat3
    obtain ⟨A3, c3, rfl, hc3, _⟩ := own_form hown3
    have hu9 : Hid (Upd (fun q => (Value.slice A ks.length c).ownBlock = some q) w1 w3) := hid (((Upd.refl _ w1).alloc _).grown hg3 fun q hq _ => hq)
    have hO3 := hid hown3
    have r4 : w3.cell? ⟨sb, 1, none⟩ = some (.slice A ks.length c) := (kb.out.upd hu9.out hgo.out).cell 1
    have q4 : w3.frozen? ⟨sb, 1, none⟩ = false := (kb.out.upd hu9.out hgo.out).frozen 1
    have kr3 := hid (kr.out.upd hu9.out hro.out)
    clear hg3 hat3 hown3)
  have kb3 := hid (kb.out.upd hu9.out hgo.out)
  have kb4 : Hid (Blk (w3.setCell ⟨sb, 1, none⟩ (.slice A3 (ks.length + 1) c3)) sb 50 #[.slice Al src.length cl, .slice A3 (ks.length + 1) c3]) := hid (kb3.out.set_ 1 _)
  have hO4 := hid (own_setOtherI hO3.out kb3.out (by decide) 1 (.slice A3 (ks.length + 1) c3))
  have hne9 := hid (show w.heap.size ≠ sb by have := hsl.out; omega)
  have hU4 : Hid (Upd (fun q => q = sb ∨ (Value.slice A ks.length c).ownBlock = some q) w (w3.setCell ⟨sb, 1, none⟩ (.slice A3 (ks.length + 1) c3))) := hid ((((Upd.of_below' hB.out (fun q => q = sb ∨ (Value.slice A ks.length c).ownBlock = some q)).trans hu9.out fun b _ e => .inr e).setCell (p := ⟨sb, 1, none⟩) (fun _ => .inl rfl) _))
  have kr4 := hid (kr3.out.far (p := ⟨sb, 1, none⟩) hne9.out (.slice A3 (ks.length + 1) c3))
  have hsr4 : Hid (Rd (fun q => q < sb) (w3.setCell ⟨sb, 1, none⟩ (.slice A3 (ks.length + 1) c3)) 4 Al src.length (srcCells src)) := hid ((hs.out.upd hu9.out fun q hq e => by have := (ho9.out.lt q e).1; omega).setCell (p := ⟨sb, 1, none⟩) (by simp) _)
  have hfin : Hid (∀ u0 u1 u2 : Value, ∃ A' c', Blk ((((w3.setCell ⟨sb, 1, none⟩ (.slice A3 (ks.length + 1) c3)).setCell ⟨w.heap.size, 0, none⟩ u0).setCell ⟨w.heap.size, 1, none⟩ u1).setCell ⟨w.heap.size, 2, none⟩ u2) sb 50 #[.slice Al src.length cl, .slice A' (ks.length + 1) c'] ∧ ((((w3.setCell ⟨sb, 1, none⟩ (.slice A3 (ks.length + 1) c3)).setCell ⟨w.heap.size, 0, none⟩ u0).setCell ⟨w.heap.size, 1, none⟩ u1).setCell ⟨w.heap.size, 2, none⟩ u2).ownsRow sb 9 1 (.slice A' (ks.length + 1) c') (ks.length + 1) (strs (ks ++ [k])) ∧ Upd (fun q => q = sb ∨ (Value.slice A ks.length c).ownBlock = some q) w ((((w3.setCell ⟨sb, 1, none⟩ (.slice A3 (ks.length + 1) c3)).setCell ⟨w.heap.size, 0, none⟩ u0).setCell ⟨w.heap.size, 1, none⟩ u1).setCell ⟨w.heap.size, 2, none⟩ u2)) := hid fun u0 u1 u2 => by
    refine ⟨A3, c3, (((kb4.out.far (p := ⟨w.heap.size, 0, none⟩) (Ne.symm hne9.out) u0).far (p := ⟨w.heap.size, 1, none⟩) (Ne.symm hne9.out) u1).far (p := ⟨w.heap.size, 2, none⟩) (Ne.symm hne9.out) u2), ?_, ?_⟩
    · rw [show strs (ks ++ [k]) = strs ks ++ [.string k] from strs_snocI _ _]
      exact own_setOtherI (own_setOtherI (own_setOtherI hO4.out kr4.out (by decide) 0 u0) (kr4.out.set_ 0 u0) (by decide) 1 u1) ((kr4.out.set_ 0 u0).set_ 1 u1) (by decide) 2 u2
    · exact ((hU4.out.setCell (p := ⟨w.heap.size, 0, none⟩) (fun h => absurd h (by simp)) u0).setCell (p := ⟨w.heap.size, 1, none⟩) (fun h => absurd h (by simp)) u1).setCell (p := ⟨w.heap.size, 2, none⟩) (fun h => absurd h (by simp)) u2
  have x0 : (w3.setCell ⟨sb, 1, none⟩ (.slice A3 (ks.length + 1) c3)).cell? ⟨sb, 0, none⟩ = some (.slice Al src.length cl) := kb4.out.cell 0
  clear r4 q4 kr3 kr x1 hu9 hO3 hgo hro kb kb3 hU4 hO4 ho ho9 hs kb4
  generalize (w3.setCell ⟨sb, 1, none⟩ (.slice A3 (ks.length + 1) c3)) = w4 at *
  have z0 := kr4.out.cell 0
  have z1 := kr4.out.cell 1
  have z2 := kr4.out.cell 2
  simp only [List.getElem?_toArray, List.getElem?_cons_zero, List.getElem?_cons_succ] at z0 z1 z2
  have fz := fun q => kr4.out.frozen q
  go_upto_region 3 with fail
  go_loopw [5] (fun v wr => ∃ i : Nat, v = .int .i64 i ∧ wr = w4 ∧ i ≤ src.length ∧ ∀ j (hj : j < i) (hj2 : j < src.length), src[j].1 ≠ k) (fun v _ => src.length - (intOf v).toNat)
  case atStart => exact ⟨0, rfl, rfl, Nat.zero_le _, fun j hj => by omega⟩
  case round =>
    obtain ⟨i, rfl, hwr, hil, hno0⟩ := hrel
    obtain rfl := hwr.symm
    have hno := hid hno0
    clear hno0
    by_cases hlt : i < src.length
    · have i1 : (i : Int) < (src.length : Int) := by omega
      have i2 : IntKind.i64.wrap ((i : Int) + 1) = (i : Int) + 1 := by rw [IntKind.wrap_i64]; have := hll.out; omega
      obtain ⟨c1, c2, c3, c4⟩ := srcCells_at hlt
      obtain ⟨b9, o9, hA9, _, _, hc⟩ := hsr4.out.at_ hlt
      have y0 := hc _ _ c1
      have y1 := hc _ _ c2
      have y2 := hc _ _ c3
      have y3 := hc _ _ c4
      simp only [← Nat.add_assoc] at y1 y2 y3
      clear hc c1 c2 c3 c4
      subst hA9
      have hfd := hid (fun (h : src[i].1 = k) => find_here (p := fun x : Kv => decide (x.1 = k)) hlt (fun j hj => decide_eq_false (hno.out j hj (by omega))) (decide_eq_true h))
      have hno2 := hid (fun (h : src[i].1 ≠ k) j (hj : j < i + 1) (hj2 : j < src.length) => (show src[j].1 ≠ k from by
        by_cases e : j = i
        · subst e; exact h
        · exact hno.out j (by omega) hj2))
      generalize src[i] = x at *
      have hlt9 := hid hlt
      clear hlt hil
      by_cases he : x.1 = k
      · have t0 : (x.1.toList == k.toList) = true := by rw [bytes_dec]; exact decide_eq_true he
        have t2 : decide (x.1 = k) = true := decide_eq_true he
        have hres : Hid (rawV src k = x.2) := hid (by unfold rawV; rw [hfd.out he])
        have he := hid he
        go_wp2_with fail
        refine bodyPost_ret (v := .agg #[.int .i64 x.2.k, .int .i64 x.2.n, .string x.2.s]) ?_ rfl ⟨by rw [hres.out], ?_⟩
        · exact results_cell_row (P := Tryz.prog) rfl _ _ w.heap.size 55 _ (0, 0) _ rfl (show Blk _ _ _ #[.int .i64 x.2.k, .int .i64 x.2.n, .string x.2.s] from by simpa using ((kr4.out.set_ 0 _).set_ 1 _).set_ 2 _) Tryz.underlying55 rfl (by kernel_rfl)
        · exact hfin.out _ _ _
      · have t0 : (x.1.toList == k.toList) = false := by rw [bytes_dec]; exact decide_eq_false he
        have t2 : decide (x.1 = k) = false := decide_eq_false he
        have he := hid he
        go_wp2_with fail
        go_roundw
        case rel => exact ⟨i + 1, by go_num, by first | exact rfl | trivial, hlt9.out, hno2.out he.out⟩
        case measure => simp [intOf]; have := hlt9.out; omega
    · obtain rfl : i = src.length := by omega
      have hres : Hid (rawV src k = vl0) := hid (by
        unfold rawV
        rw [List.find?_eq_none.2]
        intro x hx
        obtain ⟨j, hj, e⟩ := List.mem_iff_getElem.1 hx
        have := hno.out j hj hj
        rw [e] at this
        simpa using this)
      go_wp2_with fail
      refine bodyPost_ret (v := .agg #[.int .i64 0, .int .i64 0, .string ⟨#[]⟩]) ?_ rfl ⟨by rw [hres.out]; rfl, ?_⟩
      · exact results_cell_row (P := Tryz.prog) rfl _ _ w.heap.size 55 _ (0, 0) _ rfl (show Blk _ _ _ #[.int .i64 0, .int .i64 0, .string ⟨#[]⟩] from by simpa using ((kr4.out.set_ 0 _).set_ 1 _).set_ 2 _) Tryz.underlying55 rfl (by kernel_rfl)
      · exact hfin.out _ _ _
end
end Go.Proofs.YtdmogoaaecdbaaaGreatDoor
