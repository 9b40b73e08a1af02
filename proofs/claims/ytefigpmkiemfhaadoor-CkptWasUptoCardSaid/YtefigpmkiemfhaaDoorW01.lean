/- Texts of the proof, joined: YFroz, YFrozP, YWasP, YFrozR, YWasR, SActs, SStory, YWasW, SLift, SOpen, YOpen. -/
import Derived.Test.YtefigpmkiemfhaaDoorN10
import Derived.Test.YtefigpmkiemfhaaDoorN05
import Derived.Test.YtefigpmkiemfhaaDoorN09
import Derived.Test.YtefigpmkiemfhaaDoorN06
import Derived.Deep.CutBlock
import Derived.Deep.Slices
import Derived.Lib.SmallJoins
namespace Go.Proofs.YtefigpmkiemfhaaDoor
open Go.RowKit
set_option linter.unusedVariables false
set_option linter.unusedSimpArgs false

theorem info_intZ : (Tryd.prog.info? 3).map (fun i => (i.zero, i.size, i.bytes)) = some (some (.int .i64 0), 1, 8) := by kernel_rfl
theorem info_valZ : (Tryd.prog.info? 47).map (fun i => (i.zero, i.size, i.bytes)) = some (some (.agg #[.int .i64 0, .int .i64 0, .string ⟨#[]⟩]), 3, 32) := by kernel_rfl
/-- a key's bits as the Zig tells them -/
def bitR (z : Zg) (k : ByteArray) : Int := if hasK k z.s.L = true then bI (z.f k).r else 0
def bitW (z : Zg) (k : ByteArray) : Int := if hasK k z.s.L = true then bI (z.f k).w else 0
def intCells (l : List Int) : List Value := l.map (.int .i64 ·)
def cpy0 (z : Zg) (k : ByteArray) : Vl := if hasK k z.s.L = true then (z.f k).c0 else vl0
def cpy1 (z : Zg) (k : ByteArray) : Vl := if hasK k z.s.L = true then (z.f k).c1 else vl0
/-- the copy that is not written next -/
def frozK (z : Zg) (k : ByteArray) : Vl := if bitW z k = 0 then cpy1 z k else cpy0 z k
def vlCells (l : List Vl) : List Value := l.flatMap fun v => [.int .i64 v.k, .int .i64 v.n, .string v.s]
theorem vlCells_snoc (l : List Vl) (v : Vl) : vlCells (l ++ [v]) = vlCells l ++ [.int .i64 v.k, .int .i64 v.n, .string v.s] := by unfold vlCells; simp
section
variable {T : Nat → Prop} {w : World} {g : Nat} {z : Zg}
theorem zbits2 (k : ByteArray) (h : ZAt T w g z) : Calls Tryd.prog 25 #[.pointer (some ⟨g, 0, none⟩), .string k] w fun e w' => e = .returned (.tuple #[.int .i64 (bitR z k), .int .i64 (bitW z k)]) ∧ Below w.heap.size w w' := by
  refine (zbits_any k h).mono ?_
  rintro e w' ⟨rfl, hb⟩
  refine ⟨?_, hb⟩
  unfold bitR bitW
  split <;> rfl
theorem zcopies2 (k : ByteArray) (h : ZAt T w g z) : Calls Tryd.prog 36 #[.pointer (some ⟨g, 0, none⟩), .string k] w fun e w' => e = .returned (.tuple #[.agg #[.int .i64 (cpy0 z k).k, .int .i64 (cpy0 z k).n, .string (cpy0 z k).s], .agg #[.int .i64 (cpy1 z k).k, .int .i64 (cpy1 z k).n, .string (cpy1 z k).s]]) ∧ Below w.heap.size w w' := by
  refine (zcopies_any k h).mono ?_
  rintro e w' ⟨rfl, hb⟩
  refine ⟨?_, hb⟩
  unfold cpy0 cpy1
  split <;> rfl
set_option maxRecDepth 100000 in
set_option maxHeartbeats 4000000 in
theorem bits_any {S : Nat → Prop} {A : Option Addr} {c : Nat} (ks : List ByteArray) (h : ZAt T w g z) (hr : Rd S w 1 A ks.length (strs ks)) (hn : ks.length ≤ 1000000) :
    Calls Tryd.prog 24 #[.pointer (some ⟨g, 0, none⟩), .slice A ks.length c] w fun e w' => ∃ A2 c2, e = .returned (.slice A2 ks.length c2) ∧ w'.ownsRow w.heap.size 3 1 (.slice A2 ks.length c2) ks.length (intCells (ks.map (bitW z))) ∧ Below w.heap.size w w' := by
  have hz := hid h
  have hks := hid hr.all
  have hkn := hid hn
  obtain ⟨i0, hi0, hz0, hz1, hz2⟩ := info_parts info_intZ
  clear h hr hn
  go_enter Tryd.func24, Tryd.ntmps24
  go_wp2_with fail
  go_loopw [5, 6] (fun u v wr => ∃ (i : Nat) (A2 : Option Addr) (c2 : Nat), u = .slice A2 i c2 ∧ v = .int .i64 i ∧ i ≤ ks.length ∧ wr.ownsRow w.heap.size 3 1 (.slice A2 i c2) i (intCells ((ks.take i).map (bitW z))) ∧ Below w.heap.size w wr) (fun _ v _ => ks.length - (intOf v).toNat)
  case atStart => exact ⟨0, none, 0, rfl, rfl, Nat.zero_le _, ⟨rfl, .inl ⟨rfl, rfl⟩⟩, Below.refl _ _⟩
  case round =>
    obtain ⟨i, A2, c2, rfl, rfl, hil, ho0, hb0⟩ := hrel
    have ho := hid ho0
    have hb := hid hb0
    clear ho0 hb0
    by_cases hlt : i < ks.length
    · have i1 : (i : Int) < (ks.length : Int) := by omega
      have i2 : IntKind.i64.wrap ((i : Int) + 1) = (i : Int) + 1 := by rw [IntKind.wrap_i64]; have := hkn.out; omega
      obtain ⟨b9, o9, hA9, _, _, y0⟩ := rd_strs (hks.out.below_all hb.out) hlt
      obtain rfl := hA9
      have hyk : Hid (∀ w', Below w.heap.size w w' → w'.cell? ⟨b9, o9 + i, none⟩ = some (.string (ks[i]'hlt))) := hid fun w' hb => by
        obtain ⟨b', o', e', _, _, y⟩ := rd_strs (hks.out.below_all hb) hlt
        cases e'
        exact y
      have htk : Hid (ks.take (i + 1) = ks.take i ++ [ks[i]'hlt]) := hid (List.take_succ_eq_append_getElem hlt)
      generalize ks[i] = key at *
      have hlt9 := hid hlt
      have hil9 := hid hil
      clear hlt hil
      go_wp2_with fail
      refine (zbits2 key (hz.out.below hb.out)).mono ?_
      rintro e w4 ⟨rfl, hb4⟩
      have hbX := hid (hb.out.trans (hb4.mono hb.out.size))
      have hoX := hid (own_keep ho.out (w' := w4) fun q hq => hb4.block q (ho.out.lt q hq).2)
      clear hb4 y0
      obtain ⟨bw, hbw⟩ : ∃ n, Hid (n = bitW z key) := ⟨_, hid rfl⟩
      rw [← hbw.out]
      go_wp2_with (
        at_builtin
        refine wpList_append_rd _ rfl (.tmp 24) (.tmp 26) 55 rfl w.heap.size 3 i0 _ 1 8 Tryd.underlying55 hi0 hz0 hz1 hz2 rfl (by omega) (.slice A2 i c2) i (intCells ((ks.take i).map (bitW z))) rfl (hoX.out.alloc _) (fun b => b = w4.heap.size) (some ⟨w4.heap.size, 0, none⟩) 1 1 #[.int .i64 bw].toList rfl (Rd.new _ 3 1 1 #[.int .i64 bw] _ rfl rfl) (by intro v hv; simp at hv; first | (rcases hv with rfl | rfl | rfl <;> rfl) | (rcases hv with rfl; rfl)) (by have := hkn.out; have := hil9.out; simp only [maxLen]; omega) (by have := hkn.out; have := hil9.out; omega) (by have h1 := hbX.out.size; simp; omega) ?_
        intro v3 w3 hown3 hg3 hat3
        obtain ⟨A3, c3, rfl, hc3, _⟩ := own_form hown3
        have hO := hid hown3
        have hB3 : Hid (Below w.heap.size w w3) := hid ((hbX.out.alloc hbX.out.size _).grown hg3 (by have := hbX.out.size; simp; omega) fun k hk => by have := (hoX.out.lt k hk).1; omega)
        clear hown3 hg3 hat3)
      go_roundw
      case rel =>
        refine ⟨i + 1, A3, c3, rfl, by go_num, hlt9.out, ?_, hB3.out⟩
        have h9 := hO.out
        rw [htk.out, hbw.out] at *
        unfold intCells at *
        simpa using h9
      case measure => simp [intOf]; have := hlt9.out; omega
    · obtain rfl : i = ks.length := by omega
      rw [List.take_length] at ho
      clear hlt hil
      go_wp2_with fail
      go_ret
      exact ⟨A2, c2, rfl, ho.out, hb.out⟩
set_option maxRecDepth 100000 in
set_option maxHeartbeats 4000000 in
theorem frozen_any {S : Nat → Prop} {A : Option Addr} {c : Nat} (ks : List ByteArray) (h : ZAt T w g z) (hr : Rd S w 1 A ks.length (strs ks)) (hn : ks.length ≤ 1000000) :
    Calls Tryd.prog 23 #[.pointer (some ⟨g, 0, none⟩), .slice A ks.length c] w fun e w' => ∃ A2 c2, e = .returned (.slice A2 ks.length c2) ∧ w'.ownsRow w.heap.size 47 3 (.slice A2 ks.length c2) ks.length (vlCells (ks.map (frozK z))) ∧ Below w.heap.size w w' := by
  have hz := hid h
  have hks := hid hr.all
  have hkn := hid hn
  obtain ⟨i0, hi0, hz0, hz1, hz2⟩ := info_parts info_valZ
  clear h hr hn
  go_enter Tryd.func23, Tryd.ntmps23
  go_wp2_with fail
  go_loopw [5, 6] (fun u v wr => ∃ (i : Nat) (A2 : Option Addr) (c2 : Nat), u = .slice A2 i c2 ∧ v = .int .i64 i ∧ i ≤ ks.length ∧ wr.ownsRow w.heap.size 47 3 (.slice A2 i c2) i (vlCells ((ks.take i).map (frozK z))) ∧ Below w.heap.size w wr) (fun _ v _ => ks.length - (intOf v).toNat)
  case atStart => exact ⟨0, none, 0, rfl, rfl, Nat.zero_le _, ⟨rfl, .inl ⟨rfl, rfl⟩⟩, Below.refl _ _⟩
  case round =>
    obtain ⟨i, A2, c2, rfl, rfl, hil, ho0, hb0⟩ := hrel
    have ho := hid ho0
    have hb := hid hb0
    clear ho0 hb0
    by_cases hlt : i < ks.length
    · have i1 : (i : Int) < (ks.length : Int) := by omega
      have i2 : IntKind.i64.wrap ((i : Int) + 1) = (i : Int) + 1 := by rw [IntKind.wrap_i64]; have := hkn.out; omega
      obtain ⟨b9, o9, hA9, _, _, y0⟩ := rd_strs (hks.out.below_all hb.out) hlt
      obtain rfl := hA9
      have hyk : Hid (∀ w', Below w.heap.size w w' → w'.cell? ⟨b9, o9 + i, none⟩ = some (.string (ks[i]'hlt))) := hid fun w' hb => by
        obtain ⟨b', o', e', _, _, y⟩ := rd_strs (hks.out.below_all hb) hlt
        cases e'
        exact y
      have htk : Hid (ks.take (i + 1) = ks.take i ++ [ks[i]'hlt]) := hid (List.take_succ_eq_append_getElem hlt)
      generalize ks[i] = key at *
      have hlt9 := hid hlt
      have hil9 := hid hil
      clear hlt hil
      go_wp2_with fail
      refine (zcopies2 key (hz.out.below hb.out)).mono ?_
      rintro e w4 ⟨rfl, hb4⟩
      obtain ⟨p0, hp0⟩ : ∃ p, Hid (p = cpy0 z key) := ⟨_, hid rfl⟩
      obtain ⟨p1, hp1⟩ : ∃ p, Hid (p = cpy1 z key) := ⟨_, hid rfl⟩
      rw [← hp0.out, ← hp1.out]
      have hb4' := hid (hb.out.trans (hb4.mono hb.out.size))
      have ho4 := hid (own_keep ho.out (w' := w4) fun q hq => hb4.block q (ho.out.lt q hq).2)
      clear hb4 y0
      go_upto_region 6 with fail
      have hb24 : Below w4.heap.size w4 ((w4.alloc (.cells #[.int .i64 p0.k, .int .i64 p0.n, .string p0.s] 47)).alloc (.cells #[.int .i64 p1.k, .int .i64 p1.n, .string p1.s] 47)) := below_two _ _
      have k7 := hid (show Blk ((w4.alloc (.cells #[.int .i64 p0.k, .int .i64 p0.n, .string p0.s] 47)).alloc (.cells #[.int .i64 p1.k, .int .i64 p1.n, .string p1.s] 47)) w4.heap.size 47 #[.int .i64 p0.k, .int .i64 p0.n, .string p0.s] from (Blk.new w4 _ _).alloc _)
      have k8 := hid (show Blk ((w4.alloc (.cells #[.int .i64 p0.k, .int .i64 p0.n, .string p0.s] 47)).alloc (.cells #[.int .i64 p1.k, .int .i64 p1.n, .string p1.s] 47)) (w4.heap.size + 1) 47 #[.int .i64 p1.k, .int .i64 p1.n, .string p1.s] from Blk.new' _ _ _ (by simp))
      have hb6 := hid (hb4'.out.trans (hb24.mono hb4'.out.size))
      have ho6 := hid (own_keep ho4.out (w' := ((w4.alloc (.cells #[.int .i64 p0.k, .int .i64 p0.n, .string p0.s] 47)).alloc (.cells #[.int .i64 p1.k, .int .i64 p1.n, .string p1.s] 47))) fun q hq => hb24.block q (ho4.out.lt q hq).2)
      have y0 := hyk.out _ hb6.out
      clear hb24 hb4' ho4 hb
      generalize ((w4.alloc (.cells #[.int .i64 p0.k, .int .i64 p0.n, .string p0.s] 47)).alloc (.cells #[.int .i64 p1.k, .int .i64 p1.n, .string p1.s] 47)) = w6 at *
      generalize w4.heap.size = m at *
      go_wp2_with fail
      refine (zbits2 key (hz.out.below hb6.out)).mono ?_
      rintro e w5 ⟨rfl, hb5⟩
      obtain ⟨bw, hbw⟩ : ∃ n, Hid (n = bitW z key) := ⟨_, hid rfl⟩
      rw [← hbw.out]
      have hbX := hid (hb6.out.trans (hb5.mono hb6.out.size))
      have hoX := hid (own_keep ho6.out (w' := w5) fun q hq => hb5.block q (ho6.out.lt q hq).2)
      have k7 := hid (k7.out.below_all hb5)
      have k8 := hid (k8.out.below_all hb5)
      clear hb5 y0 hb6 ho6
      by_cases e0 : bw = 0
      · have t0 : (bw == 0) = true := by simpa using e0
        have hfz : Hid (frozK z key = p1) := hid (by unfold frozK; rw [← hbw.out, if_pos e0, hp1.out])
        clear e0
        have x0 : w5.cell? ⟨m + 1, 0, none⟩ = some (.int .i64 p1.k) := k8.out.cell 0
        have x1 : w5.cell? ⟨m + 1, 1, none⟩ = some (.int .i64 p1.n) := k8.out.cell 1
        have x2 : w5.cell? ⟨m + 1, 2, none⟩ = some (.string p1.s) := k8.out.cell 2
        go_wp2_with (
          at_builtin
          refine wpList_append_rd _ rfl (.tmp 37) (.tmp 39) 54 rfl w.heap.size 47 i0 _ 3 32 Tryd.underlying54 hi0 hz0 hz1 hz2 rfl (by omega) (.slice A2 i c2) i (vlCells ((ks.take i).map (frozK z))) rfl (hoX.out.alloc _) (fun b => b = w5.heap.size) (some ⟨w5.heap.size, 0, none⟩) 1 1 #[.int .i64 p1.k, .int .i64 p1.n, .string p1.s].toList rfl (Rd.new _ 47 3 1 #[.int .i64 p1.k, .int .i64 p1.n, .string p1.s] _ rfl rfl) (by intro v hv; simp at hv; first | (rcases hv with rfl | rfl | rfl <;> rfl) | (rcases hv with rfl; rfl)) (by have := hkn.out; have := hil9.out; simp only [maxLen]; omega) (by have := hkn.out; have := hil9.out; omega) (by have h1 := hbX.out.size; simp; omega) ?_
          intro v3 w3 hown3 hg3 hat3
          obtain ⟨A3, c3, rfl, hc3, _⟩ := own_form hown3
          have hO := hid hown3
          have hB3 : Hid (Below w.heap.size w w3) := hid ((hbX.out.alloc hbX.out.size _).grown hg3 (by have := hbX.out.size; simp; omega) fun k hk => by have := (hoX.out.lt k hk).1; omega)
          clear hown3 hg3 hat3)
        go_roundw
        case rel =>
          refine ⟨i + 1, A3, c3, rfl, by go_num, hlt9.out, ?_, hB3.out⟩
          have h9 := hO.out
          rw [htk.out, List.map_append, List.map_cons, List.map_nil, vlCells_snoc, hfz.out]
          exact h9
        case measure => simp [intOf]; have := hlt9.out; omega
      · have t0 : (bw == 0) = false := by simpa using e0
        have hfz : Hid (frozK z key = p0) := hid (by unfold frozK; rw [← hbw.out, if_neg e0, hp0.out])
        clear e0
        have x0 : w5.cell? ⟨m, 0, none⟩ = some (.int .i64 p0.k) := k7.out.cell 0
        have x1 : w5.cell? ⟨m, 1, none⟩ = some (.int .i64 p0.n) := k7.out.cell 1
        have x2 : w5.cell? ⟨m, 2, none⟩ = some (.string p0.s) := k7.out.cell 2
        go_wp2_with (
          at_builtin
          refine wpList_append_rd _ rfl (.tmp 41) (.tmp 43) 54 rfl w.heap.size 47 i0 _ 3 32 Tryd.underlying54 hi0 hz0 hz1 hz2 rfl (by omega) (.slice A2 i c2) i (vlCells ((ks.take i).map (frozK z))) rfl (hoX.out.alloc _) (fun b => b = w5.heap.size) (some ⟨w5.heap.size, 0, none⟩) 1 1 #[.int .i64 p0.k, .int .i64 p0.n, .string p0.s].toList rfl (Rd.new _ 47 3 1 #[.int .i64 p0.k, .int .i64 p0.n, .string p0.s] _ rfl rfl) (by intro v hv; simp at hv; first | (rcases hv with rfl | rfl | rfl <;> rfl) | (rcases hv with rfl; rfl)) (by have := hkn.out; have := hil9.out; simp only [maxLen]; omega) (by have := hkn.out; have := hil9.out; omega) (by have h1 := hbX.out.size; simp; omega) ?_
          intro v3 w3 hown3 hg3 hat3
          obtain ⟨A3, c3, rfl, hc3, _⟩ := own_form hown3
          have hO := hid hown3
          have hB3 : Hid (Below w.heap.size w w3) := hid ((hbX.out.alloc hbX.out.size _).grown hg3 (by have := hbX.out.size; simp; omega) fun k hk => by have := (hoX.out.lt k hk).1; omega)
          clear hown3 hg3 hat3)
        go_roundw
        case rel =>
          refine ⟨i + 1, A3, c3, rfl, by go_num, hlt9.out, ?_, hB3.out⟩
          have h9 := hO.out
          rw [htk.out, List.map_append, List.map_cons, List.map_nil, vlCells_snoc, hfz.out]
          exact h9
        case measure => simp [intOf]; have := hlt9.out; omega
    · obtain rfl : i = ks.length := by omega
      rw [List.take_length] at ho
      clear hlt hil
      go_wp2_with fail
      go_ret
      exact ⟨A2, c2, rfl, ho.out, hb.out⟩
theorem neqValF (a : Vl) (w : World) : (binOp .neq 47 (.agg #[.int .i64 a.k, .int .i64 a.n, .string a.s]) (.agg #[.int .i64 a.k, .int .i64 a.n, .string a.s])).run Tryd.prog w = .ok (.bool false) w := by
  rw [run_neq_struct, run_eqVal]; simp [Result.andThen]
theorem rd_vls {S : Nat → Prop} {w : World} {A : Option Addr} {l : List Vl} (h : Rd S w 3 A l.length (vlCells l)) {i : Nat} (hi : i < l.length) : ∃ b o, A = some ⟨b, o, none⟩ ∧ w.cell? ⟨b, o + i * 3, none⟩ = some (.int .i64 l[i].k) ∧ w.cell? ⟨b, o + i * 3 + 1, none⟩ = some (.int .i64 l[i].n) ∧ w.cell? ⟨b, o + i * 3 + 2, none⟩ = some (.string l[i].s) := by
  obtain ⟨b, o, e, _, _, hc⟩ := h.at_ hi
  have g := fun j (hj : j < 3) u (hu : ([Value.int .i64 l[i].k, .int .i64 l[i].n, .string l[i].s])[j]? = some u) => hc (i * 3 + j) u (by
    show (l.flatMap fun v : Vl => [Value.int .i64 v.k, .int .i64 v.n, .string v.s])[i * 3 + j]? = some u
    rw [aflat_atZ _ 3 (fun _ => rfl) l i j hi hj]; exact hu)
  simp only [← Nat.add_assoc] at g
  exact ⟨b, o, e, g 0 (by omega) _ rfl, g 1 (by omega) _ rfl, g 2 (by omega) _ rfl⟩
set_option maxRecDepth 100000 in
set_option maxHeartbeats 4000000 in
theorem same_eq {S S' : Nat → Prop} {A B : Option Addr} {c d : Nat} (l : List Vl) (h : Rd S w 3 A l.length (vlCells l)) (h' : Rd S' w 3 B l.length (vlCells l)) (hn : l.length ≤ 1000000) :
    Calls Tryd.prog 26 #[.slice A l.length c, .slice B l.length d] w fun e w' => e = .returned (.bool true) ∧ Below w.heap.size w w' := by
  have ha := hid h.all
  have hb := hid h'.all
  have hln := hid hn
  clear h h' hn
  go_enter Tryd.func26, Tryd.ntmps26
  go_wp2_with fail
  go_loopw [5] (fun v wr => ∃ i : Nat, v = .int .i64 i ∧ i ≤ l.length ∧ Below w.heap.size w wr) (fun v _ => l.length - (intOf v).toNat)
  case atStart => exact ⟨0, rfl, Nat.zero_le _, Below.refl _ _⟩
  case round =>
    obtain ⟨i, rfl, hil, hb00⟩ := hrel
    have hB := hid hb00
    clear hb00
    by_cases hlt : i < l.length
    · have i1 : (i : Int) < (l.length : Int) := by omega
      have i2 : IntKind.i64.wrap ((i : Int) + 1) = (i : Int) + 1 := by rw [IntKind.wrap_i64]; have := hln.out; omega
      obtain ⟨b1, o1, hA9, _⟩ := rd_vls ha.out hlt
      obtain ⟨b2, o2, hB9, _⟩ := rd_vls hb.out hlt
      subst hA9 hB9
      have hy : Hid (∀ w', Below wr.heap.size wr w' → w'.cell? ⟨b1, o1 + i * 3, none⟩ = some (.int .i64 (l[i]'hlt).k) ∧ w'.cell? ⟨b1, o1 + i * 3 + 1, none⟩ = some (.int .i64 (l[i]'hlt).n) ∧ w'.cell? ⟨b1, o1 + i * 3 + 2, none⟩ = some (.string (l[i]'hlt).s) ∧ w'.cell? ⟨b2, o2 + i * 3, none⟩ = some (.int .i64 (l[i]'hlt).k) ∧ w'.cell? ⟨b2, o2 + i * 3 + 1, none⟩ = some (.int .i64 (l[i]'hlt).n) ∧ w'.cell? ⟨b2, o2 + i * 3 + 2, none⟩ = some (.string (l[i]'hlt).s)) := hid fun w' hw => by
        obtain ⟨b', o', e', y0, y1, y2⟩ := rd_vls (ha.out.below_all (hB.out.trans (hw.mono hB.out.size))) hlt
        obtain ⟨b'', o'', e'', z0, z1, z2⟩ := rd_vls (hb.out.below_all (hB.out.trans (hw.mono hB.out.size))) hlt
        cases e'
        cases e''
        exact ⟨y0, y1, y2, z0, z1, z2⟩
      generalize l[i] = vv at *
      have hlt9 := hid hlt
      clear hlt hil
      go_upto_region 6 with fail
      refine wp_region_held_drew (S := fun w'' => Below wr.heap.size wr w'') (by kernel_rfl) ?_ (fun hHeld => ?_)
      · exact (Below.refl _ _).drew
      have hb0 : Hid (Below wr.heap.size wr wr.drew) := hid (Below.refl _ _).drew
      generalize World.drew wr = wd at *
      refine wpAnyH_take (i := 0) (v := ?v1) rfl (by kernel_rfl) (by kernel_rfl) (by kernel_rfl) (fun _ _ _ h => h) (Or.inl ⟨by rfl, ?hy1⟩) (by assumption) ?rest1
      case hy1 => intro w' hSw; have q0 := (hy.out w' hSw).1; have q1 := (hy.out w' hSw).2.1; have q2 := (hy.out w' hSw).2.2.1; have u0 := (hy.out w' hSw).2.2.2.1; have u1 := (hy.out w' hSw).2.2.2.2.1; have u2 := (hy.out w' hSw).2.2.2.2.2; (try dsimp only at hSw); go_simp; try with_reducible rfl
      (try simp only [Act.put, List.setIfInBounds_toArray, List.set_cons_zero, List.set_cons_succ, List.getElem_toArray, List.getElem_cons_zero, List.getElem_cons_succ])
      refine wpAnyH_take (i := 1) (v := ?v2) rfl (by kernel_rfl) (by kernel_rfl) (by kernel_rfl) (fun _ _ _ h => h) (Or.inl ⟨by rfl, ?hy2⟩) (by assumption) ?rest2
      case hy2 => intro w' hSw; have q0 := (hy.out w' hSw).1; have q1 := (hy.out w' hSw).2.1; have q2 := (hy.out w' hSw).2.2.1; have u0 := (hy.out w' hSw).2.2.2.1; have u1 := (hy.out w' hSw).2.2.2.2.1; have u2 := (hy.out w' hSw).2.2.2.2.2; (try dsimp only at hSw); go_simp; try with_reducible rfl
      (try simp only [Act.put, List.setIfInBounds_toArray, List.set_cons_zero, List.set_cons_succ, List.getElem_toArray, List.getElem_cons_zero, List.getElem_cons_succ])
      refine wpAnyH_take (i := 2) (v := ?v3) rfl (by kernel_rfl) (by kernel_rfl) (by kernel_rfl) (fun _ _ _ h => h) (Or.inl ⟨by rfl, ?hy3⟩) (by assumption) ?rest3
      case hy3 => intro w' hSw; have q0 := (hy.out w' hSw).1; have q1 := (hy.out w' hSw).2.1; have q2 := (hy.out w' hSw).2.2.1; have u0 := (hy.out w' hSw).2.2.2.1; have u1 := (hy.out w' hSw).2.2.2.2.1; have u2 := (hy.out w' hSw).2.2.2.2.2; (try dsimp only at hSw); go_simp; try with_reducible rfl
      (try simp only [Act.put, List.setIfInBounds_toArray, List.set_cons_zero, List.set_cons_succ, List.getElem_toArray, List.getElem_cons_zero, List.getElem_cons_succ])
      refine wpAnyH_take (i := 3) (v := ?v4) rfl (by kernel_rfl) (by kernel_rfl) (by kernel_rfl) (fun _ _ _ h => h) (Or.inl ⟨by rfl, ?hy4⟩) (by assumption) ?rest4
      case hy4 => intro w' hSw; have q0 := (hy.out w' hSw).1; have q1 := (hy.out w' hSw).2.1; have q2 := (hy.out w' hSw).2.2.1; have u0 := (hy.out w' hSw).2.2.2.1; have u1 := (hy.out w' hSw).2.2.2.2.1; have u2 := (hy.out w' hSw).2.2.2.2.2; (try dsimp only at hSw); go_simp; try with_reducible rfl
      (try simp only [Act.put, List.setIfInBounds_toArray, List.set_cons_zero, List.set_cons_succ, List.getElem_toArray, List.getElem_cons_zero, List.getElem_cons_succ])
      refine wpAnyH_take (i := 4) (v := ?v5) rfl (by kernel_rfl) (by kernel_rfl) (by kernel_rfl) (fun _ _ _ h => h) (Or.inl ⟨by rfl, ?hy5⟩) (by assumption) ?rest5
      case hy5 => intro w' hSw; have q0 := (hy.out w' hSw).1; have q1 := (hy.out w' hSw).2.1; have q2 := (hy.out w' hSw).2.2.1; have u0 := (hy.out w' hSw).2.2.2.1; have u1 := (hy.out w' hSw).2.2.2.2.1; have u2 := (hy.out w' hSw).2.2.2.2.2; (try dsimp only at hSw); go_simp; try with_reducible rfl
      (try simp only [Act.put, List.setIfInBounds_toArray, List.set_cons_zero, List.set_cons_succ, List.getElem_toArray, List.getElem_cons_zero, List.getElem_cons_succ])
      refine wpAnyH_take (i := 5) (v := ?v6) rfl (by kernel_rfl) (by kernel_rfl) (by kernel_rfl) (fun _ _ _ h => h) (Or.inl ⟨by rfl, ?hy6⟩) (by assumption) ?rest6
      case hy6 => intro w' hSw; have q0 := (hy.out w' hSw).1; have q1 := (hy.out w' hSw).2.1; have q2 := (hy.out w' hSw).2.2.1; have u0 := (hy.out w' hSw).2.2.2.1; have u1 := (hy.out w' hSw).2.2.2.2.1; have u2 := (hy.out w' hSw).2.2.2.2.2; (try dsimp only at hSw); go_simp; try with_reducible rfl
      (try simp only [Act.put, List.setIfInBounds_toArray, List.set_cons_zero, List.set_cons_succ, List.getElem_toArray, List.getElem_cons_zero, List.getElem_cons_succ])
      refine wpAnyH_take (i := 6) (v := ?v7) rfl (by kernel_rfl) (by kernel_rfl) (by kernel_rfl) (fun _ _ _ h => h) (Or.inl ⟨by rfl, ?hy7⟩) (by assumption) ?rest7
      case hy7 => intro w' hSw; have q0 := (hy.out w' hSw).1; have q1 := (hy.out w' hSw).2.1; have q2 := (hy.out w' hSw).2.2.1; have u0 := (hy.out w' hSw).2.2.2.1; have u1 := (hy.out w' hSw).2.2.2.2.1; have u2 := (hy.out w' hSw).2.2.2.2.2; (try dsimp only at hSw); go_simp; try with_reducible rfl
      (try simp only [Act.put, List.setIfInBounds_toArray, List.set_cons_zero, List.set_cons_succ, List.getElem_toArray, List.getElem_cons_zero, List.getElem_cons_succ])
      refine wpAnyH_take (i := 7) (v := ?v8) rfl (by kernel_rfl) (by kernel_rfl) (by kernel_rfl) (fun _ _ _ h => h) (Or.inl ⟨by rfl, ?hy8⟩) (by assumption) ?rest8
      case hy8 => intro w' hSw; have q0 := (hy.out w' hSw).1; have q1 := (hy.out w' hSw).2.1; have q2 := (hy.out w' hSw).2.2.1; have u0 := (hy.out w' hSw).2.2.2.1; have u1 := (hy.out w' hSw).2.2.2.2.1; have u2 := (hy.out w' hSw).2.2.2.2.2; (try dsimp only at hSw); go_simp; try with_reducible rfl
      (try simp only [Act.put, List.setIfInBounds_toArray, List.set_cons_zero, List.set_cons_succ, List.getElem_toArray, List.getElem_cons_zero, List.getElem_cons_succ])
      refine wpAnyH_take (i := 8) (v := ?v9) rfl (by kernel_rfl) (by kernel_rfl) (by kernel_rfl) (fun _ _ _ h => h) (Or.inl ⟨by rfl, ?hy9⟩) (by assumption) ?rest9
      case hy9 => intro w' hSw; have qe := neqValF vv; (try dsimp only at hSw); go_simp; try with_reducible rfl
      (try simp only [Act.put, List.setIfInBounds_toArray, List.set_cons_zero, List.set_cons_succ, List.getElem_toArray, List.getElem_cons_zero, List.getElem_cons_succ])
      refine wpAnyH_done (by kernel_rfl) ?_ _
      go_wp2_with fail
      go_roundw
      case rel => exact ⟨i + 1, by go_num, hlt9.out, hB.out.trans (hb0.out.mono hB.out.size)⟩
      case measure => simp [intOf]; have := hlt9.out; omega
    · obtain rfl : i = l.length := by omega
      clear hlt hil
      go_wp2_with fail
      go_ret
      exact ⟨rfl, hB.out⟩
end
end Go.Proofs.YtefigpmkiemfhaaDoor

namespace Go.Proofs.YtefigpmkiemfhaaDoor
set_option linter.unusedVariables false
set_option linter.unusedSimpArgs false

/-- two stores with the same keys -/
structure KEq (s t : St) : Prop where
  parts : s.parts = t.parts
  room : s.room = t.room
  keys : s.L.map (·.1) = t.L.map (·.1)
theorem KEq.has {s t : St} (h : KEq s t) (k : ByteArray) : hasK k s.L = hasK k t.L := has_keys h.keys
theorem ins_keysEq {k : ByteArray} : ∀ {L M : List Kv}, L.map (·.1) = M.map (·.1) → (insK k L).map (·.1) = (insK k M).map (·.1)
  | [], [], _ => rfl
  | [], _ :: _, h => by simp at h
  | _ :: _, [], h => by simp at h
  | x :: L, y :: M, h => by
    simp only [List.map_cons, List.cons.injEq] at h
    obtain ⟨h1, h2⟩ := h
    unfold insK
    rw [h1]
    split
    · simp only [List.map_cons]; rw [h1, ins_keysEq h2]
    · split
      · simp only [List.map_cons]; rw [h1, h2]
      · simp only [List.map_cons]; rw [h1, h2]
theorem insAll_keysEq : ∀ {ks : List ByteArray} {L M : List Kv}, L.map (·.1) = M.map (·.1) → (insAll L ks).map (·.1) = (insAll M ks).map (·.1)
  | [], _, _, h => h
  | k :: ks, L, M, h => insAll_keysEq (ks := ks) (L := insK k L) (M := insK k M) (ins_keysEq h)
theorem KEq.claimE {s t : St} (h : KEq s t) (ks : List ByteArray) : claimE s ks = claimE t ks := by
  have hm : ∀ p, moreK s ks p = moreK t ks p := fun p => by unfold moreK; rw [h.parts]; simp only [h.has]
  have hc : ∀ p, cntP s.parts p s.L = cntP t.parts p t.L := fun p => by rw [h.parts]; exact cnt_keys h.keys
  have hf : fullB s ks = fullB t ks := by
    unfold fullB
    rw [h.room]
    simp only [hm, hc]
    rw [h.parts]
  unfold Go.Proofs.YtefigpmkiemfhaaDoor.claimE
  rw [hf]
theorem KEq.claim {s t : St} (h : KEq s t) (ks : List ByteArray) : KEq (claimS s ks) (claimS t ks) := by
  unfold claimS
  rw [h.claimE ks]
  split
  · exact ⟨h.parts, h.room, insAll_keysEq h.keys⟩
  · exact h
theorem KEq.apply {s t : St} (h : KEq s t) (ws : List Wr) : KEq (applyS s ws) t := by
  unfold applyS
  split
  · exact ⟨h.parts, h.room, by show (upAll s.L ws).map (·.1) = _; rw [upAll_keys]; exact h.keys⟩
  · exact h
/-- while it is under way: the keys' bits and frozen copies are as they were -/
structure Froz (z : Zg) (keys : List ByteArray) (was : List Vl) (turned : List Int) : Prop where
  has : ∀ k ∈ keys, hasK k z.s.L = true
  was : keys.map (frozK z) = was
  turned : keys.map (bitW z) = turned
theorem frozK_eq {z z' : Zg} {k : ByteArray} (h : hasK k z.s.L = true) (h' : hasK k z'.s.L = true) (hw : (z'.f k).w = (z.f k).w) (ho : (z'.f k).old = (z.f k).old) : bitW z' k = bitW z k ∧ frozK z' k = frozK z k := by
  have e : bitW z' k = bitW z k := by unfold bitW; rw [if_pos h, if_pos h', hw]
  refine ⟨e, ?_⟩
  unfold frozK
  rw [e]
  unfold bitW cpy0 cpy1
  rw [if_pos h, if_pos h, if_pos h, if_pos h', if_pos h']
  unfold Ce.old Ce.at_ at ho
  rw [hw] at ho
  unfold bI
  cases hb : (z.f k).w with
  | true => rw [hb] at ho; simpa using ho
  | false => rw [hb] at ho; simpa using ho
theorem Froz.of {z z' : Zg} {keys : List ByteArray} {was : List Vl} {turned : List Int} (h : Froz z keys was turned) (hk : ∀ k, hasK k z.s.L = true → hasK k z'.s.L = true ∧ (z'.f k).w = (z.f k).w ∧ (z'.f k).old = (z.f k).old) : Froz z' keys was turned := by
  refine ⟨fun k hm => (hk k (h.has k hm)).1, ?_, ?_⟩
  · rw [← h.was]
    exact List.map_congr_left fun k hm => (frozK_eq (h.has k hm) (hk k (h.has k hm)).1 (hk k (h.has k hm)).2.1 (hk k (h.has k hm)).2.2).2
  · rw [← h.turned]
    exact List.map_congr_left fun k hm => (frozK_eq (h.has k hm) (hk k (h.has k hm)).1 (hk k (h.has k hm)).2.1 (hk k (h.has k hm)).2.2).1
theorem Froz.claim {z : Zg} {keys : List ByteArray} {was : List Vl} {turned : List Int} (h : Froz z keys was turned) (ks : List ByteArray) : Froz (z.claim ks) keys was turned := by
  refine h.of fun k hk => ?_
  unfold Zg.claim
  split
  · rename_i he
    refine ⟨?_, ?_⟩
    · show hasK k (claimS z.s ks).L = true
      rw [claim_hasK he, hk, Bool.or_true]
    · have e : newF z.s.L z.fresh z.f ks k = z.f k := by unfold newF; rw [if_neg fun hh => by rw [hk] at hh; cases hh.1]
      exact ⟨congrArg Ce.w e, congrArg Ce.old e⟩
  · exact ⟨hk, rfl, rfl⟩
theorem putAll_old : ∀ {ws : List Wr} {f : ByteArray → Ce} {k : ByteArray}, (putAll f ws k).w = (f k).w ∧ (putAll f ws k).old = (f k).old
  | [], _, _ => ⟨rfl, rfl⟩
  | x :: ws, f, k => by
    show (putAll (putFz f x) ws k).w = _ ∧ (putAll (putFz f x) ws k).old = _
    obtain ⟨h1, h2⟩ := putAll_old (ws := ws) (f := putFz f x) (k := k)
    rw [h1, h2]
    unfold putFz
    split
    · exact ⟨Ce.w_put _ _, Ce.old_put _ _⟩
    · exact ⟨rfl, rfl⟩
theorem Froz.apply {z : Zg} {keys : List ByteArray} {was : List Vl} {turned : List Int} (h : Froz z keys was turned) (ws : List Wr) : Froz (z.apply ws) keys was turned := by
  refine h.of fun k hk => ?_
  unfold Zg.apply
  split
  · rename_i he
    refine ⟨?_, putAll_old⟩
    show hasK k (applyS z.s ws).L = true
    unfold applyS
    rw [if_pos he, upAll_has]
    exact hk
  · exact ⟨hk, rfl, rfl⟩
theorem Froz.step {z : Zg} {keys : List ByteArray} {was : List Vl} {turned : List Int} (h : Froz z keys was turned) (n : Int) : Froz (z.step n) keys was turned := ⟨h.has, h.was, h.turned⟩
theorem Froz.take {z : Zg} {keys : List ByteArray} {was : List Vl} {turned : List Int} (h : Froz z keys was turned) : Froz z.take keys was turned := by
  unfold Zg.take
  split
  · exact ⟨h.has, h.was, h.turned⟩
  · exact h
/-- a checkpoint begins: of every key the bits are unlike -/
theorem begin_bits {z : Zg} {m : Int} (h : z.beginE m = 0) {k : ByteArray} (hk : hasK k z.s.L = true) : bitR (z.begin m) k ≠ bitW (z.begin m) k := by
  unfold Zg.begin
  rw [if_pos h]
  unfold bitR bitW
  rw [if_pos (show hasK k z.s.L = true from hk), if_pos (show hasK k z.s.L = true from hk)]
  show bI (z.f k).r ≠ bI (!(z.f k).r)
  cases (z.f k).r <;> decide
theorem begin_froz {z : Zg} {m : Int} (h : z.beginE m = 0) : Froz (z.begin m) (z.s.L.map (·.1)) ((z.s.L.map (·.1)).map (frozK (z.begin m))) ((z.s.L.map (·.1)).map (bitW (z.begin m))) := by
  refine ⟨fun k hk => ?_, rfl, rfl⟩
  have e : (z.begin m).s = z.s := by unfold Zg.begin; split <;> rfl
  rw [e]
  obtain ⟨x, hx, rfl⟩ := List.mem_map.1 hk
  exact hasK_mem.2 ⟨x, hx, rfl⟩
end Go.Proofs.YtefigpmkiemfhaaDoor

namespace Go.Proofs.YtefigpmkiemfhaaDoor
open Go.RowKit
set_option linter.unusedVariables false
set_option linter.unusedSimpArgs false

theorem any_key {L : List Kv} {k : ByteArray} : (L.map (·.1)).any (fun j => decide (j = k)) = hasK k L := by unfold hasK; rw [List.any_map]; rfl
/-- the keys of a store fit an empty one -/
theorem rebuild_claim {s : St} (h : s.Ok) : claimE ⟨s.parts, s.room, []⟩ (s.L.map (·.1)) = 0 := by
  refine claimE_ok ?_ (rise_yes fun j hj => ?_) ?_
  · rw [List.any_eq_false]
    intro k hk
    obtain ⟨x, hx, rfl⟩ := List.mem_map.1 hk
    simp [h.key x hx]
  · rw [List.length_map] at hj
    rw [List.getElem_map, List.getElem_map]
    exact List.pairwise_iff_getElem.1 h.asc j (j + 1) (by omega) hj (by omega)
  · rintro p hp ⟨_, h2⟩
    have e : moreK ⟨s.parts, s.room, []⟩ (s.L.map (·.1)) p = cntP s.parts p s.L := by
      unfold moreK cntP
      rw [List.countP_map]
      rfl
    rw [e] at h2
    have := h.cnt p hp
    have h3 : cntP s.parts p [] = 0 := rfl
    have h2 : s.room < cntP s.parts p [] + cntP s.parts p s.L := h2
    omega
theorem rebuild_apply {s t : St} (h : s.Ok) (ht : ∀ k, hasK k t.L = hasK k s.L) : applyE t (s.L.map kvWr) = 0 := by
  refine applyE_zero fun j hj => ?_
  rw [List.length_map] at hj
  have hx : (s.L.map kvWr).getD j wr0 = kvWr s.L[j] := by simp [List.getD_eq_getElem?_getD, hj]
  rw [wrE_at hx rfl]
  have hm := List.getElem_mem hj
  have h1 : validK (kvWr s.L[j]).key = true := h.key _ hm
  have h2 : hasK (kvWr s.L[j]).key t.L = true := by rw [ht]; exact hasK_mem.2 ⟨_, hm, rfl⟩
  have h3 : (kvWr s.L[j]).v.ok = true := h.val _ hm
  have h4 : (kvWr s.L[j]).gone = false := rfl
  rw [if_neg (by rw [h1]; decide), if_neg, if_neg (by rw [h2]; decide), if_neg (by rw [h3]; decide), if_neg (by rw [h4]; rintro ⟨h, _⟩; cases h)]
  rintro ⟨h0, h5⟩
  have hy : (s.L.map kvWr).getD (j - 1) wr0 = kvWr (s.L[j - 1]'(by omega)) := by simp [List.getD_eq_getElem?_getD, show j - 1 < s.L.length by omega]
  rw [hy] at h5
  have h6 := List.pairwise_iff_getElem.1 h.asc (j - 1) j (by omega) hj (by omega)
  have h5 : ltB (s.L[j - 1]'(by omega)).1 s.L[j].1 = false := h5
  rw [h6] at h5
  cases h5
theorem rebuild_list {L : List Kv} (h : Asc L) : upAll (insAll [] (L.map (·.1))) (L.map kvWr) = L := by
  have e0 : ([] : List Kv).Pairwise fun x y => ltB x.1 y.1 = true := List.Pairwise.nil
  have hh : ∀ k, hasK k (insAll [] (L.map (·.1))) = hasK k L := fun k => by
    rw [insAll_has, any_key]
    show (hasK k L || false) = _
    rw [Bool.or_false]
  have hn : ((L.map kvWr).map (·.key)).Nodup := by
    rw [List.map_map]
    exact asc_nodup h
  refine asc_ext (asc_keys upAll_keys (insAll_asc e0)) h (fun k => by rw [upAll_has, hh]) fun k => ?_
  cases hk : hasK k L with
  | false =>
    rw [valK_none hk, valK_none (by rw [upAll_has, hh, hk])]
  | true =>
    obtain ⟨x, hx, rfl⟩ := hasK_mem.1 hk
    rw [valK_mem h hx]
    exact upAll_in (x := kvWr x) hn (List.mem_map.2 ⟨x, hx, rfl⟩) (by show hasK x.1 _ = true; rw [hh]; exact hk)
/-- a store, made anew of its keys and values -/
theorem rebuild {s : St} (h : s.Ok) : applyS (claimS ⟨s.parts, s.room, []⟩ (s.L.map (·.1))) (s.L.map kvWr) = s := by
  have hh : ∀ k, hasK k (claimS ⟨s.parts, s.room, []⟩ (s.L.map (·.1))).L = hasK k s.L := fun k => by
    rw [claim_hasK (rebuild_claim h), any_key]
    show (hasK k s.L || false) = _
    rw [Bool.or_false]
  rw [applyS_yes (rebuild_apply h hh), claimS_yes (rebuild_claim h)]
  show (⟨s.parts, s.room, upAll (insAll [] (s.L.map (·.1))) (s.L.map kvWr)⟩ : St) = s
  rw [rebuild_list h.asc]
/-- what is taken and what is left are the store at Begin -/
structure Kept (z : Zg) (t : St) : Prop where
  all : z.taken ++ z.left.map (fun k => (k, (z.f k).old)) = t.L
  p : z.s.parts = t.parts
  r : z.s.room = t.room
  ok : t.Ok
theorem Kept.len {z : Zg} {t : St} (h : Kept z t) : z.left.length ≤ t.L.length := by
  have := congrArg List.length h.all
  rw [List.length_append, List.length_map] at this
  omega
theorem Kept.kept {z : Zg} {t : St} (h : Kept z t) (hl : z.left = []) : z.kept = t := by
  have e := h.all
  rw [hl, List.map_nil, List.append_nil] at e
  unfold Zg.kept
  rw [e, h.p, h.r]
  exact rebuild h.ok
theorem Kept.of {z z' : Zg} {t : St} (h : Kept z t) (ht : z'.taken = z.taken) (hl : z'.left = z.left) (hf : ∀ k ∈ z.left, (z'.f k).old = (z.f k).old) (hp : z'.s.parts = z.s.parts) (hr : z'.s.room = z.s.room) : Kept z' t := by
  refine ⟨?_, hp.trans h.p, hr.trans h.r, h.ok⟩
  rw [ht, hl, ← h.all]
  congr 1
  exact List.map_congr_left fun k hk => by rw [hf k hk]
theorem claimS_parts (s : St) (ks : List ByteArray) : (claimS s ks).parts = s.parts ∧ (claimS s ks).room = s.room := by unfold claimS; split <;> exact ⟨rfl, rfl⟩
theorem applyS_parts (s : St) (ws : List Wr) : (applyS s ws).parts = s.parts ∧ (applyS s ws).room = s.room := by unfold applyS; split <;> exact ⟨rfl, rfl⟩
theorem Kept.claim {z : Zg} {t : St} (h : Kept z t) (hz : z.Ok) (ks : List ByteArray) : Kept (z.claim ks) t := by
  unfold Zg.claim
  split
  · refine h.of rfl rfl (fun k hk => ?_) (claimS_parts _ _).1 (claimS_parts _ _).2
    have e : newF z.s.L z.fresh z.f ks k = z.f k := by unfold newF; rw [if_neg fun hh => by rw [hz.left k hk] at hh; cases hh.1]
    exact congrArg Ce.old e
  · exact h
theorem Kept.apply {z : Zg} {t : St} (h : Kept z t) (ws : List Wr) : Kept (z.apply ws) t := by
  unfold Zg.apply
  split
  · exact h.of rfl rfl (fun k hk => putAll_old.2) (applyS_parts _ _).1 (applyS_parts _ _).2
  · exact h
theorem Kept.step {z : Zg} {t : St} (h : Kept z t) (n : Int) : Kept (z.step n) t := by
  refine ⟨?_, h.p, h.r, h.ok⟩
  show (z.taken ++ (z.left.take (z.stepN n)).map fun k => (k, (z.f k).old)) ++ (z.left.drop (z.stepN n)).map (fun k => (k, (z.f k).old)) = t.L
  rw [List.append_assoc, ← List.map_append, List.take_append_drop]
  exact h.all
theorem Kept.take {z : Zg} {t : St} (h : Kept z t) : Kept z.take t := by
  unfold Zg.take
  split
  · exact ⟨h.all, h.p, h.r, h.ok⟩
  · exact h
theorem begin_kept {z : Zg} {m : Int} (hz : z.Ok) (h : z.beginE m = 0) : Kept (z.begin m) z.s := by
  unfold Zg.begin
  rw [if_pos h]
  refine ⟨?_, rfl, rfl, hz.s⟩
  show [] ++ (z.s.L.map (·.1)).map (fun k => (k, (z.f k).turn.old)) = z.s.L
  rw [List.nil_append, List.map_map]
  conv => rhs; rw [← List.map_id z.s.L]
  refine List.map_congr_left fun x hx => ?_
  show (x.1, (z.f x.1).turn.old) = x
  rw [Ce.old_turn, hz.get x.1 (hasK_mem.2 ⟨x, hx, rfl⟩), valK_mem hz.s.asc hx]
/-- while a checkpoint is under way -/
structure WasZ (z : Zg) (t : St) (keys : List ByteArray) (was : List Vl) (mk : Int) : Prop where
  kept : Kept z t
  fz : ∃ turned, Froz z keys was turned
  keys : keys = t.L.map (·.1)
  mark : mk = z.mark
section
variable {z : Zg} {t : St} {keys : List ByteArray} {was : List Vl} {mk : Int}
theorem WasZ.claim (h : WasZ z t keys was mk) (hz : z.Ok) (ks : List ByteArray) : WasZ (z.claim ks) t keys was mk := by
  obtain ⟨tu, hf⟩ := h.fz
  exact ⟨h.kept.claim hz ks, ⟨tu, hf.claim ks⟩, h.keys, h.mark.trans (by unfold Zg.claim; split <;> rfl)⟩
theorem WasZ.apply (h : WasZ z t keys was mk) (ws : List Wr) : WasZ (z.apply ws) t keys was mk := by
  obtain ⟨tu, hf⟩ := h.fz
  exact ⟨h.kept.apply ws, ⟨tu, hf.apply ws⟩, h.keys, h.mark.trans (by unfold Zg.apply; split <;> rfl)⟩
theorem WasZ.step (h : WasZ z t keys was mk) (n : Int) : WasZ (z.step n) t keys was mk := by
  obtain ⟨tu, hf⟩ := h.fz
  exact ⟨h.kept.step n, ⟨tu, hf.step n⟩, h.keys, h.mark⟩
theorem WasZ.take (h : WasZ z t keys was mk) : WasZ z.take t keys was mk := by
  obtain ⟨tu, hf⟩ := h.fz
  exact ⟨h.kept.take, ⟨tu, hf.take⟩, h.keys, h.mark.trans (by unfold Zg.take; split <;> rfl)⟩
theorem WasZ.is (h : WasZ z t keys was mk) : keys.map (frozK z) = was := by
  obtain ⟨tu, hf⟩ := h.fz
  exact hf.was
end
theorem begin_wasz {z : Zg} {m : Int} (hz : z.Ok) (h : z.beginE m = 0) : WasZ (z.begin m) z.s (z.s.L.map (·.1)) ((z.s.L.map (·.1)).map (frozK (z.begin m))) m :=
  ⟨begin_kept hz h, ⟨_, begin_froz h⟩, rfl, by unfold Zg.begin; rw [if_pos h]⟩
/-- once all is taken -/
theorem can_left {z : Zg} (h : z.canTake = true) : z.left = [] := by unfold Zg.canTake at h; simp at h; exact h.2
theorem step_all {z : Zg} {t : St} {keys : List ByteArray} {was : List Vl} {mk : Int} (h : WasZ z t keys was mk) (hu : z.under = true) : (z.step keys.length).canTake = true := by
  have h1 := h.kept.len
  have h2 : keys.length = t.L.length := by rw [h.keys, List.length_map]
  unfold Zg.canTake
  have e : (z.step keys.length).left = [] := by
    show z.left.drop (z.stepN keys.length) = []
    rw [List.drop_eq_nil_iff]
    unfold Zg.stepN
    split
    · have : (keys.length : Int).toNat = keys.length := by omega
      rw [this]
      omega
    · rename_i hh
      have : ¬ (1 ≤ (keys.length : Int)) := fun e => hh ⟨hu, e⟩
      omega
  rw [e]
  show (z.under && true) = true
  rw [hu]; rfl
end Go.Proofs.YtefigpmkiemfhaaDoor

namespace Go.Proofs.YtefigpmkiemfhaaDoor
open Go.RowKit
set_option linter.unusedVariables false
set_option linter.unusedSimpArgs false

structure FRel (w0 wr : World) (g gs : Nat) (z : Zg) (t : St) (T Ss : Nat → Prop) : Prop where
  a : ZAt T wr g z
  b : PAt Ss wr gs t
  ge : (∀ q, T q → w0.heap.size ≤ q) ∧ ∀ q, Ss q → w0.heap.size ≤ q
  dis : ∀ q, T q → ¬ Ss q
  bel : Below w0.heap.size w0 wr
  rz : RngZ z
/-- a row in neither's blocks -/
def Off (T Ss : Nat → Prop) (q : Nat) : Prop := ¬ T q ∧ ¬ Ss q
structure FRows (wr : World) (T Ss : Nat → Prop) (z : Zg) (keys : List ByteArray) (was : List Vl) (turned : List Int) (A8 A9 A10 : Option Addr) : Prop where
  k : Rd (Off T Ss) wr 1 A8 keys.length (strs keys)
  w : Rd (Off T Ss) wr 3 A9 was.length (vlCells was)
  t : Rd (Off T Ss) wr 1 A10 turned.length (intCells turned)
  len : keys.length ≤ 1000000
  fz : z.under = true → Froz z keys was turned
section
variable {w0 wr w' : World} {g gs : Nat} {z z' : Zg} {t t' : St} {T Ss : Nat → Prop} {keys : List ByteArray} {was : List Vl} {turned : List Int} {A8 A9 A10 : Option Addr}
theorem FRel.below (h : FRel w0 wr g gs z t T Ss) (hb : Below wr.heap.size wr w') : FRel w0 w' g gs z t T Ss := ⟨h.a.below hb, h.b.below hb, h.ge, h.dis, h.bel.trans (hb.mono h.bel.size), h.rz⟩
theorem FRows.below (h : FRows wr T Ss z keys was turned A8 A9 A10) (hb : Below wr.heap.size wr w') : FRows w' T Ss z keys was turned A8 A9 A10 := ⟨h.k.below_all hb, h.w.below_all hb, h.t.below_all hb, h.len, h.fz⟩
/-- the Zig goes on -/
theorem FRel.goA (h : FRel w0 wr g gs z t T Ss) (hr : FRows wr T Ss z keys was turned A8 A9 A10) (hg : ZGo T wr g z' w') (hz : RngZ z') (hf : z'.under = true → Froz z' keys was turned) :
    ∃ T', FRel w0 w' g gs z' t T' Ss ∧ FRows w' T' Ss z' keys was turned A8 A9 A10 ∧ Upd T wr w' ∧ ∀ q, T' q → T q ∨ wr.heap.size ≤ q := by
  obtain ⟨T', ha, h1, h2, hu⟩ := hg
  have hm : ∀ q, Off T Ss q → q < wr.heap.size → ¬ T q ∧ Off T' Ss q := fun q hq hl => ⟨hq.1, fun e => by rcases h1 q e with e | e; exact hq.1 e; omega, hq.2⟩
  refine ⟨T', ⟨ha, h.b.upd hu fun q hq e => h.dis q e hq, ⟨fun q hq => ?_, h.ge.2⟩, fun q hq e => ?_, h.bel.trans (hu.below h.bel.size fun q hq e => by have := h.ge.1 q e; omega), hz⟩, ⟨?_, ?_, ?_, hr.len, hf⟩, hu, h1⟩
  · rcases h1 q hq with h3 | h3
    · exact h.ge.1 q h3
    · have := h.bel.size; omega
  · rcases h1 q hq with h3 | h3
    · exact h.dis q h3 e
    · have := h.b.lt q e; omega
  · exact ((hr.k.more hm).upd hu fun q hq => hq.1).more fun q hq _ => hq.2
  · exact ((hr.w.more hm).upd hu fun q hq => hq.1).more fun q hq _ => hq.2
  · exact ((hr.t.more hm).upd hu fun q hq => hq.1).more fun q hq _ => hq.2
/-- the store goes on -/
theorem FRel.goB (h : FRel w0 wr g gs z t T Ss) (hr : FRows wr T Ss z keys was turned A8 A9 A10) (hp : PAt Ss w' gs t') (hu : Upd Ss wr w') :
    FRel w0 w' g gs z t' T Ss ∧ FRows w' T Ss z keys was turned A8 A9 A10 :=
  ⟨⟨h.a.upd hu fun q hq e => h.dis q hq e, hp, h.ge, h.dis, h.bel.trans (hu.below h.bel.size fun q hq e => by have := h.ge.2 q e; omega), h.rz⟩, ⟨hr.k.upd hu fun q hq => hq.2, hr.w.upd hu fun q hq => hq.2, hr.t.upd hu fun q hq => hq.2, hr.len, hr.fz⟩⟩
end
end Go.Proofs.YtefigpmkiemfhaaDoor

namespace Go.Proofs.YtefigpmkiemfhaaDoor
open Go.RowKit
set_option linter.unusedVariables false
set_option linter.unusedSimpArgs false

/-- the kept rows: keys and copies; the kept text and mark -/
structure WRows (wr : World) (T Ss : Nat → Prop) (z : Zg) (keys : List ByteArray) (was : List Vl) (tx : ByteArray) (mk : Int) (A8 A9 : Option Addr) : Prop where
  k : Rd (Off T Ss) wr 1 A8 keys.length (strs keys)
  w : Rd (Off T Ss) wr 3 A9 was.length (vlCells was)
  len : keys.length ≤ 1000000
  fz : z.under = true → ∃ t0, WasZ z t0 keys was mk ∧ tx = btS t0
section
variable {w0 wr w' : World} {g gs : Nat} {z z' : Zg} {t t' : St} {T Ss : Nat → Prop} {keys : List ByteArray} {was : List Vl} {tx : ByteArray} {mk : Int} {A8 A9 : Option Addr}
theorem WRows.below (h : WRows wr T Ss z keys was tx mk A8 A9) (hb : Below wr.heap.size wr w') : WRows w' T Ss z keys was tx mk A8 A9 := ⟨h.k.below_all hb, h.w.below_all hb, h.len, h.fz⟩
/-- the Zig goes on -/
theorem FRel.goW (h : FRel w0 wr g gs z t T Ss) (hr : WRows wr T Ss z keys was tx mk A8 A9) (hg : ZGo T wr g z' w') (hz : RngZ z') (hf : z'.under = true → ∃ t0, WasZ z' t0 keys was mk ∧ tx = btS t0) :
    ∃ T', FRel w0 w' g gs z' t T' Ss ∧ WRows w' T' Ss z' keys was tx mk A8 A9 ∧ Upd T wr w' ∧ ∀ q, T' q → T q ∨ wr.heap.size ≤ q := by
  obtain ⟨T', ha, h1, h2, hu⟩ := hg
  have hm : ∀ q, Off T Ss q → q < wr.heap.size → ¬ T q ∧ Off T' Ss q := fun q hq hl => ⟨hq.1, fun e => by rcases h1 q e with e | e; exact hq.1 e; omega, hq.2⟩
  refine ⟨T', ⟨ha, h.b.upd hu fun q hq e => h.dis q e hq, ⟨fun q hq => ?_, h.ge.2⟩, fun q hq e => ?_, h.bel.trans (hu.below h.bel.size fun q hq e => by have := h.ge.1 q e; omega), hz⟩, ⟨?_, ?_, hr.len, hf⟩, hu, h1⟩
  · rcases h1 q hq with h3 | h3
    · exact h.ge.1 q h3
    · have := h.bel.size; omega
  · rcases h1 q hq with h3 | h3
    · exact h.dis q h3 e
    · have := h.b.lt q e; omega
  · exact ((hr.k.more hm).upd hu fun q hq => hq.1).more fun q hq _ => hq.2
  · exact ((hr.w.more hm).upd hu fun q hq => hq.1).more fun q hq _ => hq.2
/-- the store goes on -/
theorem FRel.goS (h : FRel w0 wr g gs z t T Ss) (hr : WRows wr T Ss z keys was tx mk A8 A9) (hp : PAt Ss w' gs t') (hu : Upd Ss wr w') :
    FRel w0 w' g gs z t' T Ss ∧ WRows w' T Ss z keys was tx mk A8 A9 :=
  ⟨⟨h.a.upd hu fun q hq e => h.dis q hq e, hp, h.ge, h.dis, h.bel.trans (hu.below h.bel.size fun q hq e => by have := h.ge.2 q e; omega), h.rz⟩, ⟨hr.k.upd hu fun q hq => hq.2, hr.w.upd hu fun q hq => hq.2, hr.len, hr.fz⟩⟩
theorem wrows0 (h : FRel w0 wr g gs z t T Ss) (hz : z.under = false) : WRows wr T Ss z [] [] ⟨#[]⟩ 0 none none := ⟨Rd.nil_, Rd.nil_, by simp, fun h => by rw [hz] at h; cases h⟩
end
end Go.Proofs.YtefigpmkiemfhaaDoor

namespace Go.Proofs.YtefigpmkiemfhaaDoor
open Go.RowKit
set_option linter.unusedVariables false
set_option linter.unusedSimpArgs false

/-- an act -/
structure SA where
  kind : Int
  ks : List ByteArray
  ws : List Wr
  A1 : Option Addr
  c1 : Nat
  A2 : Option Addr
  c2 : Nat
def scells (a : SA) : List Value := [.int .i64 a.kind, .slice a.A1 a.ks.length a.c1, .slice a.A2 a.ws.length a.c2]
def SA.ok (S : Nat → Prop) (w : World) (a : SA) : Prop := Rd S w 1 a.A1 a.ks.length (strs a.ks) ∧ Rd S w 5 a.A2 a.ws.length (wrCells a.ws)
structure SActs (S : Nat → Prop) (w : World) (A : Option Addr) (us : List SA) : Prop where
  row : Rd S w 3 A us.length (us.flatMap scells)
  ok : ∀ a ∈ us, a.ok S w
theorem SActs.keep {S : Nat → Prop} {w w' : World} {A : Option Addr} {us : List SA} (h : SActs S w A us) (hk : ∀ b, S b → b < w.heap.size → w'.heap[b]? = w.heap[b]?) : SActs S w' A us := ⟨h.row.keep hk, fun a ha => ⟨(h.ok a ha).1.keep hk, (h.ok a ha).2.keep hk⟩⟩
theorem SActs.below {S : Nat → Prop} {w w' : World} {A : Option Addr} {us : List SA} (h : SActs S w A us) (hb : Below w.heap.size w w') : SActs S w' A us := h.keep fun b _ hl => hb.block b hl
theorem aflat_at {α : Type} (f : α → List Value) (sz : Nat) (hf : ∀ a, (f a).length = sz) (l : List α) (k j : Nat) (h : k < l.length) (hj : j < sz) : (l.flatMap f)[k * sz + j]? = (f l[k])[j]? := by
  induction l generalizing k with
  | nil => simp at h
  | cons x l ih =>
    rw [List.flatMap_cons]
    cases k with
    | zero => rw [List.getElem?_append_left (by rw [hf]; omega)]; simp
    | succ k =>
      rw [List.getElem?_append_right (by rw [hf, Nat.succ_mul]; omega), hf, show (k + 1) * sz + j - sz = k * sz + j by rw [Nat.succ_mul]; omega, ih k (by simpa using h)]
      simp
theorem SActs.at_ {S : Nat → Prop} {w : World} {A : Option Addr} {us : List SA} {k : Nat} (h : SActs S w A us) (hk : k < us.length) : ∃ b o, A = some ⟨b, o, none⟩ ∧ S b ∧ b < w.heap.size ∧ us[k].ok S w ∧
    w.cell? ⟨b, o + k * 3, none⟩ = some (.int .i64 us[k].kind) ∧ w.cell? ⟨b, o + k * 3 + 1, none⟩ = some (.slice us[k].A1 us[k].ks.length us[k].c1) ∧ w.cell? ⟨b, o + k * 3 + 2, none⟩ = some (.slice us[k].A2 us[k].ws.length us[k].c2) := by
  obtain ⟨b, o, e, hS, hl, hc⟩ := h.row.at_ hk
  have g := fun j (hj : j < 3) u (hu : (scells us[k])[j]? = some u) => hc (k * 3 + j) u (by rw [aflat_at scells 3 (fun _ => rfl) us k j hk hj]; exact hu)
  simp only [← Nat.add_assoc] at g
  exact ⟨b, o, e, hS, hl, h.ok _ (List.getElem_mem hk), g 0 (by omega) _ rfl, g 1 (by omega) _ rfl, g 2 (by omega) _ rfl⟩
def partA (a : SA) : Nat := a.ks.length + a.ws.length
def partsA (us : List SA) : Nat := (us.map partA).sum
theorem partsA_take (us : List SA) (k : Nat) (h : k < us.length) : partsA (us.take (k + 1)) = partsA (us.take k) + partA us[k] := by
  unfold partsA
  rw [List.take_succ_eq_append_getElem h, List.map_append, List.sum_append, List.map_cons, List.map_nil, List.sum_cons, List.sum_nil]
  omega
theorem sum_take_le (l : List Nat) (k : Nat) : (l.take k).sum ≤ l.sum := by
  induction l generalizing k with
  | nil => simp
  | cons a l ih =>
    cases k with
    | zero => simp
    | succ k => have := ih k; simp; omega
theorem partsA_le (us : List SA) (k : Nat) : partsA (us.take k) ≤ partsA us := by
  unfold partsA
  have := sum_take_le (us.map partA) k
  rwa [← List.map_take] at this
theorem partsA_mem {us : List SA} {a : SA} (h : a ∈ us) : partA a ≤ partsA us := by
  unfold partsA
  induction us with
  | nil => cases h
  | cons x l ih =>
    rw [List.map_cons, List.sum_cons]
    rcases List.mem_cons.1 h with rfl | h
    · omega
    · have := ih h; omega
def longB (us : List SA) : Bool := decide (200 < us.length) || decide (6000 < partsA us)
end Go.Proofs.YtefigpmkiemfhaaDoor

namespace Go.Proofs.YtefigpmkiemfhaaDoor
open Go.RowKit
set_option linter.unusedVariables false

theorem SActs.all {S : Nat → Prop} {w : World} {A : Option Addr} {us : List SA} (h : SActs S w A us) : SActs (fun b => b < w.heap.size) w A us := ⟨h.row.all, fun a ha => ⟨(h.ok a ha).1.all, (h.ok a ha).2.all⟩⟩
def okKs (ks : List ByteArray) : Prop := ∀ k ∈ ks, k.size ≤ 9223372036854775806
def okWs (ws : List Wr) : Prop := ∀ x ∈ ws, x.key.size ≤ 9223372036854775806 ∧ x.v.s.size ≤ 9223372036854775806
section
variable {w w' : World} {B : Nat}
theorem cell_bel {b o : Nat} {v : Value} (h : Below B w w') (hb : b < B) (hc : w.cell? ⟨b, o, none⟩ = some v) : w'.cell? ⟨b, o, none⟩ = some v := (Upd.of_below (M := fun j => B ≤ j) h fun _ _ h => h).cell hc (by omega)
end
end Go.Proofs.YtefigpmkiemfhaaDoor

namespace Go.Proofs.YtefigpmkiemfhaaDoor
open Go.RowKit
set_option linter.unusedVariables false
set_option linter.unusedSimpArgs false

theorem zlong_no {us : List ZA} {nb : Nat} (h : longZ us nb = false) : us.length ≤ 200 ∧ ∀ a ∈ us, a.ks.length ≤ 3000 ∧ a.ws.length ≤ 3000 := by
  unfold longZ at h
  simp at h
  refine ⟨by omega, fun a ha => ?_⟩
  have := partsZ_mem ha
  unfold partZ at this
  omega
theorem good_pr {p r : Int} (h : goodPR p r = true) : ∃ p' r' : Nat, p = p' ∧ r = r' ∧ (1 ≤ p' ∧ p' ≤ 64) ∧ (1 ≤ r' ∧ r' ≤ 4096) := by
  unfold goodPR at h
  simp at h
  exact ⟨p.toNat, r.toNat, by omega, by omega, by omega, by omega⟩


theorem claim_s (z : Zg) (ks : List ByteArray) : (z.claim ks).s = claimS z.s ks := by
  unfold Zg.claim
  split
  · rfl
  · rename_i h; rw [claimS_no h]
theorem apply_s (z : Zg) (ws : List Wr) : (z.apply ws).s = applyS z.s ws := by
  unfold Zg.apply
  split
  · rfl
  · rename_i h; rw [applyS_no h]
theorem begin_s (z : Zg) (m : Int) : (z.begin m).s = z.s := by unfold Zg.begin; split <;> rfl
theorem take_s (z : Zg) : z.take.s = z.s := by unfold Zg.take; split <;> rfl
theorem drop_s (z : Zg) : z.drop.s = z.s := by unfold Zg.drop; split <;> rfl
theorem claim_u (z : Zg) (ks : List ByteArray) : (z.claim ks).under = z.under := by unfold Zg.claim; split <;> rfl
theorem apply_u (z : Zg) (ws : List Wr) : (z.apply ws).under = z.under := by unfold Zg.apply; split <;> rfl
theorem drop_u (z : Zg) : z.drop.under = false := by
  unfold Zg.drop
  split
  · rfl
  · rename_i h; simpa using h
theorem step_s (z : Zg) (n : Int) : (z.step n).s = z.s := rfl
theorem step_u (z : Zg) (n : Int) : (z.step n).under = z.under := rfl
structure OwnQ (S : Nat → Prop) (w' : World) (a : ZA) (B1 B2 : Option Addr) : Prop where
  ks : Rd S w' 1 B1 a.ks.length (strs a.ks)
  ws : Rd S w' 5 B2 a.ws.length (wrCells a.ws)
theorem OwnQ.more {S S' : Nat → Prop} {w : World} {a : ZA} {B1 B2 : Option Addr} (h : OwnQ S w a B1 B2) (hm : ∀ q, S q → q < w.heap.size → S' q) : OwnQ S' w a B1 B2 := ⟨h.ks.more hm, h.ws.more hm⟩
theorem OwnQ.below {S : Nat → Prop} {w w' : World} {a : ZA} {B1 B2 : Option Addr} (h : OwnQ S w a B1 B2) (hb : Below w.heap.size w w') : OwnQ S w' a B1 B2 := ⟨h.ks.below_all hb, h.ws.below_all hb⟩
theorem OwnQ.upd {S M : Nat → Prop} {w w' : World} {a : ZA} {B1 B2 : Option Addr} (h : OwnQ S w a B1 B2) (hu : Upd M w w') (hM : ∀ q, S q → ¬ M q) : OwnQ S w' a B1 B2 := ⟨h.ks.upd hu hM, h.ws.upd hu hM⟩
theorem set_act {W : World} {m : Nat} {t : TypeId} {u0 u1 u2 u3 u4 : Value} (h : Blk W m t #[u0, u1, u2, u3, u4]) (v0 v1 v2 v3 v4 : Value) :
    Blk (((((W.setCell ⟨m, 0, none⟩ v0).setCell ⟨m, 1, none⟩ v1).setCell ⟨m, 2, none⟩ v2).setCell ⟨m, 3, none⟩ v3).setCell ⟨m, 4, none⟩ v4) m t #[v0, v1, v2, v3, v4] ∧ Upd (fun q => q = m) W (((((W.setCell ⟨m, 0, none⟩ v0).setCell ⟨m, 1, none⟩ v1).setCell ⟨m, 2, none⟩ v2).setCell ⟨m, 3, none⟩ v3).setCell ⟨m, 4, none⟩ v4) :=
  ⟨by simpa using ((((h.set_ 0 v0).set_ 1 v1).set_ 2 v2).set_ 3 v3).set_ 4 v4, (((((Upd.refl (fun q => q = m) W).setCell (p := ⟨m, 0, none⟩) (fun _ => rfl) v0).setCell (p := ⟨m, 1, none⟩) (fun _ => rfl) v1).setCell (p := ⟨m, 2, none⟩) (fun _ => rfl) v2).setCell (p := ⟨m, 3, none⟩) (fun _ => rfl) v3).setCell (p := ⟨m, 4, none⟩) (fun _ => rfl) v4⟩
theorem set_act' {W : World} {m : Nat} {t : TypeId} {u0 u1 u2 u3 u4 : Value} (h : Blk W m t #[u0, u1, u2, u3, u4]) (v0 v1 v2 v3 v4 : Value) :
    ∃ W', ((((W.setCell ⟨m, 0, none⟩ v0).setCell ⟨m, 1, none⟩ v1).setCell ⟨m, 2, none⟩ v2).setCell ⟨m, 3, none⟩ v3).setCell ⟨m, 4, none⟩ v4 = W' ∧ Blk W' m t #[v0, v1, v2, v3, v4] ∧ Upd (fun q => q = m) W W' := ⟨_, rfl, set_act h v0 v1 v2 v3 v4⟩
section
variable {w : World}
set_option maxRecDepth 100000 in
set_option maxHeartbeats 60000000 in
theorem was_walk (p r : Int) {A B : Option Addr} {c nb cb : Nat} {us : List ZA} (h : ZActs (fun b => b < w.heap.size) w A us) (hn : us.length ≤ 1048576) (hp : partsZ us ≤ 1048576) (hnb : nb ≤ 1048576) (hz0 : ∀ a ∈ us, okKs a.ks ∧ okWs a.ws) (hv0 : ∀ a ∈ us, ∀ x ∈ a.ws, x.v.rng) (he0 : Env w) :
    Calls Tryd.prog 5 #[.agg #[.slice B nb cb, .int .i64 p, .int .i64 r, .slice A us.length c]] w fun e w' => e = .returned (.bool true) ∧ Below w.heap.size w w' := by
  have hB0 : Below w.heap.size w (w.alloc (.cells #[.slice B nb cb, .int .i64 p, .int .i64 r, .slice A us.length c] 25)) := (Below.refl _ _).alloc (Nat.le_refl _) _
  have kb := hid (Blk.new w 25 #[.slice B nb cb, .int .i64 p, .int .i64 r, .slice A us.length c])
  have hs := hid h
  have hB := hid hB0
  have hE := hid he0
  have hlong := hid (zlong_any (cb := cb) (c := c) (B := B) p r (h.below hB0) hn hp hnb)
  have hz := hid hz0
  have hv := hid hv0
  clear h hB0 hn hp hnb hz0 hv0 he0
  go_enter Tryd.func5, Tryd.ntmps5
  go_upto_region 1 with fail
  generalize hW1 : w.alloc (.cells #[.slice B nb cb, .int .i64 p, .int .i64 r, .slice A us.length c] 25) = w1 at *
  have hsz1 : Hid (w1.heap.size = w.heap.size + 1) := hid (by rw [← hW1]; simp)
  clear hW1
  have x0 := kb.out.cell 0
  have x1 := kb.out.cell 1
  have x2 := kb.out.cell 2
  have x3 := kb.out.cell 3
  simp only [List.getElem?_toArray, List.getElem?_cons_zero, List.getElem?_cons_succ] at x0 x1 x2 x3
  go_wp2_with fail
  refine hlong.out.mono ?_
  rintro e w2 ⟨rfl, hb2⟩
  have kb2 := hid (kb.out.below_all hb2)
  have hB2 := hid (hB.out.trans (hb2.mono (by have := hsz1.out; omega)))
  clear hb2 hlong hB kb x0 x1 x2 x3
  cases hl : longZ us nb with
  | true =>
    clear hl
    go_wp2_with fail
    refine (live_any _ (hE.out.below hB2.out)).mono ?_
    rintro e wv ⟨rfl, hbv⟩
    have hfb := hid ((hB2.out).trans (hbv.mono (hB2.out).size))
    clear hbv
    go_wp2_with fail
    go_ret
    exact ⟨rfl, hfb.out⟩
  | false =>
  obtain ⟨hn0, hp0⟩ := zlong_no hl
  have hn := hid hn0
  have hp := hid hp0
  clear hl hn0 hp0
  have x0 := kb2.out.cell 0
  have x1 := kb2.out.cell 1
  have x2 := kb2.out.cell 2
  have x3 := kb2.out.cell 3
  simp only [List.getElem?_toArray, List.getElem?_cons_zero, List.getElem?_cons_succ] at x0 x1 x2 x3
  cases hg : goodPR p r with
  | false =>
    have hbd := fun W => hid (znew_bad p r W hg)
    have hbe := fun W => hid (new_bad p r W hg)
    clear hg
    go_wp2_with fail
    refine (hbd _).out.mono ?_
    rintro e wq ⟨rfl, hwq⟩
    obtain rfl := hwq.symm
    go_wp2_with fail
    refine (hbe _).out.mono ?_
    rintro e wq ⟨rfl, hwq⟩
    obtain rfl := hwq.symm
    clear hbd hbe
    go_wp2_with fail
    refine (num_any _ _).mono ?_
    rintro e wq ⟨rfl, hwq⟩
    obtain rfl := hwq.symm
    go_wp2_with fail
    refine (num_any _ _).mono ?_
    rintro e wq ⟨rfl, hwq⟩
    obtain rfl := hwq.symm
    go_wp2_with fail
    refine (num_any _ _).mono ?_
    rintro e wq ⟨rfl, hwq⟩
    obtain rfl := hwq.symm
    go_wp2_with fail
    refine (live_any _ (hE.out.below hB2.out)).mono ?_
    rintro e wv ⟨rfl, hbv⟩
    have hfb := hid ((hB2.out).trans (hbv.mono (hB2.out).size))
    clear hbv
    go_wp2_with fail
    go_ret
    exact ⟨rfl, hfb.out⟩
  | true =>
  obtain ⟨p, r, rfl, rfl, hp1, hr1⟩ := good_pr hg
  have hnw := fun W => hid (znew_ok p r W hp1 hr1)
  have hnx := fun W => hid (new_ok p r W hp1 hr1)
  clear hg hp1 hr1
  go_wp2_with fail
  refine (hnw _).out.mono ?_
  rintro e w3 ⟨T1, g1, rfl, ha1, hT1, hb3⟩
  have kb3 := hid (kb2.out.below_all hb3)
  have ha1 := hid ha1
  have hT1 := hid hT1
  have hb3 := hid hb3
  clear x0 x1 x2 x3
  have x0 := kb3.out.cell 0
  have x1 := kb3.out.cell 1
  have x2 := kb3.out.cell 2
  have x3 := kb3.out.cell 3
  simp only [List.getElem?_toArray, List.getElem?_cons_zero, List.getElem?_cons_succ] at x0 x1 x2 x3
  go_wp2_with fail
  refine (hnx _).out.mono ?_
  rintro e w4 ⟨T2, g2, rfl, ha2, hT2, hb4⟩
  have R4 : Hid (FRel w2 w4 g1 g2 (zg0 p r) (zg0 p r).s T1 T2) := hid ⟨ha1.out.below hb4, ha2, ⟨hT1.out, fun q hq => Nat.le_trans hb3.out.size (hT2 q hq)⟩, fun q hq e => by have := ha1.out.lt q hq; have := hT2 q e; omega, hb3.out.trans (hb4.mono hb3.out.size), rngz_new p r⟩
  clear ha1 hT1 hb3 ha2 hT2 hb4 x0 x1 x2 x3 kb3 hnw hnx
  go_wp2_with fail
  refine (num_any _ _).mono ?_
  rintro e wq ⟨rfl, hwq⟩
  obtain rfl := hwq.symm
  go_wp2_with fail
  refine (num_any _ _).mono ?_
  rintro e wq ⟨rfl, hwq⟩
  obtain rfl := hwq.symm
  go_wp2_with fail
  go_loopw [7, 8, 9, 10, 11, 12] (fun v7 v8 v9 v10 v11 v12 wr => ∃ (k : Nat) (T Ss : Nat → Prop) (z : Zg) (keys : List ByteArray) (was : List Vl) (tx : ByteArray) (mk : Int) (A9 : Option Addr) (c9 : Nat) (A10 : Option Addr) (c10 : Nat), v7 = .bool z.under ∧ v8 = .string tx ∧ v9 = .slice A9 keys.length c9 ∧ v10 = .slice A10 was.length c10 ∧ v11 = .int .i64 mk ∧ v12 = .int .i64 k ∧ k ≤ us.length ∧ FRel w2 wr g1 g2 z z.s T Ss ∧ WRows wr T Ss z keys was tx mk A9 A10) (fun _ _ _ _ _ v _ => us.length - (intOf v).toNat)
  case atStart => exact ⟨0, T1, T2, zg0 p r, [], [], ⟨#[]⟩, 0, none, 0, none, 0, rfl, rfl, rfl, rfl, rfl, rfl, Nat.zero_le _, R4.out, wrows0 R4.out rfl⟩
  case round =>
    clear R4
    obtain ⟨k, T, Ss, z, keys, was, tx, mk, A9, c9, A10, c10, rfl, rfl, rfl, rfl, rfl, rfl, hkl, R0, Q0⟩ := hrel
    have R := hid R0
    have Q := hid Q0
    have kw := hid (kb2.out.below_all R0.bel)
    have x3 : wr.cell? ⟨w.heap.size, 3, none⟩ = some (.slice A us.length c) := kw.out.cell 3
    clear R0 Q0
    by_cases hlt : k < us.length
    · have i1 : (k : Int) < (us.length : Int) := by omega
      have i2 : IntKind.i64.wrap ((k : Int) + 1) = (k : Int) + 1 := by rw [IntKind.wrap_i64]; have := hn.out; omega
      have hB3 := hid (hB2.out.trans (R.out.bel.mono hB2.out.size))
      obtain ⟨b, o, rfl, _, hbl, hok, y0, y1, y2, y3, y4⟩ := (hs.out.below hB3.out).at_ hlt
      have hpk := hid (hp.out us[k] (List.getElem_mem hlt))
      have hzk := hid (hz.out us[k] (List.getElem_mem hlt))
      have hvk := hid (hv.out us[k] (List.getElem_mem hlt))
      have hyy : Hid (∀ w', Below wr.heap.size wr w' → w'.cell? ⟨w.heap.size, 3, none⟩ = some (.slice (some ⟨b, o, none⟩) us.length c) ∧ w'.cell? ⟨b, o + k * 5, none⟩ = some (.int .i64 us[k].kind) ∧ w'.cell? ⟨b, o + k * 5 + 1, none⟩ = some (.slice us[k].A1 us[k].ks.length us[k].c1) ∧ w'.cell? ⟨b, o + k * 5 + 2, none⟩ = some (.slice us[k].A2 us[k].ws.length us[k].c2) ∧ w'.cell? ⟨b, o + k * 5 + 3, none⟩ = some (.int .i64 us[k].mark) ∧ w'.cell? ⟨b, o + k * 5 + 4, none⟩ = some (.int .i64 us[k].n) ∧ us[k].ok (fun b => b < w.heap.size) w') := hid fun w' hb => by
        obtain ⟨b', o', e', _, _, hok', y0', y1', y2', y3', y4'⟩ := (hs.out.below (hB3.out.trans (hb.mono hB3.out.size))).at_ hlt
        cases e'
        exact ⟨(kw.out.below_all hb).cell 3, y0', y1', y2', y3', y4', hok'⟩
      clear y0 y1 y2 y3 y4 hok x3
      have x3 : wr.cell? ⟨w.heap.size, 3, none⟩ = some (.slice (some ⟨b, o, none⟩) us.length c) := (hyy.out _ (Below.refl _ _)).1
      have hlt9 := hid hlt
      generalize us[k] = a at *
      go_upto_region 15 with fail
      go_cut [13, 14] (fun u v wx => ∃ (m10 m11 : Nat) (B1 : Option Addr) (d1 : Nat) (B2 : Option Addr) (d2 : Nat) (B3 : Option Addr) (d3 : Nat) (B4 : Option Addr) (d4 : Nat), u = .pointer (some ⟨m10, 0, none⟩) ∧ v = .pointer (some ⟨m11, 0, none⟩) ∧ Blk wx m10 36 #[.int .i64 a.kind, .slice B1 a.ks.length d1, .slice B2 a.ws.length d2, .int .i64 a.mark, .int .i64 a.n] ∧ Blk wx m11 36 #[.int .i64 a.kind, .slice B3 a.ks.length d3, .slice B4 a.ws.length d4, .int .i64 a.mark, .int .i64 a.n] ∧ OwnZ wr.heap.size wx a B1 d1 B2 d2 ∧ OwnZ wr.heap.size wx a B3 d3 B4 d4 ∧ Below wr.heap.size wr wx ∧ wr.heap.size ≤ m10 ∧ wr.heap.size ≤ m11)
      case first =>
        as_aux_lemma =>
        try clear R
        try clear hzk
        try clear hvk
        try clear hs
        try clear hks
        try clear hE
        try clear hz
        try clear hv
        try clear hkn
        try clear hn
        try clear hp
        try clear kw
        try clear hB3
        try clear hB2
        try clear kb2
        try clear hkl
        try clear i2
        try clear t1
        try clear t1n
        try clear x3
        refine wp_region_held_drew (S := fun w'' => Below wr.heap.size wr w'') (by kernel_rfl) ?_ (fun hHeld => ?_)
        · exact (Below.refl _ _).drew
        have hb0 : Hid (Below wr.heap.size wr wr.drew) := hid (Below.refl _ _).drew
        have hsz0 : Hid (wr.drew.heap.size = wr.heap.size) := hid rfl
        generalize World.drew wr = wd at *
        refine wpAnyH_take (i := 0) (v := ?v1) rfl (by kernel_rfl) (by kernel_rfl) (by kernel_rfl) (fun _ _ _ h => h) (Or.inl ⟨by rfl, ?hy1⟩) (by assumption) ?rest1
        case hy1 => intro w' hSw; obtain ⟨x3, y0, y1, y2, y3, y4, _⟩ := hyy.out w' hSw; (try dsimp only at hSw); go_simp; try with_reducible rfl
        (try simp only [Act.put, List.setIfInBounds_toArray, List.set_cons_zero, List.set_cons_succ, List.getElem_toArray, List.getElem_cons_zero, List.getElem_cons_succ])
        refine wpAnyH_take (i := 1) (v := ?v2) rfl (by kernel_rfl) (by kernel_rfl) (by kernel_rfl) (fun _ _ _ h => h) (Or.inl ⟨by rfl, ?hy2⟩) (by assumption) ?rest2
        case hy2 => intro w' hSw; obtain ⟨x3, y0, y1, y2, y3, y4, _⟩ := hyy.out w' hSw; (try dsimp only at hSw); go_simp; try with_reducible rfl
        (try simp only [Act.put, List.setIfInBounds_toArray, List.set_cons_zero, List.set_cons_succ, List.getElem_toArray, List.getElem_cons_zero, List.getElem_cons_succ])
        refine wpAnyH_take (i := 2) (v := ?v3) rfl (by kernel_rfl) (by kernel_rfl) (by kernel_rfl) (fun _ _ _ h => h) (Or.inl ⟨by rfl, ?hy3⟩) (by assumption) ?rest3
        case hy3 => intro w' hSw; obtain ⟨x3, y0, y1, y2, y3, y4, _⟩ := hyy.out w' hSw; (try dsimp only at hSw); go_simp; try with_reducible rfl
        (try simp only [Act.put, List.setIfInBounds_toArray, List.set_cons_zero, List.set_cons_succ, List.getElem_toArray, List.getElem_cons_zero, List.getElem_cons_succ])
        refine wpAnyH_take (i := 3) (v := ?v4) rfl (by kernel_rfl) (by kernel_rfl) (by kernel_rfl) (fun _ _ _ h => h) (Or.inl ⟨by rfl, ?hy4⟩) (by assumption) ?rest4
        case hy4 => intro w' hSw; obtain ⟨x3, y0, y1, y2, y3, y4, _⟩ := hyy.out w' hSw; (try dsimp only at hSw); go_simp; try with_reducible rfl
        (try simp only [Act.put, List.setIfInBounds_toArray, List.set_cons_zero, List.set_cons_succ, List.getElem_toArray, List.getElem_cons_zero, List.getElem_cons_succ])
        refine wpAnyH_take (i := 4) (v := ?v5) rfl (by kernel_rfl) (by kernel_rfl) (by kernel_rfl) (fun _ _ _ h => h) (Or.inl ⟨by rfl, ?hy5⟩) (by assumption) ?rest5
        case hy5 => intro w' hSw; obtain ⟨x3, y0, y1, y2, y3, y4, _⟩ := hyy.out w' hSw; (try dsimp only at hSw); go_simp; try with_reducible rfl
        (try simp only [Act.put, List.setIfInBounds_toArray, List.set_cons_zero, List.set_cons_succ, List.getElem_toArray, List.getElem_cons_zero, List.getElem_cons_succ])
        refine wpAnyH_take (i := 6) (v := ?v6) rfl (by kernel_rfl) (by kernel_rfl) (by kernel_rfl) (fun _ _ _ h => h) (Or.inl ⟨by rfl, ?hy6⟩) (by assumption) ?rest6
        case hy6 => intro w' hSw; obtain ⟨x3, y0, y1, y2, y3, y4, _⟩ := hyy.out w' hSw; (try dsimp only at hSw); go_simp; try with_reducible rfl
        (try simp only [Act.put, List.setIfInBounds_toArray, List.set_cons_zero, List.set_cons_succ, List.getElem_toArray, List.getElem_cons_zero, List.getElem_cons_succ])
        refine wpAnyH_take (i := 7) (v := ?v7) rfl (by kernel_rfl) (by kernel_rfl) (by kernel_rfl) (fun _ _ _ h => h) (Or.inl ⟨by rfl, ?hy7⟩) (by assumption) ?rest7
        case hy7 => intro w' hSw; obtain ⟨x3, y0, y1, y2, y3, y4, _⟩ := hyy.out w' hSw; (try dsimp only at hSw); go_simp; try with_reducible rfl
        (try simp only [Act.put, List.setIfInBounds_toArray, List.set_cons_zero, List.set_cons_succ, List.getElem_toArray, List.getElem_cons_zero, List.getElem_cons_succ])
        refine wpAnyH_take (i := 8) (v := ?v8) rfl (by kernel_rfl) (by kernel_rfl) (by kernel_rfl) (fun _ _ _ h => h) (Or.inl ⟨by rfl, ?hy8⟩) (by assumption) ?rest8
        case hy8 => intro w' hSw; obtain ⟨x3, y0, y1, y2, y3, y4, _⟩ := hyy.out w' hSw; (try dsimp only at hSw); go_simp; try with_reducible rfl
        (try simp only [Act.put, List.setIfInBounds_toArray, List.set_cons_zero, List.set_cons_succ, List.getElem_toArray, List.getElem_cons_zero, List.getElem_cons_succ])
        refine wpAnyH_take (i := 9) (v := ?v9) rfl (by kernel_rfl) (by kernel_rfl) (by kernel_rfl) (fun _ _ _ h => h) (Or.inl ⟨by rfl, ?hy9⟩) (by assumption) ?rest9
        case hy9 => intro w' hSw; obtain ⟨x3, y0, y1, y2, y3, y4, _⟩ := hyy.out w' hSw; (try dsimp only at hSw); go_simp; try with_reducible rfl
        (try simp only [Act.put, List.setIfInBounds_toArray, List.set_cons_zero, List.set_cons_succ, List.getElem_toArray, List.getElem_cons_zero, List.getElem_cons_succ])
        refine wpAnyH_take (i := 10) (v := ?v10) rfl (by kernel_rfl) (by kernel_rfl) (by kernel_rfl) (fun _ _ _ h => h) (Or.inl ⟨by rfl, ?hy10⟩) (by assumption) ?rest10
        case hy10 => intro w' hSw; obtain ⟨x3, y0, y1, y2, y3, y4, _⟩ := hyy.out w' hSw; (try dsimp only at hSw); go_simp; try with_reducible rfl
        (try simp only [Act.put, List.setIfInBounds_toArray, List.set_cons_zero, List.set_cons_succ, List.getElem_toArray, List.getElem_cons_zero, List.getElem_cons_succ])
        refine wpAnyH_ready (rs := [5, 12, 13]) (by kernel_rfl) (by simp) ?_
        refine AllReadyH.cons rfl (fun K hK => ?_) ?_
        · go_simp
          refine (zown_any a (hyy.out _ hb0.out).2.2.2.2.2.2 (by have := hpk.out.1; omega) (by have := hpk.out.2; omega)).mono ?_
          rintro e wt1 ⟨B1, d1, B2, d2, rfl, ho9, hb9⟩
          have oA : Hid (OwnQ (fun q => wr.heap.size ≤ q) wt1 a B1 B2) := hid ((OwnQ.mk ho9.ks ho9.ws).more fun q hq _ => by have := hb0.out.size; omega)
          have hb1 := hid (hb0.out.trans (hb9.mono hb0.out.size))
          clear ho9 hb9
          refine hK.out _ _ ?_ (fun hHeld => ?_)
          · exact hb1.out
          clear hK K
          (try simp only [Act.put, List.setIfInBounds_toArray, List.set_cons_zero, List.set_cons_succ, List.getElem_toArray, List.getElem_cons_zero, List.getElem_cons_succ])
          refine wpAnyH_ready (rs := [11, 12, 13]) (by kernel_rfl) (by simp) ?_
          refine AllReadyH.cons rfl (fun K hK => ?_) ?_
          · go_simp
            refine (zown_any a (hyy.out _ hb1.out).2.2.2.2.2.2 (by have := hpk.out.1; omega) (by have := hpk.out.2; omega)).mono ?_
            rintro e wt2 ⟨B3, d3, B4, d4, rfl, ho9, hb9⟩
            have oB : Hid (OwnQ (fun q => wr.heap.size ≤ q) wt2 a B3 B4) := hid ((OwnQ.mk ho9.ks ho9.ws).more fun q hq _ => by have := hb1.out.size; omega)
            have hb2 := hid (hb1.out.trans (hb9.mono hb1.out.size))
            have oA := hid (oA.out.below hb9)
            clear ho9 hb9
            refine hK.out _ _ ?_ (fun hHeld => ?_)
            · exact hb2.out
            clear hK K
            (try simp only [Act.put, List.setIfInBounds_toArray, List.set_cons_zero, List.set_cons_succ, List.getElem_toArray, List.getElem_cons_zero, List.getElem_cons_succ])
            refine wpAnyH_ready (rs := [12, 13]) (by kernel_rfl) (by simp) ?_
            refine AllReadyH.cons rfl (fun K hK => ?_) ?_
            · go_simp
              have hb9 : Below wt2.heap.size wt2 (wt2.alloc (.cells #[.int .i64 0, .slice none 0 0, .slice none 0 0, .int .i64 0, .int .i64 0] 36)) := (Below.refl _ _).alloc (Nat.le_refl _) _
              have kA := hid (Blk.new wt2 36 #[.int .i64 0, .slice none 0 0, .slice none 0 0, .int .i64 0, .int .i64 0])
              have lkA : Hid (wr.heap.size ≤ wt2.heap.size) := hid hb2.out.size
              have hb3 := hid (hb2.out.trans (hb9.mono hb2.out.size))
              have oA : Hid (OwnQ (fun q => wr.heap.size ≤ q ∧ q ≠ wt2.heap.size) _ a _ _) := hid (((oA.out).more fun q hq hl => by omega).below hb9)
              have oB : Hid (OwnQ (fun q => wr.heap.size ≤ q ∧ q ≠ wt2.heap.size) _ a _ _) := hid (((oB.out).more fun q hq hl => by omega).below hb9)
              clear hb9
              generalize wt2.alloc (.cells #[.int .i64 0, .slice none 0 0, .slice none 0 0, .int .i64 0, .int .i64 0] 36) = wt3 at *
              generalize wt2.heap.size = m10 at *
              refine hK.out _ _ ?_ (fun hHeld => ?_)
              · exact hb3.out
              clear hK K
              (try simp only [Act.put, List.setIfInBounds_toArray, List.set_cons_zero, List.set_cons_succ, List.getElem_toArray, List.getElem_cons_zero, List.getElem_cons_succ])
              refine wpAnyH_ready (rs := [13]) (by kernel_rfl) (by simp) ?_
              refine AllReadyH.cons rfl (fun K hK => ?_) ?_
              · go_simp
                have hb9 : Below wt3.heap.size wt3 (wt3.alloc (.cells #[.int .i64 0, .slice none 0 0, .slice none 0 0, .int .i64 0, .int .i64 0] 36)) := (Below.refl _ _).alloc (Nat.le_refl _) _
                have kB := hid (Blk.new wt3 36 #[.int .i64 0, .slice none 0 0, .slice none 0 0, .int .i64 0, .int .i64 0])
                have lkB : Hid (wr.heap.size ≤ wt3.heap.size) := hid hb3.out.size
                have hb4 := hid (hb3.out.trans (hb9.mono hb3.out.size))
                have hAB : Hid (m10 ≠ wt3.heap.size) := hid (by have := kA.out.lt; omega)
                have oA : Hid (OwnQ (fun q => wr.heap.size ≤ q ∧ q ≠ m10 ∧ q ≠ wt3.heap.size) _ a _ _) := hid (((oA.out).more fun q hq hl => by omega).below hb9)
                have oB : Hid (OwnQ (fun q => wr.heap.size ≤ q ∧ q ≠ m10 ∧ q ≠ wt3.heap.size) _ a _ _) := hid (((oB.out).more fun q hq hl => by omega).below hb9)
                have kA := hid (kA.out.below_all hb9)
                clear hb9
                generalize wt3.alloc (.cells #[.int .i64 0, .slice none 0 0, .slice none 0 0, .int .i64 0, .int .i64 0] 36) = wt4 at *
                generalize wt3.heap.size = m11 at *
                refine hK.out _ _ ?_ (fun hHeld => ?_)
                · exact hb4.out
                clear hK K
                (try simp only [Act.put, List.setIfInBounds_toArray, List.set_cons_zero, List.set_cons_succ, List.getElem_toArray, List.getElem_cons_zero, List.getElem_cons_succ])
                have z0 : wt4.cell? ⟨m10, 0, none⟩ = some (.int .i64 0) := kA.out.cell 0
                have z1 : wt4.cell? ⟨m10, 1, none⟩ = some (.slice none 0 0) := kA.out.cell 1
                have z2 : wt4.cell? ⟨m10, 2, none⟩ = some (.slice none 0 0) := kA.out.cell 2
                have z3 : wt4.cell? ⟨m10, 3, none⟩ = some (.int .i64 0) := kA.out.cell 3
                have z4 : wt4.cell? ⟨m10, 4, none⟩ = some (.int .i64 0) := kA.out.cell 4
                have fA := fun q => kA.out.frozen q
                have lA := kA.out.lt
                refine wpAnyH_ready (rs := [14]) (by kernel_rfl) (by simp) ?_
                refine AllReadyH.cons rfl (fun K hK => ?_) AllReadyH.nil
                go_simp
                obtain ⟨wt5, hW9, kN, hup⟩ := set_act' kA.out (.int .i64 a.kind) (.slice B1 a.ks.length d1) (.slice B2 a.ws.length d2) (.int .i64 a.mark) (.int .i64 a.n)
                rw [hW9]
                clear hW9
                have kB := hid (kB.out.upd hup fun e => (by have := hAB.out; omega))
                have kA := hid kN
                have oA := hid (oA.out.upd hup fun q hq e => by omega)
                have oB := hid (oB.out.upd hup fun q hq e => by omega)
                have hb5 := hid (hb4.out.trans (hup.below hb4.out.size fun q hq e => by have := lkA.out; have := lkB.out; omega))
                clear kN hup z0 z1 z2 z3 z4 fA lA
                refine hK.out _ _ ?_ (fun hHeld => ?_)
                · exact hb5.out
                clear hK K
                (try simp only [Act.put, List.setIfInBounds_toArray, List.set_cons_zero, List.set_cons_succ, List.getElem_toArray, List.getElem_cons_zero, List.getElem_cons_succ])
                have z0 : wt5.cell? ⟨m11, 0, none⟩ = some (.int .i64 0) := kB.out.cell 0
                have z1 : wt5.cell? ⟨m11, 1, none⟩ = some (.slice none 0 0) := kB.out.cell 1
                have z2 : wt5.cell? ⟨m11, 2, none⟩ = some (.slice none 0 0) := kB.out.cell 2
                have z3 : wt5.cell? ⟨m11, 3, none⟩ = some (.int .i64 0) := kB.out.cell 3
                have z4 : wt5.cell? ⟨m11, 4, none⟩ = some (.int .i64 0) := kB.out.cell 4
                have fA := fun q => kB.out.frozen q
                have lA := kB.out.lt
                refine wpAnyH_ready (rs := [15]) (by kernel_rfl) (by simp) ?_
                refine AllReadyH.cons rfl (fun K hK => ?_) AllReadyH.nil
                go_simp
                obtain ⟨wt6, hW9, kN, hup⟩ := set_act' kB.out (.int .i64 a.kind) (.slice B3 a.ks.length d3) (.slice B4 a.ws.length d4) (.int .i64 a.mark) (.int .i64 a.n)
                rw [hW9]
                clear hW9
                have kA := hid (kA.out.upd hup fun e => (by have := hAB.out; omega))
                have kB := hid kN
                have oA := hid (oA.out.upd hup fun q hq e => by omega)
                have oB := hid (oB.out.upd hup fun q hq e => by omega)
                have hb6 := hid (hb5.out.trans (hup.below hb5.out.size fun q hq e => by have := lkA.out; have := lkB.out; omega))
                clear kN hup z0 z1 z2 z3 z4 fA lA
                refine hK.out _ _ ?_ (fun hHeld => ?_)
                · exact hb6.out
                clear hK K
                (try simp only [Act.put, List.setIfInBounds_toArray, List.set_cons_zero, List.set_cons_succ, List.getElem_toArray, List.getElem_cons_zero, List.getElem_cons_succ])
                refine wpAnyH_done (by kernel_rfl) ?_ _
                go_wp2_with fail
                go_meet
                case rel => exact ⟨m10, m11, B1, d1, B2, d2, B3, d3, B4, d4, rfl, rfl, kA.out, kB.out, ⟨oA.out.ks.more fun q hq _ => hq.1, oA.out.ws.more fun q hq _ => hq.1⟩, ⟨oB.out.ks.more fun q hq _ => hq.1, oB.out.ws.more fun q hq _ => hq.1⟩, hb6.out, lkA.out, lkB.out⟩
              exact AllReadyH.nil
            refine AllReadyH.cons rfl (fun K hK => ?_) ?_
            · go_simp
              have hb9 : Below wt2.heap.size wt2 (wt2.alloc (.cells #[.int .i64 0, .slice none 0 0, .slice none 0 0, .int .i64 0, .int .i64 0] 36)) := (Below.refl _ _).alloc (Nat.le_refl _) _
              have kB := hid (Blk.new wt2 36 #[.int .i64 0, .slice none 0 0, .slice none 0 0, .int .i64 0, .int .i64 0])
              have lkB : Hid (wr.heap.size ≤ wt2.heap.size) := hid hb2.out.size
              have hb3 := hid (hb2.out.trans (hb9.mono hb2.out.size))
              have oA : Hid (OwnQ (fun q => wr.heap.size ≤ q ∧ q ≠ wt2.heap.size) _ a _ _) := hid (((oA.out).more fun q hq hl => by omega).below hb9)
              have oB : Hid (OwnQ (fun q => wr.heap.size ≤ q ∧ q ≠ wt2.heap.size) _ a _ _) := hid (((oB.out).more fun q hq hl => by omega).below hb9)
              clear hb9
              generalize wt2.alloc (.cells #[.int .i64 0, .slice none 0 0, .slice none 0 0, .int .i64 0, .int .i64 0] 36) = wt3 at *
              generalize wt2.heap.size = m11 at *
              refine hK.out _ _ ?_ (fun hHeld => ?_)
              · exact hb3.out
              clear hK K
              (try simp only [Act.put, List.setIfInBounds_toArray, List.set_cons_zero, List.set_cons_succ, List.getElem_toArray, List.getElem_cons_zero, List.getElem_cons_succ])
              refine wpAnyH_ready (rs := [12]) (by kernel_rfl) (by simp) ?_
              refine AllReadyH.cons rfl (fun K hK => ?_) ?_
              · go_simp
                have hb9 : Below wt3.heap.size wt3 (wt3.alloc (.cells #[.int .i64 0, .slice none 0 0, .slice none 0 0, .int .i64 0, .int .i64 0] 36)) := (Below.refl _ _).alloc (Nat.le_refl _) _
                have kA := hid (Blk.new wt3 36 #[.int .i64 0, .slice none 0 0, .slice none 0 0, .int .i64 0, .int .i64 0])
                have lkA : Hid (wr.heap.size ≤ wt3.heap.size) := hid hb3.out.size
                have hb4 := hid (hb3.out.trans (hb9.mono hb3.out.size))
                have hAB : Hid (m11 ≠ wt3.heap.size) := hid (by have := kB.out.lt; omega)
                have oA : Hid (OwnQ (fun q => wr.heap.size ≤ q ∧ q ≠ wt3.heap.size ∧ q ≠ m11) _ a _ _) := hid (((oA.out).more fun q hq hl => by omega).below hb9)
                have oB : Hid (OwnQ (fun q => wr.heap.size ≤ q ∧ q ≠ wt3.heap.size ∧ q ≠ m11) _ a _ _) := hid (((oB.out).more fun q hq hl => by omega).below hb9)
                have kB := hid (kB.out.below_all hb9)
                clear hb9
                generalize wt3.alloc (.cells #[.int .i64 0, .slice none 0 0, .slice none 0 0, .int .i64 0, .int .i64 0] 36) = wt4 at *
                generalize wt3.heap.size = m10 at *
                refine hK.out _ _ ?_ (fun hHeld => ?_)
                · exact hb4.out
                clear hK K
                (try simp only [Act.put, List.setIfInBounds_toArray, List.set_cons_zero, List.set_cons_succ, List.getElem_toArray, List.getElem_cons_zero, List.getElem_cons_succ])
                have z0 : wt4.cell? ⟨m10, 0, none⟩ = some (.int .i64 0) := kA.out.cell 0
                have z1 : wt4.cell? ⟨m10, 1, none⟩ = some (.slice none 0 0) := kA.out.cell 1
                have z2 : wt4.cell? ⟨m10, 2, none⟩ = some (.slice none 0 0) := kA.out.cell 2
                have z3 : wt4.cell? ⟨m10, 3, none⟩ = some (.int .i64 0) := kA.out.cell 3
                have z4 : wt4.cell? ⟨m10, 4, none⟩ = some (.int .i64 0) := kA.out.cell 4
                have fA := fun q => kA.out.frozen q
                have lA := kA.out.lt
                refine wpAnyH_ready (rs := [14]) (by kernel_rfl) (by simp) ?_
                refine AllReadyH.cons rfl (fun K hK => ?_) AllReadyH.nil
                go_simp
                obtain ⟨wt5, hW9, kN, hup⟩ := set_act' kA.out (.int .i64 a.kind) (.slice B1 a.ks.length d1) (.slice B2 a.ws.length d2) (.int .i64 a.mark) (.int .i64 a.n)
                rw [hW9]
                clear hW9
                have kB := hid (kB.out.upd hup fun e => (by have := hAB.out; omega))
                have kA := hid kN
                have oA := hid (oA.out.upd hup fun q hq e => by omega)
                have oB := hid (oB.out.upd hup fun q hq e => by omega)
                have hb5 := hid (hb4.out.trans (hup.below hb4.out.size fun q hq e => by have := lkA.out; have := lkB.out; omega))
                clear kN hup z0 z1 z2 z3 z4 fA lA
                refine hK.out _ _ ?_ (fun hHeld => ?_)
                · exact hb5.out
                clear hK K
                (try simp only [Act.put, List.setIfInBounds_toArray, List.set_cons_zero, List.set_cons_succ, List.getElem_toArray, List.getElem_cons_zero, List.getElem_cons_succ])
                have z0 : wt5.cell? ⟨m11, 0, none⟩ = some (.int .i64 0) := kB.out.cell 0
                have z1 : wt5.cell? ⟨m11, 1, none⟩ = some (.slice none 0 0) := kB.out.cell 1
                have z2 : wt5.cell? ⟨m11, 2, none⟩ = some (.slice none 0 0) := kB.out.cell 2
                have z3 : wt5.cell? ⟨m11, 3, none⟩ = some (.int .i64 0) := kB.out.cell 3
                have z4 : wt5.cell? ⟨m11, 4, none⟩ = some (.int .i64 0) := kB.out.cell 4
                have fA := fun q => kB.out.frozen q
                have lA := kB.out.lt
                refine wpAnyH_ready (rs := [15]) (by kernel_rfl) (by simp) ?_
                refine AllReadyH.cons rfl (fun K hK => ?_) AllReadyH.nil
                go_simp
                obtain ⟨wt6, hW9, kN, hup⟩ := set_act' kB.out (.int .i64 a.kind) (.slice B3 a.ks.length d3) (.slice B4 a.ws.length d4) (.int .i64 a.mark) (.int .i64 a.n)
                rw [hW9]
                clear hW9
                have kA := hid (kA.out.upd hup fun e => (by have := hAB.out; omega))
                have kB := hid kN
                have oA := hid (oA.out.upd hup fun q hq e => by omega)
                have oB := hid (oB.out.upd hup fun q hq e => by omega)
                have hb6 := hid (hb5.out.trans (hup.below hb5.out.size fun q hq e => by have := lkA.out; have := lkB.out; omega))
                clear kN hup z0 z1 z2 z3 z4 fA lA
                refine hK.out _ _ ?_ (fun hHeld => ?_)
                · exact hb6.out
                clear hK K
                (try simp only [Act.put, List.setIfInBounds_toArray, List.set_cons_zero, List.set_cons_succ, List.getElem_toArray, List.getElem_cons_zero, List.getElem_cons_succ])
                refine wpAnyH_done (by kernel_rfl) ?_ _
                go_wp2_with fail
                go_meet
                case rel => exact ⟨m10, m11, B1, d1, B2, d2, B3, d3, B4, d4, rfl, rfl, kA.out, kB.out, ⟨oA.out.ks.more fun q hq _ => hq.1, oA.out.ws.more fun q hq _ => hq.1⟩, ⟨oB.out.ks.more fun q hq _ => hq.1, oB.out.ws.more fun q hq _ => hq.1⟩, hb6.out, lkA.out, lkB.out⟩
              exact AllReadyH.nil
            exact AllReadyH.nil
          refine AllReadyH.cons rfl (fun K hK => ?_) ?_
          · go_simp
            have hb9 : Below wt1.heap.size wt1 (wt1.alloc (.cells #[.int .i64 0, .slice none 0 0, .slice none 0 0, .int .i64 0, .int .i64 0] 36)) := (Below.refl _ _).alloc (Nat.le_refl _) _
            have kA := hid (Blk.new wt1 36 #[.int .i64 0, .slice none 0 0, .slice none 0 0, .int .i64 0, .int .i64 0])
            have lkA : Hid (wr.heap.size ≤ wt1.heap.size) := hid hb1.out.size
            have hb2 := hid (hb1.out.trans (hb9.mono hb1.out.size))
            have oA : Hid (OwnQ (fun q => wr.heap.size ≤ q ∧ q ≠ wt1.heap.size) _ a _ _) := hid (((oA.out).more fun q hq hl => by omega).below hb9)
            clear hb9
            generalize wt1.alloc (.cells #[.int .i64 0, .slice none 0 0, .slice none 0 0, .int .i64 0, .int .i64 0] 36) = wt2 at *
            generalize wt1.heap.size = m10 at *
            refine hK.out _ _ ?_ (fun hHeld => ?_)
            · exact hb2.out
            clear hK K
            (try simp only [Act.put, List.setIfInBounds_toArray, List.set_cons_zero, List.set_cons_succ, List.getElem_toArray, List.getElem_cons_zero, List.getElem_cons_succ])
            refine wpAnyH_ready (rs := [11, 13]) (by kernel_rfl) (by simp) ?_
            refine AllReadyH.cons rfl (fun K hK => ?_) ?_
            · go_simp
              refine (zown_any a (hyy.out _ hb2.out).2.2.2.2.2.2 (by have := hpk.out.1; omega) (by have := hpk.out.2; omega)).mono ?_
              rintro e wt3 ⟨B3, d3, B4, d4, rfl, ho9, hb9⟩
              have oB : Hid (OwnQ (fun q => wr.heap.size ≤ q ∧ q ≠ m10) wt3 a B3 B4) := hid ((OwnQ.mk ho9.ks ho9.ws).more fun q hq _ => by have := hb2.out.size; have := kA.out.lt; omega)
              have hb3 := hid (hb2.out.trans (hb9.mono hb2.out.size))
              have oA := hid (oA.out.below hb9)
              have kA := hid (kA.out.below_all hb9)
              clear ho9 hb9
              refine hK.out _ _ ?_ (fun hHeld => ?_)
              · exact hb3.out
              clear hK K
              (try simp only [Act.put, List.setIfInBounds_toArray, List.set_cons_zero, List.set_cons_succ, List.getElem_toArray, List.getElem_cons_zero, List.getElem_cons_succ])
              refine wpAnyH_ready (rs := [13]) (by kernel_rfl) (by simp) ?_
              refine AllReadyH.cons rfl (fun K hK => ?_) ?_
              · go_simp
                have hb9 : Below wt3.heap.size wt3 (wt3.alloc (.cells #[.int .i64 0, .slice none 0 0, .slice none 0 0, .int .i64 0, .int .i64 0] 36)) := (Below.refl _ _).alloc (Nat.le_refl _) _
                have kB := hid (Blk.new wt3 36 #[.int .i64 0, .slice none 0 0, .slice none 0 0, .int .i64 0, .int .i64 0])
                have lkB : Hid (wr.heap.size ≤ wt3.heap.size) := hid hb3.out.size
                have hb4 := hid (hb3.out.trans (hb9.mono hb3.out.size))
                have hAB : Hid (m10 ≠ wt3.heap.size) := hid (by have := kA.out.lt; omega)
                have oA : Hid (OwnQ (fun q => wr.heap.size ≤ q ∧ q ≠ m10 ∧ q ≠ wt3.heap.size) _ a _ _) := hid (((oA.out).more fun q hq hl => by omega).below hb9)
                have oB : Hid (OwnQ (fun q => wr.heap.size ≤ q ∧ q ≠ m10 ∧ q ≠ wt3.heap.size) _ a _ _) := hid (((oB.out).more fun q hq hl => by omega).below hb9)
                have kA := hid (kA.out.below_all hb9)
                clear hb9
                generalize wt3.alloc (.cells #[.int .i64 0, .slice none 0 0, .slice none 0 0, .int .i64 0, .int .i64 0] 36) = wt4 at *
                generalize wt3.heap.size = m11 at *
                refine hK.out _ _ ?_ (fun hHeld => ?_)
                · exact hb4.out
                clear hK K
                (try simp only [Act.put, List.setIfInBounds_toArray, List.set_cons_zero, List.set_cons_succ, List.getElem_toArray, List.getElem_cons_zero, List.getElem_cons_succ])
                have z0 : wt4.cell? ⟨m10, 0, none⟩ = some (.int .i64 0) := kA.out.cell 0
                have z1 : wt4.cell? ⟨m10, 1, none⟩ = some (.slice none 0 0) := kA.out.cell 1
                have z2 : wt4.cell? ⟨m10, 2, none⟩ = some (.slice none 0 0) := kA.out.cell 2
                have z3 : wt4.cell? ⟨m10, 3, none⟩ = some (.int .i64 0) := kA.out.cell 3
                have z4 : wt4.cell? ⟨m10, 4, none⟩ = some (.int .i64 0) := kA.out.cell 4
                have fA := fun q => kA.out.frozen q
                have lA := kA.out.lt
                refine wpAnyH_ready (rs := [14]) (by kernel_rfl) (by simp) ?_
                refine AllReadyH.cons rfl (fun K hK => ?_) AllReadyH.nil
                go_simp
                obtain ⟨wt5, hW9, kN, hup⟩ := set_act' kA.out (.int .i64 a.kind) (.slice B1 a.ks.length d1) (.slice B2 a.ws.length d2) (.int .i64 a.mark) (.int .i64 a.n)
                rw [hW9]
                clear hW9
                have kB := hid (kB.out.upd hup fun e => (by have := hAB.out; omega))
                have kA := hid kN
                have oA := hid (oA.out.upd hup fun q hq e => by omega)
                have oB := hid (oB.out.upd hup fun q hq e => by omega)
                have hb5 := hid (hb4.out.trans (hup.below hb4.out.size fun q hq e => by have := lkA.out; have := lkB.out; omega))
                clear kN hup z0 z1 z2 z3 z4 fA lA
                refine hK.out _ _ ?_ (fun hHeld => ?_)
                · exact hb5.out
                clear hK K
                (try simp only [Act.put, List.setIfInBounds_toArray, List.set_cons_zero, List.set_cons_succ, List.getElem_toArray, List.getElem_cons_zero, List.getElem_cons_succ])
                have z0 : wt5.cell? ⟨m11, 0, none⟩ = some (.int .i64 0) := kB.out.cell 0
                have z1 : wt5.cell? ⟨m11, 1, none⟩ = some (.slice none 0 0) := kB.out.cell 1
                have z2 : wt5.cell? ⟨m11, 2, none⟩ = some (.slice none 0 0) := kB.out.cell 2
                have z3 : wt5.cell? ⟨m11, 3, none⟩ = some (.int .i64 0) := kB.out.cell 3
                have z4 : wt5.cell? ⟨m11, 4, none⟩ = some (.int .i64 0) := kB.out.cell 4
                have fA := fun q => kB.out.frozen q
                have lA := kB.out.lt
                refine wpAnyH_ready (rs := [15]) (by kernel_rfl) (by simp) ?_
                refine AllReadyH.cons rfl (fun K hK => ?_) AllReadyH.nil
                go_simp
                obtain ⟨wt6, hW9, kN, hup⟩ := set_act' kB.out (.int .i64 a.kind) (.slice B3 a.ks.length d3) (.slice B4 a.ws.length d4) (.int .i64 a.mark) (.int .i64 a.n)
                rw [hW9]
                clear hW9
                have kA := hid (kA.out.upd hup fun e => (by have := hAB.out; omega))
                have kB := hid kN
                have oA := hid (oA.out.upd hup fun q hq e => by omega)
                have oB := hid (oB.out.upd hup fun q hq e => by omega)
                have hb6 := hid (hb5.out.trans (hup.below hb5.out.size fun q hq e => by have := lkA.out; have := lkB.out; omega))
                clear kN hup z0 z1 z2 z3 z4 fA lA
                refine hK.out _ _ ?_ (fun hHeld => ?_)
                · exact hb6.out
                clear hK K
                (try simp only [Act.put, List.setIfInBounds_toArray, List.set_cons_zero, List.set_cons_succ, List.getElem_toArray, List.getElem_cons_zero, List.getElem_cons_succ])
                refine wpAnyH_done (by kernel_rfl) ?_ _
                go_wp2_with fail
                go_meet
                case rel => exact ⟨m10, m11, B1, d1, B2, d2, B3, d3, B4, d4, rfl, rfl, kA.out, kB.out, ⟨oA.out.ks.more fun q hq _ => hq.1, oA.out.ws.more fun q hq _ => hq.1⟩, ⟨oB.out.ks.more fun q hq _ => hq.1, oB.out.ws.more fun q hq _ => hq.1⟩, hb6.out, lkA.out, lkB.out⟩
              exact AllReadyH.nil
            refine AllReadyH.cons rfl (fun K hK => ?_) ?_
            · go_simp
              have hb9 : Below wt2.heap.size wt2 (wt2.alloc (.cells #[.int .i64 0, .slice none 0 0, .slice none 0 0, .int .i64 0, .int .i64 0] 36)) := (Below.refl _ _).alloc (Nat.le_refl _) _
              have kB := hid (Blk.new wt2 36 #[.int .i64 0, .slice none 0 0, .slice none 0 0, .int .i64 0, .int .i64 0])
              have lkB : Hid (wr.heap.size ≤ wt2.heap.size) := hid hb2.out.size
              have hb3 := hid (hb2.out.trans (hb9.mono hb2.out.size))
              have hAB : Hid (m10 ≠ wt2.heap.size) := hid (by have := kA.out.lt; omega)
              have oA : Hid (OwnQ (fun q => wr.heap.size ≤ q ∧ q ≠ m10 ∧ q ≠ wt2.heap.size) _ a _ _) := hid (((oA.out).more fun q hq hl => by omega).below hb9)
              have kA := hid (kA.out.below_all hb9)
              clear hb9
              generalize wt2.alloc (.cells #[.int .i64 0, .slice none 0 0, .slice none 0 0, .int .i64 0, .int .i64 0] 36) = wt3 at *
              generalize wt2.heap.size = m11 at *
              refine hK.out _ _ ?_ (fun hHeld => ?_)
              · exact hb3.out
              clear hK K
              (try simp only [Act.put, List.setIfInBounds_toArray, List.set_cons_zero, List.set_cons_succ, List.getElem_toArray, List.getElem_cons_zero, List.getElem_cons_succ])
              refine wpAnyH_ready (rs := [11]) (by kernel_rfl) (by simp) ?_
              refine AllReadyH.cons rfl (fun K hK => ?_) ?_
              · go_simp
                refine (zown_any a (hyy.out _ hb3.out).2.2.2.2.2.2 (by have := hpk.out.1; omega) (by have := hpk.out.2; omega)).mono ?_
                rintro e wt4 ⟨B3, d3, B4, d4, rfl, ho9, hb9⟩
                have oB : Hid (OwnQ (fun q => wr.heap.size ≤ q ∧ q ≠ m10 ∧ q ≠ m11) wt4 a B3 B4) := hid ((OwnQ.mk ho9.ks ho9.ws).more fun q hq _ => by have := hb3.out.size; have := kA.out.lt; have := kB.out.lt; omega)
                have hb4 := hid (hb3.out.trans (hb9.mono hb3.out.size))
                have oA := hid (oA.out.below hb9)
                have kA := hid (kA.out.below_all hb9)
                have kB := hid (kB.out.below_all hb9)
                clear ho9 hb9
                refine hK.out _ _ ?_ (fun hHeld => ?_)
                · exact hb4.out
                clear hK K
                (try simp only [Act.put, List.setIfInBounds_toArray, List.set_cons_zero, List.set_cons_succ, List.getElem_toArray, List.getElem_cons_zero, List.getElem_cons_succ])
                have z0 : wt4.cell? ⟨m10, 0, none⟩ = some (.int .i64 0) := kA.out.cell 0
                have z1 : wt4.cell? ⟨m10, 1, none⟩ = some (.slice none 0 0) := kA.out.cell 1
                have z2 : wt4.cell? ⟨m10, 2, none⟩ = some (.slice none 0 0) := kA.out.cell 2
                have z3 : wt4.cell? ⟨m10, 3, none⟩ = some (.int .i64 0) := kA.out.cell 3
                have z4 : wt4.cell? ⟨m10, 4, none⟩ = some (.int .i64 0) := kA.out.cell 4
                have fA := fun q => kA.out.frozen q
                have lA := kA.out.lt
                refine wpAnyH_ready (rs := [14]) (by kernel_rfl) (by simp) ?_
                refine AllReadyH.cons rfl (fun K hK => ?_) AllReadyH.nil
                go_simp
                obtain ⟨wt5, hW9, kN, hup⟩ := set_act' kA.out (.int .i64 a.kind) (.slice B1 a.ks.length d1) (.slice B2 a.ws.length d2) (.int .i64 a.mark) (.int .i64 a.n)
                rw [hW9]
                clear hW9
                have kB := hid (kB.out.upd hup fun e => (by have := hAB.out; omega))
                have kA := hid kN
                have oA := hid (oA.out.upd hup fun q hq e => by omega)
                have oB := hid (oB.out.upd hup fun q hq e => by omega)
                have hb5 := hid (hb4.out.trans (hup.below hb4.out.size fun q hq e => by have := lkA.out; have := lkB.out; omega))
                clear kN hup z0 z1 z2 z3 z4 fA lA
                refine hK.out _ _ ?_ (fun hHeld => ?_)
                · exact hb5.out
                clear hK K
                (try simp only [Act.put, List.setIfInBounds_toArray, List.set_cons_zero, List.set_cons_succ, List.getElem_toArray, List.getElem_cons_zero, List.getElem_cons_succ])
                have z0 : wt5.cell? ⟨m11, 0, none⟩ = some (.int .i64 0) := kB.out.cell 0
                have z1 : wt5.cell? ⟨m11, 1, none⟩ = some (.slice none 0 0) := kB.out.cell 1
                have z2 : wt5.cell? ⟨m11, 2, none⟩ = some (.slice none 0 0) := kB.out.cell 2
                have z3 : wt5.cell? ⟨m11, 3, none⟩ = some (.int .i64 0) := kB.out.cell 3
                have z4 : wt5.cell? ⟨m11, 4, none⟩ = some (.int .i64 0) := kB.out.cell 4
                have fA := fun q => kB.out.frozen q
                have lA := kB.out.lt
                refine wpAnyH_ready (rs := [15]) (by kernel_rfl) (by simp) ?_
                refine AllReadyH.cons rfl (fun K hK => ?_) AllReadyH.nil
                go_simp
                obtain ⟨wt6, hW9, kN, hup⟩ := set_act' kB.out (.int .i64 a.kind) (.slice B3 a.ks.length d3) (.slice B4 a.ws.length d4) (.int .i64 a.mark) (.int .i64 a.n)
                rw [hW9]
                clear hW9
                have kA := hid (kA.out.upd hup fun e => (by have := hAB.out; omega))
                have kB := hid kN
                have oA := hid (oA.out.upd hup fun q hq e => by omega)
                have oB := hid (oB.out.upd hup fun q hq e => by omega)
                have hb6 := hid (hb5.out.trans (hup.below hb5.out.size fun q hq e => by have := lkA.out; have := lkB.out; omega))
                clear kN hup z0 z1 z2 z3 z4 fA lA
                refine hK.out _ _ ?_ (fun hHeld => ?_)
                · exact hb6.out
                clear hK K
                (try simp only [Act.put, List.setIfInBounds_toArray, List.set_cons_zero, List.set_cons_succ, List.getElem_toArray, List.getElem_cons_zero, List.getElem_cons_succ])
                refine wpAnyH_done (by kernel_rfl) ?_ _
                go_wp2_with fail
                go_meet
                case rel => exact ⟨m10, m11, B1, d1, B2, d2, B3, d3, B4, d4, rfl, rfl, kA.out, kB.out, ⟨oA.out.ks.more fun q hq _ => hq.1, oA.out.ws.more fun q hq _ => hq.1⟩, ⟨oB.out.ks.more fun q hq _ => hq.1, oB.out.ws.more fun q hq _ => hq.1⟩, hb6.out, lkA.out, lkB.out⟩
              exact AllReadyH.nil
            exact AllReadyH.nil
          refine AllReadyH.cons rfl (fun K hK => ?_) ?_
          · go_simp
            have hb9 : Below wt1.heap.size wt1 (wt1.alloc (.cells #[.int .i64 0, .slice none 0 0, .slice none 0 0, .int .i64 0, .int .i64 0] 36)) := (Below.refl _ _).alloc (Nat.le_refl _) _
            have kB := hid (Blk.new wt1 36 #[.int .i64 0, .slice none 0 0, .slice none 0 0, .int .i64 0, .int .i64 0])
            have lkB : Hid (wr.heap.size ≤ wt1.heap.size) := hid hb1.out.size
            have hb2 := hid (hb1.out.trans (hb9.mono hb1.out.size))
            have oA : Hid (OwnQ (fun q => wr.heap.size ≤ q ∧ q ≠ wt1.heap.size) _ a _ _) := hid (((oA.out).more fun q hq hl => by omega).below hb9)
            clear hb9
            generalize wt1.alloc (.cells #[.int .i64 0, .slice none 0 0, .slice none 0 0, .int .i64 0, .int .i64 0] 36) = wt2 at *
            generalize wt1.heap.size = m11 at *
            refine hK.out _ _ ?_ (fun hHeld => ?_)
            · exact hb2.out
            clear hK K
            (try simp only [Act.put, List.setIfInBounds_toArray, List.set_cons_zero, List.set_cons_succ, List.getElem_toArray, List.getElem_cons_zero, List.getElem_cons_succ])
            refine wpAnyH_ready (rs := [11, 12]) (by kernel_rfl) (by simp) ?_
            refine AllReadyH.cons rfl (fun K hK => ?_) ?_
            · go_simp
              refine (zown_any a (hyy.out _ hb2.out).2.2.2.2.2.2 (by have := hpk.out.1; omega) (by have := hpk.out.2; omega)).mono ?_
              rintro e wt3 ⟨B3, d3, B4, d4, rfl, ho9, hb9⟩
              have oB : Hid (OwnQ (fun q => wr.heap.size ≤ q ∧ q ≠ m11) wt3 a B3 B4) := hid ((OwnQ.mk ho9.ks ho9.ws).more fun q hq _ => by have := hb2.out.size; have := kB.out.lt; omega)
              have hb3 := hid (hb2.out.trans (hb9.mono hb2.out.size))
              have oA := hid (oA.out.below hb9)
              have kB := hid (kB.out.below_all hb9)
              clear ho9 hb9
              refine hK.out _ _ ?_ (fun hHeld => ?_)
              · exact hb3.out
              clear hK K
              (try simp only [Act.put, List.setIfInBounds_toArray, List.set_cons_zero, List.set_cons_succ, List.getElem_toArray, List.getElem_cons_zero, List.getElem_cons_succ])
              refine wpAnyH_ready (rs := [12]) (by kernel_rfl) (by simp) ?_
              refine AllReadyH.cons rfl (fun K hK => ?_) ?_
              · go_simp
                have hb9 : Below wt3.heap.size wt3 (wt3.alloc (.cells #[.int .i64 0, .slice none 0 0, .slice none 0 0, .int .i64 0, .int .i64 0] 36)) := (Below.refl _ _).alloc (Nat.le_refl _) _
                have kA := hid (Blk.new wt3 36 #[.int .i64 0, .slice none 0 0, .slice none 0 0, .int .i64 0, .int .i64 0])
                have lkA : Hid (wr.heap.size ≤ wt3.heap.size) := hid hb3.out.size
                have hb4 := hid (hb3.out.trans (hb9.mono hb3.out.size))
                have hAB : Hid (m11 ≠ wt3.heap.size) := hid (by have := kB.out.lt; omega)
                have oA : Hid (OwnQ (fun q => wr.heap.size ≤ q ∧ q ≠ wt3.heap.size ∧ q ≠ m11) _ a _ _) := hid (((oA.out).more fun q hq hl => by omega).below hb9)
                have oB : Hid (OwnQ (fun q => wr.heap.size ≤ q ∧ q ≠ wt3.heap.size ∧ q ≠ m11) _ a _ _) := hid (((oB.out).more fun q hq hl => by omega).below hb9)
                have kB := hid (kB.out.below_all hb9)
                clear hb9
                generalize wt3.alloc (.cells #[.int .i64 0, .slice none 0 0, .slice none 0 0, .int .i64 0, .int .i64 0] 36) = wt4 at *
                generalize wt3.heap.size = m10 at *
                refine hK.out _ _ ?_ (fun hHeld => ?_)
                · exact hb4.out
                clear hK K
                (try simp only [Act.put, List.setIfInBounds_toArray, List.set_cons_zero, List.set_cons_succ, List.getElem_toArray, List.getElem_cons_zero, List.getElem_cons_succ])
                have z0 : wt4.cell? ⟨m10, 0, none⟩ = some (.int .i64 0) := kA.out.cell 0
                have z1 : wt4.cell? ⟨m10, 1, none⟩ = some (.slice none 0 0) := kA.out.cell 1
                have z2 : wt4.cell? ⟨m10, 2, none⟩ = some (.slice none 0 0) := kA.out.cell 2
                have z3 : wt4.cell? ⟨m10, 3, none⟩ = some (.int .i64 0) := kA.out.cell 3
                have z4 : wt4.cell? ⟨m10, 4, none⟩ = some (.int .i64 0) := kA.out.cell 4
                have fA := fun q => kA.out.frozen q
                have lA := kA.out.lt
                refine wpAnyH_ready (rs := [14]) (by kernel_rfl) (by simp) ?_
                refine AllReadyH.cons rfl (fun K hK => ?_) AllReadyH.nil
                go_simp
                obtain ⟨wt5, hW9, kN, hup⟩ := set_act' kA.out (.int .i64 a.kind) (.slice B1 a.ks.length d1) (.slice B2 a.ws.length d2) (.int .i64 a.mark) (.int .i64 a.n)
                rw [hW9]
                clear hW9
                have kB := hid (kB.out.upd hup fun e => (by have := hAB.out; omega))
                have kA := hid kN
                have oA := hid (oA.out.upd hup fun q hq e => by omega)
                have oB := hid (oB.out.upd hup fun q hq e => by omega)
                have hb5 := hid (hb4.out.trans (hup.below hb4.out.size fun q hq e => by have := lkA.out; have := lkB.out; omega))
                clear kN hup z0 z1 z2 z3 z4 fA lA
                refine hK.out _ _ ?_ (fun hHeld => ?_)
                · exact hb5.out
                clear hK K
                (try simp only [Act.put, List.setIfInBounds_toArray, List.set_cons_zero, List.set_cons_succ, List.getElem_toArray, List.getElem_cons_zero, List.getElem_cons_succ])
                have z0 : wt5.cell? ⟨m11, 0, none⟩ = some (.int .i64 0) := kB.out.cell 0
                have z1 : wt5.cell? ⟨m11, 1, none⟩ = some (.slice none 0 0) := kB.out.cell 1
                have z2 : wt5.cell? ⟨m11, 2, none⟩ = some (.slice none 0 0) := kB.out.cell 2
                have z3 : wt5.cell? ⟨m11, 3, none⟩ = some (.int .i64 0) := kB.out.cell 3
                have z4 : wt5.cell? ⟨m11, 4, none⟩ = some (.int .i64 0) := kB.out.cell 4
                have fA := fun q => kB.out.frozen q
                have lA := kB.out.lt
                refine wpAnyH_ready (rs := [15]) (by kernel_rfl) (by simp) ?_
                refine AllReadyH.cons rfl (fun K hK => ?_) AllReadyH.nil
                go_simp
                obtain ⟨wt6, hW9, kN, hup⟩ := set_act' kB.out (.int .i64 a.kind) (.slice B3 a.ks.length d3) (.slice B4 a.ws.length d4) (.int .i64 a.mark) (.int .i64 a.n)
                rw [hW9]
                clear hW9
                have kA := hid (kA.out.upd hup fun e => (by have := hAB.out; omega))
                have kB := hid kN
                have oA := hid (oA.out.upd hup fun q hq e => by omega)
                have oB := hid (oB.out.upd hup fun q hq e => by omega)
                have hb6 := hid (hb5.out.trans (hup.below hb5.out.size fun q hq e => by have := lkA.out; have := lkB.out; omega))
                clear kN hup z0 z1 z2 z3 z4 fA lA
                refine hK.out _ _ ?_ (fun hHeld => ?_)
                · exact hb6.out
                clear hK K
                (try simp only [Act.put, List.setIfInBounds_toArray, List.set_cons_zero, List.set_cons_succ, List.getElem_toArray, List.getElem_cons_zero, List.getElem_cons_succ])
                refine wpAnyH_done (by kernel_rfl) ?_ _
                go_wp2_with fail
                go_meet
                case rel => exact ⟨m10, m11, B1, d1, B2, d2, B3, d3, B4, d4, rfl, rfl, kA.out, kB.out, ⟨oA.out.ks.more fun q hq _ => hq.1, oA.out.ws.more fun q hq _ => hq.1⟩, ⟨oB.out.ks.more fun q hq _ => hq.1, oB.out.ws.more fun q hq _ => hq.1⟩, hb6.out, lkA.out, lkB.out⟩
              exact AllReadyH.nil
            refine AllReadyH.cons rfl (fun K hK => ?_) ?_
            · go_simp
              have hb9 : Below wt2.heap.size wt2 (wt2.alloc (.cells #[.int .i64 0, .slice none 0 0, .slice none 0 0, .int .i64 0, .int .i64 0] 36)) := (Below.refl _ _).alloc (Nat.le_refl _) _
              have kA := hid (Blk.new wt2 36 #[.int .i64 0, .slice none 0 0, .slice none 0 0, .int .i64 0, .int .i64 0])
              have lkA : Hid (wr.heap.size ≤ wt2.heap.size) := hid hb2.out.size
              have hb3 := hid (hb2.out.trans (hb9.mono hb2.out.size))
              have hAB : Hid (m11 ≠ wt2.heap.size) := hid (by have := kB.out.lt; omega)
              have oA : Hid (OwnQ (fun q => wr.heap.size ≤ q ∧ q ≠ wt2.heap.size ∧ q ≠ m11) _ a _ _) := hid (((oA.out).more fun q hq hl => by omega).below hb9)
              have kB := hid (kB.out.below_all hb9)
              clear hb9
              generalize wt2.alloc (.cells #[.int .i64 0, .slice none 0 0, .slice none 0 0, .int .i64 0, .int .i64 0] 36) = wt3 at *
              generalize wt2.heap.size = m10 at *
              refine hK.out _ _ ?_ (fun hHeld => ?_)
              · exact hb3.out
              clear hK K
              (try simp only [Act.put, List.setIfInBounds_toArray, List.set_cons_zero, List.set_cons_succ, List.getElem_toArray, List.getElem_cons_zero, List.getElem_cons_succ])
              refine wpAnyH_ready (rs := [11]) (by kernel_rfl) (by simp) ?_
              refine AllReadyH.cons rfl (fun K hK => ?_) ?_
              · go_simp
                refine (zown_any a (hyy.out _ hb3.out).2.2.2.2.2.2 (by have := hpk.out.1; omega) (by have := hpk.out.2; omega)).mono ?_
                rintro e wt4 ⟨B3, d3, B4, d4, rfl, ho9, hb9⟩
                have oB : Hid (OwnQ (fun q => wr.heap.size ≤ q ∧ q ≠ m10 ∧ q ≠ m11) wt4 a B3 B4) := hid ((OwnQ.mk ho9.ks ho9.ws).more fun q hq _ => by have := hb3.out.size; have := kA.out.lt; have := kB.out.lt; omega)
                have hb4 := hid (hb3.out.trans (hb9.mono hb3.out.size))
                have oA := hid (oA.out.below hb9)
                have kA := hid (kA.out.below_all hb9)
                have kB := hid (kB.out.below_all hb9)
                clear ho9 hb9
                refine hK.out _ _ ?_ (fun hHeld => ?_)
                · exact hb4.out
                clear hK K
                (try simp only [Act.put, List.setIfInBounds_toArray, List.set_cons_zero, List.set_cons_succ, List.getElem_toArray, List.getElem_cons_zero, List.getElem_cons_succ])
                have z0 : wt4.cell? ⟨m10, 0, none⟩ = some (.int .i64 0) := kA.out.cell 0
                have z1 : wt4.cell? ⟨m10, 1, none⟩ = some (.slice none 0 0) := kA.out.cell 1
                have z2 : wt4.cell? ⟨m10, 2, none⟩ = some (.slice none 0 0) := kA.out.cell 2
                have z3 : wt4.cell? ⟨m10, 3, none⟩ = some (.int .i64 0) := kA.out.cell 3
                have z4 : wt4.cell? ⟨m10, 4, none⟩ = some (.int .i64 0) := kA.out.cell 4
                have fA := fun q => kA.out.frozen q
                have lA := kA.out.lt
                refine wpAnyH_ready (rs := [14]) (by kernel_rfl) (by simp) ?_
                refine AllReadyH.cons rfl (fun K hK => ?_) AllReadyH.nil
                go_simp
                obtain ⟨wt5, hW9, kN, hup⟩ := set_act' kA.out (.int .i64 a.kind) (.slice B1 a.ks.length d1) (.slice B2 a.ws.length d2) (.int .i64 a.mark) (.int .i64 a.n)
                rw [hW9]
                clear hW9
                have kB := hid (kB.out.upd hup fun e => (by have := hAB.out; omega))
                have kA := hid kN
                have oA := hid (oA.out.upd hup fun q hq e => by omega)
                have oB := hid (oB.out.upd hup fun q hq e => by omega)
                have hb5 := hid (hb4.out.trans (hup.below hb4.out.size fun q hq e => by have := lkA.out; have := lkB.out; omega))
                clear kN hup z0 z1 z2 z3 z4 fA lA
                refine hK.out _ _ ?_ (fun hHeld => ?_)
                · exact hb5.out
                clear hK K
                (try simp only [Act.put, List.setIfInBounds_toArray, List.set_cons_zero, List.set_cons_succ, List.getElem_toArray, List.getElem_cons_zero, List.getElem_cons_succ])
                have z0 : wt5.cell? ⟨m11, 0, none⟩ = some (.int .i64 0) := kB.out.cell 0
                have z1 : wt5.cell? ⟨m11, 1, none⟩ = some (.slice none 0 0) := kB.out.cell 1
                have z2 : wt5.cell? ⟨m11, 2, none⟩ = some (.slice none 0 0) := kB.out.cell 2
                have z3 : wt5.cell? ⟨m11, 3, none⟩ = some (.int .i64 0) := kB.out.cell 3
                have z4 : wt5.cell? ⟨m11, 4, none⟩ = some (.int .i64 0) := kB.out.cell 4
                have fA := fun q => kB.out.frozen q
                have lA := kB.out.lt
                refine wpAnyH_ready (rs := [15]) (by kernel_rfl) (by simp) ?_
                refine AllReadyH.cons rfl (fun K hK => ?_) AllReadyH.nil
                go_simp
                obtain ⟨wt6, hW9, kN, hup⟩ := set_act' kB.out (.int .i64 a.kind) (.slice B3 a.ks.length d3) (.slice B4 a.ws.length d4) (.int .i64 a.mark) (.int .i64 a.n)
                rw [hW9]
                clear hW9
                have kA := hid (kA.out.upd hup fun e => (by have := hAB.out; omega))
                have kB := hid kN
                have oA := hid (oA.out.upd hup fun q hq e => by omega)
                have oB := hid (oB.out.upd hup fun q hq e => by omega)
                have hb6 := hid (hb5.out.trans (hup.below hb5.out.size fun q hq e => by have := lkA.out; have := lkB.out; omega))
                clear kN hup z0 z1 z2 z3 z4 fA lA
                refine hK.out _ _ ?_ (fun hHeld => ?_)
                · exact hb6.out
                clear hK K
                (try simp only [Act.put, List.setIfInBounds_toArray, List.set_cons_zero, List.set_cons_succ, List.getElem_toArray, List.getElem_cons_zero, List.getElem_cons_succ])
                refine wpAnyH_done (by kernel_rfl) ?_ _
                go_wp2_with fail
                go_meet
                case rel => exact ⟨m10, m11, B1, d1, B2, d2, B3, d3, B4, d4, rfl, rfl, kA.out, kB.out, ⟨oA.out.ks.more fun q hq _ => hq.1, oA.out.ws.more fun q hq _ => hq.1⟩, ⟨oB.out.ks.more fun q hq _ => hq.1, oB.out.ws.more fun q hq _ => hq.1⟩, hb6.out, lkA.out, lkB.out⟩
              exact AllReadyH.nil
            exact AllReadyH.nil
          exact AllReadyH.nil
        refine AllReadyH.cons rfl (fun K hK => ?_) ?_
        · go_simp
          have hb9 : Below wd.heap.size wd (wd.alloc (.cells #[.int .i64 0, .slice none 0 0, .slice none 0 0, .int .i64 0, .int .i64 0] 36)) := (Below.refl _ _).alloc (Nat.le_refl _) _
          have kA := hid (Blk.new wd 36 #[.int .i64 0, .slice none 0 0, .slice none 0 0, .int .i64 0, .int .i64 0])
          have lkA : Hid (wr.heap.size ≤ wd.heap.size) := hid hb0.out.size
          have hb1 := hid (hb0.out.trans (hb9.mono hb0.out.size))
          clear hb9
          generalize wd.alloc (.cells #[.int .i64 0, .slice none 0 0, .slice none 0 0, .int .i64 0, .int .i64 0] 36) = wt1 at *
          generalize wd.heap.size = m10 at *
          refine hK.out _ _ ?_ (fun hHeld => ?_)
          · exact hb1.out
          clear hK K
          (try simp only [Act.put, List.setIfInBounds_toArray, List.set_cons_zero, List.set_cons_succ, List.getElem_toArray, List.getElem_cons_zero, List.getElem_cons_succ])
          refine wpAnyH_ready (rs := [5, 13]) (by kernel_rfl) (by simp) ?_
          refine AllReadyH.cons rfl (fun K hK => ?_) ?_
          · go_simp
            refine (zown_any a (hyy.out _ hb1.out).2.2.2.2.2.2 (by have := hpk.out.1; omega) (by have := hpk.out.2; omega)).mono ?_
            rintro e wt2 ⟨B1, d1, B2, d2, rfl, ho9, hb9⟩
            have oA : Hid (OwnQ (fun q => wr.heap.size ≤ q ∧ q ≠ m10) wt2 a B1 B2) := hid ((OwnQ.mk ho9.ks ho9.ws).more fun q hq _ => by have := hb1.out.size; have := kA.out.lt; omega)
            have hb2 := hid (hb1.out.trans (hb9.mono hb1.out.size))
            have kA := hid (kA.out.below_all hb9)
            clear ho9 hb9
            refine hK.out _ _ ?_ (fun hHeld => ?_)
            · exact hb2.out
            clear hK K
            (try simp only [Act.put, List.setIfInBounds_toArray, List.set_cons_zero, List.set_cons_succ, List.getElem_toArray, List.getElem_cons_zero, List.getElem_cons_succ])
            refine wpAnyH_ready (rs := [11, 13]) (by kernel_rfl) (by simp) ?_
            refine AllReadyH.cons rfl (fun K hK => ?_) ?_
            · go_simp
              refine (zown_any a (hyy.out _ hb2.out).2.2.2.2.2.2 (by have := hpk.out.1; omega) (by have := hpk.out.2; omega)).mono ?_
              rintro e wt3 ⟨B3, d3, B4, d4, rfl, ho9, hb9⟩
              have oB : Hid (OwnQ (fun q => wr.heap.size ≤ q ∧ q ≠ m10) wt3 a B3 B4) := hid ((OwnQ.mk ho9.ks ho9.ws).more fun q hq _ => by have := hb2.out.size; have := kA.out.lt; omega)
              have hb3 := hid (hb2.out.trans (hb9.mono hb2.out.size))
              have oA := hid (oA.out.below hb9)
              have kA := hid (kA.out.below_all hb9)
              clear ho9 hb9
              refine hK.out _ _ ?_ (fun hHeld => ?_)
              · exact hb3.out
              clear hK K
              (try simp only [Act.put, List.setIfInBounds_toArray, List.set_cons_zero, List.set_cons_succ, List.getElem_toArray, List.getElem_cons_zero, List.getElem_cons_succ])
              refine wpAnyH_ready (rs := [13]) (by kernel_rfl) (by simp) ?_
              refine AllReadyH.cons rfl (fun K hK => ?_) ?_
              · go_simp
                have hb9 : Below wt3.heap.size wt3 (wt3.alloc (.cells #[.int .i64 0, .slice none 0 0, .slice none 0 0, .int .i64 0, .int .i64 0] 36)) := (Below.refl _ _).alloc (Nat.le_refl _) _
                have kB := hid (Blk.new wt3 36 #[.int .i64 0, .slice none 0 0, .slice none 0 0, .int .i64 0, .int .i64 0])
                have lkB : Hid (wr.heap.size ≤ wt3.heap.size) := hid hb3.out.size
                have hb4 := hid (hb3.out.trans (hb9.mono hb3.out.size))
                have hAB : Hid (m10 ≠ wt3.heap.size) := hid (by have := kA.out.lt; omega)
                have oA : Hid (OwnQ (fun q => wr.heap.size ≤ q ∧ q ≠ m10 ∧ q ≠ wt3.heap.size) _ a _ _) := hid (((oA.out).more fun q hq hl => by omega).below hb9)
                have oB : Hid (OwnQ (fun q => wr.heap.size ≤ q ∧ q ≠ m10 ∧ q ≠ wt3.heap.size) _ a _ _) := hid (((oB.out).more fun q hq hl => by omega).below hb9)
                have kA := hid (kA.out.below_all hb9)
                clear hb9
                generalize wt3.alloc (.cells #[.int .i64 0, .slice none 0 0, .slice none 0 0, .int .i64 0, .int .i64 0] 36) = wt4 at *
                generalize wt3.heap.size = m11 at *
                refine hK.out _ _ ?_ (fun hHeld => ?_)
                · exact hb4.out
                clear hK K
                (try simp only [Act.put, List.setIfInBounds_toArray, List.set_cons_zero, List.set_cons_succ, List.getElem_toArray, List.getElem_cons_zero, List.getElem_cons_succ])
                have z0 : wt4.cell? ⟨m10, 0, none⟩ = some (.int .i64 0) := kA.out.cell 0
                have z1 : wt4.cell? ⟨m10, 1, none⟩ = some (.slice none 0 0) := kA.out.cell 1
                have z2 : wt4.cell? ⟨m10, 2, none⟩ = some (.slice none 0 0) := kA.out.cell 2
                have z3 : wt4.cell? ⟨m10, 3, none⟩ = some (.int .i64 0) := kA.out.cell 3
                have z4 : wt4.cell? ⟨m10, 4, none⟩ = some (.int .i64 0) := kA.out.cell 4
                have fA := fun q => kA.out.frozen q
                have lA := kA.out.lt
                refine wpAnyH_ready (rs := [14]) (by kernel_rfl) (by simp) ?_
                refine AllReadyH.cons rfl (fun K hK => ?_) AllReadyH.nil
                go_simp
                obtain ⟨wt5, hW9, kN, hup⟩ := set_act' kA.out (.int .i64 a.kind) (.slice B1 a.ks.length d1) (.slice B2 a.ws.length d2) (.int .i64 a.mark) (.int .i64 a.n)
                rw [hW9]
                clear hW9
                have kB := hid (kB.out.upd hup fun e => (by have := hAB.out; omega))
                have kA := hid kN
                have oA := hid (oA.out.upd hup fun q hq e => by omega)
                have oB := hid (oB.out.upd hup fun q hq e => by omega)
                have hb5 := hid (hb4.out.trans (hup.below hb4.out.size fun q hq e => by have := lkA.out; have := lkB.out; omega))
                clear kN hup z0 z1 z2 z3 z4 fA lA
                refine hK.out _ _ ?_ (fun hHeld => ?_)
                · exact hb5.out
                clear hK K
                (try simp only [Act.put, List.setIfInBounds_toArray, List.set_cons_zero, List.set_cons_succ, List.getElem_toArray, List.getElem_cons_zero, List.getElem_cons_succ])
                have z0 : wt5.cell? ⟨m11, 0, none⟩ = some (.int .i64 0) := kB.out.cell 0
                have z1 : wt5.cell? ⟨m11, 1, none⟩ = some (.slice none 0 0) := kB.out.cell 1
                have z2 : wt5.cell? ⟨m11, 2, none⟩ = some (.slice none 0 0) := kB.out.cell 2
                have z3 : wt5.cell? ⟨m11, 3, none⟩ = some (.int .i64 0) := kB.out.cell 3
                have z4 : wt5.cell? ⟨m11, 4, none⟩ = some (.int .i64 0) := kB.out.cell 4
                have fA := fun q => kB.out.frozen q
                have lA := kB.out.lt
                refine wpAnyH_ready (rs := [15]) (by kernel_rfl) (by simp) ?_
                refine AllReadyH.cons rfl (fun K hK => ?_) AllReadyH.nil
                go_simp
                obtain ⟨wt6, hW9, kN, hup⟩ := set_act' kB.out (.int .i64 a.kind) (.slice B3 a.ks.length d3) (.slice B4 a.ws.length d4) (.int .i64 a.mark) (.int .i64 a.n)
                rw [hW9]
                clear hW9
                have kA := hid (kA.out.upd hup fun e => (by have := hAB.out; omega))
                have kB := hid kN
                have oA := hid (oA.out.upd hup fun q hq e => by omega)
                have oB := hid (oB.out.upd hup fun q hq e => by omega)
                have hb6 := hid (hb5.out.trans (hup.below hb5.out.size fun q hq e => by have := lkA.out; have := lkB.out; omega))
                clear kN hup z0 z1 z2 z3 z4 fA lA
                refine hK.out _ _ ?_ (fun hHeld => ?_)
                · exact hb6.out
                clear hK K
                (try simp only [Act.put, List.setIfInBounds_toArray, List.set_cons_zero, List.set_cons_succ, List.getElem_toArray, List.getElem_cons_zero, List.getElem_cons_succ])
                refine wpAnyH_done (by kernel_rfl) ?_ _
                go_wp2_with fail
                go_meet
                case rel => exact ⟨m10, m11, B1, d1, B2, d2, B3, d3, B4, d4, rfl, rfl, kA.out, kB.out, ⟨oA.out.ks.more fun q hq _ => hq.1, oA.out.ws.more fun q hq _ => hq.1⟩, ⟨oB.out.ks.more fun q hq _ => hq.1, oB.out.ws.more fun q hq _ => hq.1⟩, hb6.out, lkA.out, lkB.out⟩
              exact AllReadyH.nil
            refine AllReadyH.cons rfl (fun K hK => ?_) ?_
            · go_simp
              have hb9 : Below wt2.heap.size wt2 (wt2.alloc (.cells #[.int .i64 0, .slice none 0 0, .slice none 0 0, .int .i64 0, .int .i64 0] 36)) := (Below.refl _ _).alloc (Nat.le_refl _) _
              have kB := hid (Blk.new wt2 36 #[.int .i64 0, .slice none 0 0, .slice none 0 0, .int .i64 0, .int .i64 0])
              have lkB : Hid (wr.heap.size ≤ wt2.heap.size) := hid hb2.out.size
              have hb3 := hid (hb2.out.trans (hb9.mono hb2.out.size))
              have hAB : Hid (m10 ≠ wt2.heap.size) := hid (by have := kA.out.lt; omega)
              have oA : Hid (OwnQ (fun q => wr.heap.size ≤ q ∧ q ≠ m10 ∧ q ≠ wt2.heap.size) _ a _ _) := hid (((oA.out).more fun q hq hl => by omega).below hb9)
              have kA := hid (kA.out.below_all hb9)
              clear hb9
              generalize wt2.alloc (.cells #[.int .i64 0, .slice none 0 0, .slice none 0 0, .int .i64 0, .int .i64 0] 36) = wt3 at *
              generalize wt2.heap.size = m11 at *
              refine hK.out _ _ ?_ (fun hHeld => ?_)
              · exact hb3.out
              clear hK K
              (try simp only [Act.put, List.setIfInBounds_toArray, List.set_cons_zero, List.set_cons_succ, List.getElem_toArray, List.getElem_cons_zero, List.getElem_cons_succ])
              refine wpAnyH_ready (rs := [11]) (by kernel_rfl) (by simp) ?_
              refine AllReadyH.cons rfl (fun K hK => ?_) ?_
              · go_simp
                refine (zown_any a (hyy.out _ hb3.out).2.2.2.2.2.2 (by have := hpk.out.1; omega) (by have := hpk.out.2; omega)).mono ?_
                rintro e wt4 ⟨B3, d3, B4, d4, rfl, ho9, hb9⟩
                have oB : Hid (OwnQ (fun q => wr.heap.size ≤ q ∧ q ≠ m10 ∧ q ≠ m11) wt4 a B3 B4) := hid ((OwnQ.mk ho9.ks ho9.ws).more fun q hq _ => by have := hb3.out.size; have := kA.out.lt; have := kB.out.lt; omega)
                have hb4 := hid (hb3.out.trans (hb9.mono hb3.out.size))
                have oA := hid (oA.out.below hb9)
                have kA := hid (kA.out.below_all hb9)
                have kB := hid (kB.out.below_all hb9)
                clear ho9 hb9
                refine hK.out _ _ ?_ (fun hHeld => ?_)
                · exact hb4.out
                clear hK K
                (try simp only [Act.put, List.setIfInBounds_toArray, List.set_cons_zero, List.set_cons_succ, List.getElem_toArray, List.getElem_cons_zero, List.getElem_cons_succ])
                have z0 : wt4.cell? ⟨m10, 0, none⟩ = some (.int .i64 0) := kA.out.cell 0
                have z1 : wt4.cell? ⟨m10, 1, none⟩ = some (.slice none 0 0) := kA.out.cell 1
                have z2 : wt4.cell? ⟨m10, 2, none⟩ = some (.slice none 0 0) := kA.out.cell 2
                have z3 : wt4.cell? ⟨m10, 3, none⟩ = some (.int .i64 0) := kA.out.cell 3
                have z4 : wt4.cell? ⟨m10, 4, none⟩ = some (.int .i64 0) := kA.out.cell 4
                have fA := fun q => kA.out.frozen q
                have lA := kA.out.lt
                refine wpAnyH_ready (rs := [14]) (by kernel_rfl) (by simp) ?_
                refine AllReadyH.cons rfl (fun K hK => ?_) AllReadyH.nil
                go_simp
                obtain ⟨wt5, hW9, kN, hup⟩ := set_act' kA.out (.int .i64 a.kind) (.slice B1 a.ks.length d1) (.slice B2 a.ws.length d2) (.int .i64 a.mark) (.int .i64 a.n)
                rw [hW9]
                clear hW9
                have kB := hid (kB.out.upd hup fun e => (by have := hAB.out; omega))
                have kA := hid kN
                have oA := hid (oA.out.upd hup fun q hq e => by omega)
                have oB := hid (oB.out.upd hup fun q hq e => by omega)
                have hb5 := hid (hb4.out.trans (hup.below hb4.out.size fun q hq e => by have := lkA.out; have := lkB.out; omega))
                clear kN hup z0 z1 z2 z3 z4 fA lA
                refine hK.out _ _ ?_ (fun hHeld => ?_)
                · exact hb5.out
                clear hK K
                (try simp only [Act.put, List.setIfInBounds_toArray, List.set_cons_zero, List.set_cons_succ, List.getElem_toArray, List.getElem_cons_zero, List.getElem_cons_succ])
                have z0 : wt5.cell? ⟨m11, 0, none⟩ = some (.int .i64 0) := kB.out.cell 0
                have z1 : wt5.cell? ⟨m11, 1, none⟩ = some (.slice none 0 0) := kB.out.cell 1
                have z2 : wt5.cell? ⟨m11, 2, none⟩ = some (.slice none 0 0) := kB.out.cell 2
                have z3 : wt5.cell? ⟨m11, 3, none⟩ = some (.int .i64 0) := kB.out.cell 3
                have z4 : wt5.cell? ⟨m11, 4, none⟩ = some (.int .i64 0) := kB.out.cell 4
                have fA := fun q => kB.out.frozen q
                have lA := kB.out.lt
                refine wpAnyH_ready (rs := [15]) (by kernel_rfl) (by simp) ?_
                refine AllReadyH.cons rfl (fun K hK => ?_) AllReadyH.nil
                go_simp
                obtain ⟨wt6, hW9, kN, hup⟩ := set_act' kB.out (.int .i64 a.kind) (.slice B3 a.ks.length d3) (.slice B4 a.ws.length d4) (.int .i64 a.mark) (.int .i64 a.n)
                rw [hW9]
                clear hW9
                have kA := hid (kA.out.upd hup fun e => (by have := hAB.out; omega))
                have kB := hid kN
                have oA := hid (oA.out.upd hup fun q hq e => by omega)
                have oB := hid (oB.out.upd hup fun q hq e => by omega)
                have hb6 := hid (hb5.out.trans (hup.below hb5.out.size fun q hq e => by have := lkA.out; have := lkB.out; omega))
                clear kN hup z0 z1 z2 z3 z4 fA lA
                refine hK.out _ _ ?_ (fun hHeld => ?_)
                · exact hb6.out
                clear hK K
                (try simp only [Act.put, List.setIfInBounds_toArray, List.set_cons_zero, List.set_cons_succ, List.getElem_toArray, List.getElem_cons_zero, List.getElem_cons_succ])
                refine wpAnyH_done (by kernel_rfl) ?_ _
                go_wp2_with fail
                go_meet
                case rel => exact ⟨m10, m11, B1, d1, B2, d2, B3, d3, B4, d4, rfl, rfl, kA.out, kB.out, ⟨oA.out.ks.more fun q hq _ => hq.1, oA.out.ws.more fun q hq _ => hq.1⟩, ⟨oB.out.ks.more fun q hq _ => hq.1, oB.out.ws.more fun q hq _ => hq.1⟩, hb6.out, lkA.out, lkB.out⟩
              exact AllReadyH.nil
            exact AllReadyH.nil
          refine AllReadyH.cons rfl (fun K hK => ?_) ?_
          · go_simp
            have hb9 : Below wt1.heap.size wt1 (wt1.alloc (.cells #[.int .i64 0, .slice none 0 0, .slice none 0 0, .int .i64 0, .int .i64 0] 36)) := (Below.refl _ _).alloc (Nat.le_refl _) _
            have kB := hid (Blk.new wt1 36 #[.int .i64 0, .slice none 0 0, .slice none 0 0, .int .i64 0, .int .i64 0])
            have lkB : Hid (wr.heap.size ≤ wt1.heap.size) := hid hb1.out.size
            have hb2 := hid (hb1.out.trans (hb9.mono hb1.out.size))
            have hAB : Hid (m10 ≠ wt1.heap.size) := hid (by have := kA.out.lt; omega)
            have kA := hid (kA.out.below_all hb9)
            clear hb9
            generalize wt1.alloc (.cells #[.int .i64 0, .slice none 0 0, .slice none 0 0, .int .i64 0, .int .i64 0] 36) = wt2 at *
            generalize wt1.heap.size = m11 at *
            refine hK.out _ _ ?_ (fun hHeld => ?_)
            · exact hb2.out
            clear hK K
            (try simp only [Act.put, List.setIfInBounds_toArray, List.set_cons_zero, List.set_cons_succ, List.getElem_toArray, List.getElem_cons_zero, List.getElem_cons_succ])
            refine wpAnyH_ready (rs := [5]) (by kernel_rfl) (by simp) ?_
            refine AllReadyH.cons rfl (fun K hK => ?_) ?_
            · go_simp
              refine (zown_any a (hyy.out _ hb2.out).2.2.2.2.2.2 (by have := hpk.out.1; omega) (by have := hpk.out.2; omega)).mono ?_
              rintro e wt3 ⟨B1, d1, B2, d2, rfl, ho9, hb9⟩
              have oA : Hid (OwnQ (fun q => wr.heap.size ≤ q ∧ q ≠ m10 ∧ q ≠ m11) wt3 a B1 B2) := hid ((OwnQ.mk ho9.ks ho9.ws).more fun q hq _ => by have := hb2.out.size; have := kA.out.lt; have := kB.out.lt; omega)
              have hb3 := hid (hb2.out.trans (hb9.mono hb2.out.size))
              have kA := hid (kA.out.below_all hb9)
              have kB := hid (kB.out.below_all hb9)
              clear ho9 hb9
              refine hK.out _ _ ?_ (fun hHeld => ?_)
              · exact hb3.out
              clear hK K
              (try simp only [Act.put, List.setIfInBounds_toArray, List.set_cons_zero, List.set_cons_succ, List.getElem_toArray, List.getElem_cons_zero, List.getElem_cons_succ])
              refine wpAnyH_ready (rs := [11]) (by kernel_rfl) (by simp) ?_
              refine AllReadyH.cons rfl (fun K hK => ?_) ?_
              · go_simp
                refine (zown_any a (hyy.out _ hb3.out).2.2.2.2.2.2 (by have := hpk.out.1; omega) (by have := hpk.out.2; omega)).mono ?_
                rintro e wt4 ⟨B3, d3, B4, d4, rfl, ho9, hb9⟩
                have oB : Hid (OwnQ (fun q => wr.heap.size ≤ q ∧ q ≠ m10 ∧ q ≠ m11) wt4 a B3 B4) := hid ((OwnQ.mk ho9.ks ho9.ws).more fun q hq _ => by have := hb3.out.size; have := kA.out.lt; have := kB.out.lt; omega)
                have hb4 := hid (hb3.out.trans (hb9.mono hb3.out.size))
                have oA := hid (oA.out.below hb9)
                have kA := hid (kA.out.below_all hb9)
                have kB := hid (kB.out.below_all hb9)
                clear ho9 hb9
                refine hK.out _ _ ?_ (fun hHeld => ?_)
                · exact hb4.out
                clear hK K
                (try simp only [Act.put, List.setIfInBounds_toArray, List.set_cons_zero, List.set_cons_succ, List.getElem_toArray, List.getElem_cons_zero, List.getElem_cons_succ])
                have z0 : wt4.cell? ⟨m10, 0, none⟩ = some (.int .i64 0) := kA.out.cell 0
                have z1 : wt4.cell? ⟨m10, 1, none⟩ = some (.slice none 0 0) := kA.out.cell 1
                have z2 : wt4.cell? ⟨m10, 2, none⟩ = some (.slice none 0 0) := kA.out.cell 2
                have z3 : wt4.cell? ⟨m10, 3, none⟩ = some (.int .i64 0) := kA.out.cell 3
                have z4 : wt4.cell? ⟨m10, 4, none⟩ = some (.int .i64 0) := kA.out.cell 4
                have fA := fun q => kA.out.frozen q
                have lA := kA.out.lt
                refine wpAnyH_ready (rs := [14]) (by kernel_rfl) (by simp) ?_
                refine AllReadyH.cons rfl (fun K hK => ?_) AllReadyH.nil
                go_simp
                obtain ⟨wt5, hW9, kN, hup⟩ := set_act' kA.out (.int .i64 a.kind) (.slice B1 a.ks.length d1) (.slice B2 a.ws.length d2) (.int .i64 a.mark) (.int .i64 a.n)
                rw [hW9]
                clear hW9
                have kB := hid (kB.out.upd hup fun e => (by have := hAB.out; omega))
                have kA := hid kN
                have oA := hid (oA.out.upd hup fun q hq e => by omega)
                have oB := hid (oB.out.upd hup fun q hq e => by omega)
                have hb5 := hid (hb4.out.trans (hup.below hb4.out.size fun q hq e => by have := lkA.out; have := lkB.out; omega))
                clear kN hup z0 z1 z2 z3 z4 fA lA
                refine hK.out _ _ ?_ (fun hHeld => ?_)
                · exact hb5.out
                clear hK K
                (try simp only [Act.put, List.setIfInBounds_toArray, List.set_cons_zero, List.set_cons_succ, List.getElem_toArray, List.getElem_cons_zero, List.getElem_cons_succ])
                have z0 : wt5.cell? ⟨m11, 0, none⟩ = some (.int .i64 0) := kB.out.cell 0
                have z1 : wt5.cell? ⟨m11, 1, none⟩ = some (.slice none 0 0) := kB.out.cell 1
                have z2 : wt5.cell? ⟨m11, 2, none⟩ = some (.slice none 0 0) := kB.out.cell 2
                have z3 : wt5.cell? ⟨m11, 3, none⟩ = some (.int .i64 0) := kB.out.cell 3
                have z4 : wt5.cell? ⟨m11, 4, none⟩ = some (.int .i64 0) := kB.out.cell 4
                have fA := fun q => kB.out.frozen q
                have lA := kB.out.lt
                refine wpAnyH_ready (rs := [15]) (by kernel_rfl) (by simp) ?_
                refine AllReadyH.cons rfl (fun K hK => ?_) AllReadyH.nil
                go_simp
                obtain ⟨wt6, hW9, kN, hup⟩ := set_act' kB.out (.int .i64 a.kind) (.slice B3 a.ks.length d3) (.slice B4 a.ws.length d4) (.int .i64 a.mark) (.int .i64 a.n)
                rw [hW9]
                clear hW9
                have kA := hid (kA.out.upd hup fun e => (by have := hAB.out; omega))
                have kB := hid kN
                have oA := hid (oA.out.upd hup fun q hq e => by omega)
                have oB := hid (oB.out.upd hup fun q hq e => by omega)
                have hb6 := hid (hb5.out.trans (hup.below hb5.out.size fun q hq e => by have := lkA.out; have := lkB.out; omega))
                clear kN hup z0 z1 z2 z3 z4 fA lA
                refine hK.out _ _ ?_ (fun hHeld => ?_)
                · exact hb6.out
                clear hK K
                (try simp only [Act.put, List.setIfInBounds_toArray, List.set_cons_zero, List.set_cons_succ, List.getElem_toArray, List.getElem_cons_zero, List.getElem_cons_succ])
                refine wpAnyH_done (by kernel_rfl) ?_ _
                go_wp2_with fail
                go_meet
                case rel => exact ⟨m10, m11, B1, d1, B2, d2, B3, d3, B4, d4, rfl, rfl, kA.out, kB.out, ⟨oA.out.ks.more fun q hq _ => hq.1, oA.out.ws.more fun q hq _ => hq.1⟩, ⟨oB.out.ks.more fun q hq _ => hq.1, oB.out.ws.more fun q hq _ => hq.1⟩, hb6.out, lkA.out, lkB.out⟩
              exact AllReadyH.nil
            exact AllReadyH.nil
          exact AllReadyH.nil
        refine AllReadyH.cons rfl (fun K hK => ?_) ?_
        · go_simp
          have hb9 : Below wd.heap.size wd (wd.alloc (.cells #[.int .i64 0, .slice none 0 0, .slice none 0 0, .int .i64 0, .int .i64 0] 36)) := (Below.refl _ _).alloc (Nat.le_refl _) _
          have kB := hid (Blk.new wd 36 #[.int .i64 0, .slice none 0 0, .slice none 0 0, .int .i64 0, .int .i64 0])
          have lkB : Hid (wr.heap.size ≤ wd.heap.size) := hid hb0.out.size
          have hb1 := hid (hb0.out.trans (hb9.mono hb0.out.size))
          clear hb9
          generalize wd.alloc (.cells #[.int .i64 0, .slice none 0 0, .slice none 0 0, .int .i64 0, .int .i64 0] 36) = wt1 at *
          generalize wd.heap.size = m11 at *
          refine hK.out _ _ ?_ (fun hHeld => ?_)
          · exact hb1.out
          clear hK K
          (try simp only [Act.put, List.setIfInBounds_toArray, List.set_cons_zero, List.set_cons_succ, List.getElem_toArray, List.getElem_cons_zero, List.getElem_cons_succ])
          refine wpAnyH_ready (rs := [5, 12]) (by kernel_rfl) (by simp) ?_
          refine AllReadyH.cons rfl (fun K hK => ?_) ?_
          · go_simp
            refine (zown_any a (hyy.out _ hb1.out).2.2.2.2.2.2 (by have := hpk.out.1; omega) (by have := hpk.out.2; omega)).mono ?_
            rintro e wt2 ⟨B1, d1, B2, d2, rfl, ho9, hb9⟩
            have oA : Hid (OwnQ (fun q => wr.heap.size ≤ q ∧ q ≠ m11) wt2 a B1 B2) := hid ((OwnQ.mk ho9.ks ho9.ws).more fun q hq _ => by have := hb1.out.size; have := kB.out.lt; omega)
            have hb2 := hid (hb1.out.trans (hb9.mono hb1.out.size))
            have kB := hid (kB.out.below_all hb9)
            clear ho9 hb9
            refine hK.out _ _ ?_ (fun hHeld => ?_)
            · exact hb2.out
            clear hK K
            (try simp only [Act.put, List.setIfInBounds_toArray, List.set_cons_zero, List.set_cons_succ, List.getElem_toArray, List.getElem_cons_zero, List.getElem_cons_succ])
            refine wpAnyH_ready (rs := [11, 12]) (by kernel_rfl) (by simp) ?_
            refine AllReadyH.cons rfl (fun K hK => ?_) ?_
            · go_simp
              refine (zown_any a (hyy.out _ hb2.out).2.2.2.2.2.2 (by have := hpk.out.1; omega) (by have := hpk.out.2; omega)).mono ?_
              rintro e wt3 ⟨B3, d3, B4, d4, rfl, ho9, hb9⟩
              have oB : Hid (OwnQ (fun q => wr.heap.size ≤ q ∧ q ≠ m11) wt3 a B3 B4) := hid ((OwnQ.mk ho9.ks ho9.ws).more fun q hq _ => by have := hb2.out.size; have := kB.out.lt; omega)
              have hb3 := hid (hb2.out.trans (hb9.mono hb2.out.size))
              have oA := hid (oA.out.below hb9)
              have kB := hid (kB.out.below_all hb9)
              clear ho9 hb9
              refine hK.out _ _ ?_ (fun hHeld => ?_)
              · exact hb3.out
              clear hK K
              (try simp only [Act.put, List.setIfInBounds_toArray, List.set_cons_zero, List.set_cons_succ, List.getElem_toArray, List.getElem_cons_zero, List.getElem_cons_succ])
              refine wpAnyH_ready (rs := [12]) (by kernel_rfl) (by simp) ?_
              refine AllReadyH.cons rfl (fun K hK => ?_) ?_
              · go_simp
                have hb9 : Below wt3.heap.size wt3 (wt3.alloc (.cells #[.int .i64 0, .slice none 0 0, .slice none 0 0, .int .i64 0, .int .i64 0] 36)) := (Below.refl _ _).alloc (Nat.le_refl _) _
                have kA := hid (Blk.new wt3 36 #[.int .i64 0, .slice none 0 0, .slice none 0 0, .int .i64 0, .int .i64 0])
                have lkA : Hid (wr.heap.size ≤ wt3.heap.size) := hid hb3.out.size
                have hb4 := hid (hb3.out.trans (hb9.mono hb3.out.size))
                have hAB : Hid (m11 ≠ wt3.heap.size) := hid (by have := kB.out.lt; omega)
                have oA : Hid (OwnQ (fun q => wr.heap.size ≤ q ∧ q ≠ wt3.heap.size ∧ q ≠ m11) _ a _ _) := hid (((oA.out).more fun q hq hl => by omega).below hb9)
                have oB : Hid (OwnQ (fun q => wr.heap.size ≤ q ∧ q ≠ wt3.heap.size ∧ q ≠ m11) _ a _ _) := hid (((oB.out).more fun q hq hl => by omega).below hb9)
                have kB := hid (kB.out.below_all hb9)
                clear hb9
                generalize wt3.alloc (.cells #[.int .i64 0, .slice none 0 0, .slice none 0 0, .int .i64 0, .int .i64 0] 36) = wt4 at *
                generalize wt3.heap.size = m10 at *
                refine hK.out _ _ ?_ (fun hHeld => ?_)
                · exact hb4.out
                clear hK K
                (try simp only [Act.put, List.setIfInBounds_toArray, List.set_cons_zero, List.set_cons_succ, List.getElem_toArray, List.getElem_cons_zero, List.getElem_cons_succ])
                have z0 : wt4.cell? ⟨m10, 0, none⟩ = some (.int .i64 0) := kA.out.cell 0
                have z1 : wt4.cell? ⟨m10, 1, none⟩ = some (.slice none 0 0) := kA.out.cell 1
                have z2 : wt4.cell? ⟨m10, 2, none⟩ = some (.slice none 0 0) := kA.out.cell 2
                have z3 : wt4.cell? ⟨m10, 3, none⟩ = some (.int .i64 0) := kA.out.cell 3
                have z4 : wt4.cell? ⟨m10, 4, none⟩ = some (.int .i64 0) := kA.out.cell 4
                have fA := fun q => kA.out.frozen q
                have lA := kA.out.lt
                refine wpAnyH_ready (rs := [14]) (by kernel_rfl) (by simp) ?_
                refine AllReadyH.cons rfl (fun K hK => ?_) AllReadyH.nil
                go_simp
                obtain ⟨wt5, hW9, kN, hup⟩ := set_act' kA.out (.int .i64 a.kind) (.slice B1 a.ks.length d1) (.slice B2 a.ws.length d2) (.int .i64 a.mark) (.int .i64 a.n)
                rw [hW9]
                clear hW9
                have kB := hid (kB.out.upd hup fun e => (by have := hAB.out; omega))
                have kA := hid kN
                have oA := hid (oA.out.upd hup fun q hq e => by omega)
                have oB := hid (oB.out.upd hup fun q hq e => by omega)
                have hb5 := hid (hb4.out.trans (hup.below hb4.out.size fun q hq e => by have := lkA.out; have := lkB.out; omega))
                clear kN hup z0 z1 z2 z3 z4 fA lA
                refine hK.out _ _ ?_ (fun hHeld => ?_)
                · exact hb5.out
                clear hK K
                (try simp only [Act.put, List.setIfInBounds_toArray, List.set_cons_zero, List.set_cons_succ, List.getElem_toArray, List.getElem_cons_zero, List.getElem_cons_succ])
                have z0 : wt5.cell? ⟨m11, 0, none⟩ = some (.int .i64 0) := kB.out.cell 0
                have z1 : wt5.cell? ⟨m11, 1, none⟩ = some (.slice none 0 0) := kB.out.cell 1
                have z2 : wt5.cell? ⟨m11, 2, none⟩ = some (.slice none 0 0) := kB.out.cell 2
                have z3 : wt5.cell? ⟨m11, 3, none⟩ = some (.int .i64 0) := kB.out.cell 3
                have z4 : wt5.cell? ⟨m11, 4, none⟩ = some (.int .i64 0) := kB.out.cell 4
                have fA := fun q => kB.out.frozen q
                have lA := kB.out.lt
                refine wpAnyH_ready (rs := [15]) (by kernel_rfl) (by simp) ?_
                refine AllReadyH.cons rfl (fun K hK => ?_) AllReadyH.nil
                go_simp
                obtain ⟨wt6, hW9, kN, hup⟩ := set_act' kB.out (.int .i64 a.kind) (.slice B3 a.ks.length d3) (.slice B4 a.ws.length d4) (.int .i64 a.mark) (.int .i64 a.n)
                rw [hW9]
                clear hW9
                have kA := hid (kA.out.upd hup fun e => (by have := hAB.out; omega))
                have kB := hid kN
                have oA := hid (oA.out.upd hup fun q hq e => by omega)
                have oB := hid (oB.out.upd hup fun q hq e => by omega)
                have hb6 := hid (hb5.out.trans (hup.below hb5.out.size fun q hq e => by have := lkA.out; have := lkB.out; omega))
                clear kN hup z0 z1 z2 z3 z4 fA lA
                refine hK.out _ _ ?_ (fun hHeld => ?_)
                · exact hb6.out
                clear hK K
                (try simp only [Act.put, List.setIfInBounds_toArray, List.set_cons_zero, List.set_cons_succ, List.getElem_toArray, List.getElem_cons_zero, List.getElem_cons_succ])
                refine wpAnyH_done (by kernel_rfl) ?_ _
                go_wp2_with fail
                go_meet
                case rel => exact ⟨m10, m11, B1, d1, B2, d2, B3, d3, B4, d4, rfl, rfl, kA.out, kB.out, ⟨oA.out.ks.more fun q hq _ => hq.1, oA.out.ws.more fun q hq _ => hq.1⟩, ⟨oB.out.ks.more fun q hq _ => hq.1, oB.out.ws.more fun q hq _ => hq.1⟩, hb6.out, lkA.out, lkB.out⟩
              exact AllReadyH.nil
            refine AllReadyH.cons rfl (fun K hK => ?_) ?_
            · go_simp
              have hb9 : Below wt2.heap.size wt2 (wt2.alloc (.cells #[.int .i64 0, .slice none 0 0, .slice none 0 0, .int .i64 0, .int .i64 0] 36)) := (Below.refl _ _).alloc (Nat.le_refl _) _
              have kA := hid (Blk.new wt2 36 #[.int .i64 0, .slice none 0 0, .slice none 0 0, .int .i64 0, .int .i64 0])
              have lkA : Hid (wr.heap.size ≤ wt2.heap.size) := hid hb2.out.size
              have hb3 := hid (hb2.out.trans (hb9.mono hb2.out.size))
              have hAB : Hid (m11 ≠ wt2.heap.size) := hid (by have := kB.out.lt; omega)
              have oA : Hid (OwnQ (fun q => wr.heap.size ≤ q ∧ q ≠ wt2.heap.size ∧ q ≠ m11) _ a _ _) := hid (((oA.out).more fun q hq hl => by omega).below hb9)
              have kB := hid (kB.out.below_all hb9)
              clear hb9
              generalize wt2.alloc (.cells #[.int .i64 0, .slice none 0 0, .slice none 0 0, .int .i64 0, .int .i64 0] 36) = wt3 at *
              generalize wt2.heap.size = m10 at *
              refine hK.out _ _ ?_ (fun hHeld => ?_)
              · exact hb3.out
              clear hK K
              (try simp only [Act.put, List.setIfInBounds_toArray, List.set_cons_zero, List.set_cons_succ, List.getElem_toArray, List.getElem_cons_zero, List.getElem_cons_succ])
              refine wpAnyH_ready (rs := [11]) (by kernel_rfl) (by simp) ?_
              refine AllReadyH.cons rfl (fun K hK => ?_) ?_
              · go_simp
                refine (zown_any a (hyy.out _ hb3.out).2.2.2.2.2.2 (by have := hpk.out.1; omega) (by have := hpk.out.2; omega)).mono ?_
                rintro e wt4 ⟨B3, d3, B4, d4, rfl, ho9, hb9⟩
                have oB : Hid (OwnQ (fun q => wr.heap.size ≤ q ∧ q ≠ m10 ∧ q ≠ m11) wt4 a B3 B4) := hid ((OwnQ.mk ho9.ks ho9.ws).more fun q hq _ => by have := hb3.out.size; have := kA.out.lt; have := kB.out.lt; omega)
                have hb4 := hid (hb3.out.trans (hb9.mono hb3.out.size))
                have oA := hid (oA.out.below hb9)
                have kA := hid (kA.out.below_all hb9)
                have kB := hid (kB.out.below_all hb9)
                clear ho9 hb9
                refine hK.out _ _ ?_ (fun hHeld => ?_)
                · exact hb4.out
                clear hK K
                (try simp only [Act.put, List.setIfInBounds_toArray, List.set_cons_zero, List.set_cons_succ, List.getElem_toArray, List.getElem_cons_zero, List.getElem_cons_succ])
                have z0 : wt4.cell? ⟨m10, 0, none⟩ = some (.int .i64 0) := kA.out.cell 0
                have z1 : wt4.cell? ⟨m10, 1, none⟩ = some (.slice none 0 0) := kA.out.cell 1
                have z2 : wt4.cell? ⟨m10, 2, none⟩ = some (.slice none 0 0) := kA.out.cell 2
                have z3 : wt4.cell? ⟨m10, 3, none⟩ = some (.int .i64 0) := kA.out.cell 3
                have z4 : wt4.cell? ⟨m10, 4, none⟩ = some (.int .i64 0) := kA.out.cell 4
                have fA := fun q => kA.out.frozen q
                have lA := kA.out.lt
                refine wpAnyH_ready (rs := [14]) (by kernel_rfl) (by simp) ?_
                refine AllReadyH.cons rfl (fun K hK => ?_) AllReadyH.nil
                go_simp
                obtain ⟨wt5, hW9, kN, hup⟩ := set_act' kA.out (.int .i64 a.kind) (.slice B1 a.ks.length d1) (.slice B2 a.ws.length d2) (.int .i64 a.mark) (.int .i64 a.n)
                rw [hW9]
                clear hW9
                have kB := hid (kB.out.upd hup fun e => (by have := hAB.out; omega))
                have kA := hid kN
                have oA := hid (oA.out.upd hup fun q hq e => by omega)
                have oB := hid (oB.out.upd hup fun q hq e => by omega)
                have hb5 := hid (hb4.out.trans (hup.below hb4.out.size fun q hq e => by have := lkA.out; have := lkB.out; omega))
                clear kN hup z0 z1 z2 z3 z4 fA lA
                refine hK.out _ _ ?_ (fun hHeld => ?_)
                · exact hb5.out
                clear hK K
                (try simp only [Act.put, List.setIfInBounds_toArray, List.set_cons_zero, List.set_cons_succ, List.getElem_toArray, List.getElem_cons_zero, List.getElem_cons_succ])
                have z0 : wt5.cell? ⟨m11, 0, none⟩ = some (.int .i64 0) := kB.out.cell 0
                have z1 : wt5.cell? ⟨m11, 1, none⟩ = some (.slice none 0 0) := kB.out.cell 1
                have z2 : wt5.cell? ⟨m11, 2, none⟩ = some (.slice none 0 0) := kB.out.cell 2
                have z3 : wt5.cell? ⟨m11, 3, none⟩ = some (.int .i64 0) := kB.out.cell 3
                have z4 : wt5.cell? ⟨m11, 4, none⟩ = some (.int .i64 0) := kB.out.cell 4
                have fA := fun q => kB.out.frozen q
                have lA := kB.out.lt
                refine wpAnyH_ready (rs := [15]) (by kernel_rfl) (by simp) ?_
                refine AllReadyH.cons rfl (fun K hK => ?_) AllReadyH.nil
                go_simp
                obtain ⟨wt6, hW9, kN, hup⟩ := set_act' kB.out (.int .i64 a.kind) (.slice B3 a.ks.length d3) (.slice B4 a.ws.length d4) (.int .i64 a.mark) (.int .i64 a.n)
                rw [hW9]
                clear hW9
                have kA := hid (kA.out.upd hup fun e => (by have := hAB.out; omega))
                have kB := hid kN
                have oA := hid (oA.out.upd hup fun q hq e => by omega)
                have oB := hid (oB.out.upd hup fun q hq e => by omega)
                have hb6 := hid (hb5.out.trans (hup.below hb5.out.size fun q hq e => by have := lkA.out; have := lkB.out; omega))
                clear kN hup z0 z1 z2 z3 z4 fA lA
                refine hK.out _ _ ?_ (fun hHeld => ?_)
                · exact hb6.out
                clear hK K
                (try simp only [Act.put, List.setIfInBounds_toArray, List.set_cons_zero, List.set_cons_succ, List.getElem_toArray, List.getElem_cons_zero, List.getElem_cons_succ])
                refine wpAnyH_done (by kernel_rfl) ?_ _
                go_wp2_with fail
                go_meet
                case rel => exact ⟨m10, m11, B1, d1, B2, d2, B3, d3, B4, d4, rfl, rfl, kA.out, kB.out, ⟨oA.out.ks.more fun q hq _ => hq.1, oA.out.ws.more fun q hq _ => hq.1⟩, ⟨oB.out.ks.more fun q hq _ => hq.1, oB.out.ws.more fun q hq _ => hq.1⟩, hb6.out, lkA.out, lkB.out⟩
              exact AllReadyH.nil
            exact AllReadyH.nil
          refine AllReadyH.cons rfl (fun K hK => ?_) ?_
          · go_simp
            have hb9 : Below wt1.heap.size wt1 (wt1.alloc (.cells #[.int .i64 0, .slice none 0 0, .slice none 0 0, .int .i64 0, .int .i64 0] 36)) := (Below.refl _ _).alloc (Nat.le_refl _) _
            have kA := hid (Blk.new wt1 36 #[.int .i64 0, .slice none 0 0, .slice none 0 0, .int .i64 0, .int .i64 0])
            have lkA : Hid (wr.heap.size ≤ wt1.heap.size) := hid hb1.out.size
            have hb2 := hid (hb1.out.trans (hb9.mono hb1.out.size))
            have hAB : Hid (m11 ≠ wt1.heap.size) := hid (by have := kB.out.lt; omega)
            have kB := hid (kB.out.below_all hb9)
            clear hb9
            generalize wt1.alloc (.cells #[.int .i64 0, .slice none 0 0, .slice none 0 0, .int .i64 0, .int .i64 0] 36) = wt2 at *
            generalize wt1.heap.size = m10 at *
            refine hK.out _ _ ?_ (fun hHeld => ?_)
            · exact hb2.out
            clear hK K
            (try simp only [Act.put, List.setIfInBounds_toArray, List.set_cons_zero, List.set_cons_succ, List.getElem_toArray, List.getElem_cons_zero, List.getElem_cons_succ])
            refine wpAnyH_ready (rs := [5]) (by kernel_rfl) (by simp) ?_
            refine AllReadyH.cons rfl (fun K hK => ?_) ?_
            · go_simp
              refine (zown_any a (hyy.out _ hb2.out).2.2.2.2.2.2 (by have := hpk.out.1; omega) (by have := hpk.out.2; omega)).mono ?_
              rintro e wt3 ⟨B1, d1, B2, d2, rfl, ho9, hb9⟩
              have oA : Hid (OwnQ (fun q => wr.heap.size ≤ q ∧ q ≠ m10 ∧ q ≠ m11) wt3 a B1 B2) := hid ((OwnQ.mk ho9.ks ho9.ws).more fun q hq _ => by have := hb2.out.size; have := kA.out.lt; have := kB.out.lt; omega)
              have hb3 := hid (hb2.out.trans (hb9.mono hb2.out.size))
              have kA := hid (kA.out.below_all hb9)
              have kB := hid (kB.out.below_all hb9)
              clear ho9 hb9
              refine hK.out _ _ ?_ (fun hHeld => ?_)
              · exact hb3.out
              clear hK K
              (try simp only [Act.put, List.setIfInBounds_toArray, List.set_cons_zero, List.set_cons_succ, List.getElem_toArray, List.getElem_cons_zero, List.getElem_cons_succ])
              refine wpAnyH_ready (rs := [11]) (by kernel_rfl) (by simp) ?_
              refine AllReadyH.cons rfl (fun K hK => ?_) ?_
              · go_simp
                refine (zown_any a (hyy.out _ hb3.out).2.2.2.2.2.2 (by have := hpk.out.1; omega) (by have := hpk.out.2; omega)).mono ?_
                rintro e wt4 ⟨B3, d3, B4, d4, rfl, ho9, hb9⟩
                have oB : Hid (OwnQ (fun q => wr.heap.size ≤ q ∧ q ≠ m10 ∧ q ≠ m11) wt4 a B3 B4) := hid ((OwnQ.mk ho9.ks ho9.ws).more fun q hq _ => by have := hb3.out.size; have := kA.out.lt; have := kB.out.lt; omega)
                have hb4 := hid (hb3.out.trans (hb9.mono hb3.out.size))
                have oA := hid (oA.out.below hb9)
                have kA := hid (kA.out.below_all hb9)
                have kB := hid (kB.out.below_all hb9)
                clear ho9 hb9
                refine hK.out _ _ ?_ (fun hHeld => ?_)
                · exact hb4.out
                clear hK K
                (try simp only [Act.put, List.setIfInBounds_toArray, List.set_cons_zero, List.set_cons_succ, List.getElem_toArray, List.getElem_cons_zero, List.getElem_cons_succ])
                have z0 : wt4.cell? ⟨m10, 0, none⟩ = some (.int .i64 0) := kA.out.cell 0
                have z1 : wt4.cell? ⟨m10, 1, none⟩ = some (.slice none 0 0) := kA.out.cell 1
                have z2 : wt4.cell? ⟨m10, 2, none⟩ = some (.slice none 0 0) := kA.out.cell 2
                have z3 : wt4.cell? ⟨m10, 3, none⟩ = some (.int .i64 0) := kA.out.cell 3
                have z4 : wt4.cell? ⟨m10, 4, none⟩ = some (.int .i64 0) := kA.out.cell 4
                have fA := fun q => kA.out.frozen q
                have lA := kA.out.lt
                refine wpAnyH_ready (rs := [14]) (by kernel_rfl) (by simp) ?_
                refine AllReadyH.cons rfl (fun K hK => ?_) AllReadyH.nil
                go_simp
                obtain ⟨wt5, hW9, kN, hup⟩ := set_act' kA.out (.int .i64 a.kind) (.slice B1 a.ks.length d1) (.slice B2 a.ws.length d2) (.int .i64 a.mark) (.int .i64 a.n)
                rw [hW9]
                clear hW9
                have kB := hid (kB.out.upd hup fun e => (by have := hAB.out; omega))
                have kA := hid kN
                have oA := hid (oA.out.upd hup fun q hq e => by omega)
                have oB := hid (oB.out.upd hup fun q hq e => by omega)
                have hb5 := hid (hb4.out.trans (hup.below hb4.out.size fun q hq e => by have := lkA.out; have := lkB.out; omega))
                clear kN hup z0 z1 z2 z3 z4 fA lA
                refine hK.out _ _ ?_ (fun hHeld => ?_)
                · exact hb5.out
                clear hK K
                (try simp only [Act.put, List.setIfInBounds_toArray, List.set_cons_zero, List.set_cons_succ, List.getElem_toArray, List.getElem_cons_zero, List.getElem_cons_succ])
                have z0 : wt5.cell? ⟨m11, 0, none⟩ = some (.int .i64 0) := kB.out.cell 0
                have z1 : wt5.cell? ⟨m11, 1, none⟩ = some (.slice none 0 0) := kB.out.cell 1
                have z2 : wt5.cell? ⟨m11, 2, none⟩ = some (.slice none 0 0) := kB.out.cell 2
                have z3 : wt5.cell? ⟨m11, 3, none⟩ = some (.int .i64 0) := kB.out.cell 3
                have z4 : wt5.cell? ⟨m11, 4, none⟩ = some (.int .i64 0) := kB.out.cell 4
                have fA := fun q => kB.out.frozen q
                have lA := kB.out.lt
                refine wpAnyH_ready (rs := [15]) (by kernel_rfl) (by simp) ?_
                refine AllReadyH.cons rfl (fun K hK => ?_) AllReadyH.nil
                go_simp
                obtain ⟨wt6, hW9, kN, hup⟩ := set_act' kB.out (.int .i64 a.kind) (.slice B3 a.ks.length d3) (.slice B4 a.ws.length d4) (.int .i64 a.mark) (.int .i64 a.n)
                rw [hW9]
                clear hW9
                have kA := hid (kA.out.upd hup fun e => (by have := hAB.out; omega))
                have kB := hid kN
                have oA := hid (oA.out.upd hup fun q hq e => by omega)
                have oB := hid (oB.out.upd hup fun q hq e => by omega)
                have hb6 := hid (hb5.out.trans (hup.below hb5.out.size fun q hq e => by have := lkA.out; have := lkB.out; omega))
                clear kN hup z0 z1 z2 z3 z4 fA lA
                refine hK.out _ _ ?_ (fun hHeld => ?_)
                · exact hb6.out
                clear hK K
                (try simp only [Act.put, List.setIfInBounds_toArray, List.set_cons_zero, List.set_cons_succ, List.getElem_toArray, List.getElem_cons_zero, List.getElem_cons_succ])
                refine wpAnyH_done (by kernel_rfl) ?_ _
                go_wp2_with fail
                go_meet
                case rel => exact ⟨m10, m11, B1, d1, B2, d2, B3, d3, B4, d4, rfl, rfl, kA.out, kB.out, ⟨oA.out.ks.more fun q hq _ => hq.1, oA.out.ws.more fun q hq _ => hq.1⟩, ⟨oB.out.ks.more fun q hq _ => hq.1, oB.out.ws.more fun q hq _ => hq.1⟩, hb6.out, lkA.out, lkB.out⟩
              exact AllReadyH.nil
            exact AllReadyH.nil
          exact AllReadyH.nil
        exact AllReadyH.nil
      case rest =>
        obtain ⟨m10, m11, B1, d1, B2, d2, B3, d3, B4, d4, rfl, rfl, kA0, kB0, oA0, oB0, hbc0, l100, l110⟩ := hcut
        have kA := hid kA0
        have kB := hid kB0
        have oA := hid oA0
        have oB := hid oB0
        have hbc := hid hbc0
        have l10 := hid l100
        have l11 := hid l110
        have R5 := hid (R.out.below hbc0)
        have Q5 := hid (Q.out.below hbc0)
        have hT1 : Hid (∀ q, T q → q < wr.heap.size) := hid R.out.a.lt
        have hT2 : Hid (∀ q, Ss q → q < wr.heap.size) := hid R.out.b.lt
        have hBc := hid (hB3.out.trans (hbc0.mono hB3.out.size))
        clear kA0 kB0 oA0 oB0 hbc0 l100 l110 R Q hyy x3 hlt hkl
        have c0 : wc.cell? ⟨m10, 0, none⟩ = some (.int .i64 a.kind) := kA.out.cell 0
        go_upto_block 2 with fail
        go_cut [7, 8, 9, 10, 11] (fun v7 v8 v9 v10 v11 wx => ∃ (T Ss : Nat → Prop) (z : Zg) (keys : List ByteArray) (was : List Vl) (tx : ByteArray) (mk : Int) (A9 : Option Addr) (c9 : Nat) (A10 : Option Addr) (c10 : Nat), v7 = .bool z.under ∧ v8 = .string tx ∧ v9 = .slice A9 keys.length c9 ∧ v10 = .slice A10 was.length c10 ∧ v11 = .int .i64 mk ∧ FRel w2 wx g1 g2 z z.s T Ss ∧ WRows wx T Ss z keys was tx mk A9 A10)
        case first =>
          as_aux_lemma =>
          by_cases e1 : a.kind = 1
          · as_aux_lemma =>
            have t11 : (a.kind == 1) = true := by rw [e1]; rfl
            have t12 : (a.kind == 2) = false := by rw [e1]; rfl
            have t13 : (a.kind == 3) = false := by rw [e1]; rfl
            have t14 : (a.kind == 4) = false := by rw [e1]; rfl
            have t15 : (a.kind == 5) = false := by rw [e1]; rfl
            have t16 : (a.kind == 6) = false := by rw [e1]; rfl
            clear e1
            go_upto_region 18 with fail
            refine wp_region_held_drew (S := fun w'' => Blk w'' m10 36 #[.int .i64 a.kind, .slice B1 a.ks.length d1, .slice B2 a.ws.length d2, .int .i64 a.mark, .int .i64 a.n] ∧ Blk w'' m11 36 #[.int .i64 a.kind, .slice B3 a.ks.length d3, .slice B4 a.ws.length d4, .int .i64 a.mark, .int .i64 a.n]) (by kernel_rfl) ?_ (fun hHeld => ?_)
            · exact ⟨kA.out.drew, kB.out.drew⟩
            have hdr := hid ((Below.refl wc.heap.size wc).drew)
            have R6 := hid (R5.out.below hdr.out)
            have Q6 := hid (Q5.out.below hdr.out)
            have oA := hid (show OwnZ wr.heap.size _ a B1 d1 B2 d2 from oA.out.below hdr.out)
            have oB := hid (show OwnZ wr.heap.size _ a B3 d3 B4 d4 from oB.out.below hdr.out)
            clear hdr R5 Q5
            generalize World.drew wc = wd at *
            refine wpAnyH_take (i := 0) (v := ?v11) rfl (by kernel_rfl) (by kernel_rfl) (by kernel_rfl) (fun _ _ _ h => h) (Or.inl ⟨by rfl, ?hy11⟩) (by assumption) ?rest11
            case hy11 => intro w' hSw; have q1 : w'.cell? ⟨m10, 1, none⟩ = some (.slice B1 a.ks.length d1) := hSw.1.cell 1; have q2 : w'.cell? ⟨m11, 1, none⟩ = some (.slice B3 a.ks.length d3) := hSw.2.cell 1; (try dsimp only at hSw); go_simp; try with_reducible rfl
            (try simp only [Act.put, List.setIfInBounds_toArray, List.set_cons_zero, List.set_cons_succ, List.getElem_toArray, List.getElem_cons_zero, List.getElem_cons_succ])
            refine wpAnyH_take (i := 1) (v := ?v12) rfl (by kernel_rfl) (by kernel_rfl) (by kernel_rfl) (fun _ _ _ h => h) (Or.inl ⟨by rfl, ?hy12⟩) (by assumption) ?rest12
            case hy12 => intro w' hSw; have q1 : w'.cell? ⟨m10, 1, none⟩ = some (.slice B1 a.ks.length d1) := hSw.1.cell 1; have q2 : w'.cell? ⟨m11, 1, none⟩ = some (.slice B3 a.ks.length d3) := hSw.2.cell 1; (try dsimp only at hSw); go_simp; try with_reducible rfl
            (try simp only [Act.put, List.setIfInBounds_toArray, List.set_cons_zero, List.set_cons_succ, List.getElem_toArray, List.getElem_cons_zero, List.getElem_cons_succ])
            refine wpAnyH_take (i := 2) (v := ?v13) rfl (by kernel_rfl) (by kernel_rfl) (by kernel_rfl) (fun _ _ _ h => h) (Or.inl ⟨by rfl, ?hy13⟩) (by assumption) ?rest13
            case hy13 => intro w' hSw; have q1 : w'.cell? ⟨m10, 1, none⟩ = some (.slice B1 a.ks.length d1) := hSw.1.cell 1; have q2 : w'.cell? ⟨m11, 1, none⟩ = some (.slice B3 a.ks.length d3) := hSw.2.cell 1; (try dsimp only at hSw); go_simp; try with_reducible rfl
            (try simp only [Act.put, List.setIfInBounds_toArray, List.set_cons_zero, List.set_cons_succ, List.getElem_toArray, List.getElem_cons_zero, List.getElem_cons_succ])
            refine wpAnyH_take (i := 4) (v := ?v14) rfl (by kernel_rfl) (by kernel_rfl) (by kernel_rfl) (fun _ _ _ h => h) (Or.inl ⟨by rfl, ?hy14⟩) (by assumption) ?rest14
            case hy14 => intro w' hSw; have q1 : w'.cell? ⟨m10, 1, none⟩ = some (.slice B1 a.ks.length d1) := hSw.1.cell 1; have q2 : w'.cell? ⟨m11, 1, none⟩ = some (.slice B3 a.ks.length d3) := hSw.2.cell 1; (try dsimp only at hSw); go_simp; try with_reducible rfl
            (try simp only [Act.put, List.setIfInBounds_toArray, List.set_cons_zero, List.set_cons_succ, List.getElem_toArray, List.getElem_cons_zero, List.getElem_cons_succ])
            refine wpAnyH_take (i := 5) (v := ?v15) rfl (by kernel_rfl) (by kernel_rfl) (by kernel_rfl) (fun _ _ _ h => h) (Or.inl ⟨by rfl, ?hy15⟩) (by assumption) ?rest15
            case hy15 => intro w' hSw; have q1 : w'.cell? ⟨m10, 1, none⟩ = some (.slice B1 a.ks.length d1) := hSw.1.cell 1; have q2 : w'.cell? ⟨m11, 1, none⟩ = some (.slice B3 a.ks.length d3) := hSw.2.cell 1; (try dsimp only at hSw); go_simp; try with_reducible rfl
            (try simp only [Act.put, List.setIfInBounds_toArray, List.set_cons_zero, List.set_cons_succ, List.getElem_toArray, List.getElem_cons_zero, List.getElem_cons_succ])
            refine wpAnyH_take (i := 6) (v := ?v16) rfl (by kernel_rfl) (by kernel_rfl) (by kernel_rfl) (fun _ _ _ h => h) (Or.inl ⟨by rfl, ?hy16⟩) (by assumption) ?rest16
            case hy16 => intro w' hSw; have q1 : w'.cell? ⟨m10, 1, none⟩ = some (.slice B1 a.ks.length d1) := hSw.1.cell 1; have q2 : w'.cell? ⟨m11, 1, none⟩ = some (.slice B3 a.ks.length d3) := hSw.2.cell 1; (try dsimp only at hSw); go_simp; try with_reducible rfl
            (try simp only [Act.put, List.setIfInBounds_toArray, List.set_cons_zero, List.set_cons_succ, List.getElem_toArray, List.getElem_cons_zero, List.getElem_cons_succ])
            refine wpAnyH_ready (rs := [3]) (by kernel_rfl) (by simp) ?_
            refine AllReadyH.cons rfl (fun K hK => ?_) AllReadyH.nil
            go_simp
            refine (zclaim_any (c := d1) a.ks R6.out.a oA.out.ks (fun q hq hT => by have := hT1.out q hT; omega) hzk.out.1 (by have := hpk.out.1; omega)).mono ?_
            rintro e wa ⟨rfl, hgo⟩
            obtain ⟨T', R70, Q70, hu7, _⟩ := R6.out.goW Q6.out hgo (rngz_claim R6.out.rz _) (fun hu => by obtain ⟨t0, h1, h2⟩ := Q6.out.fz (by rw [claim_u] at hu; exact hu); exact ⟨t0, h1.claim R6.out.a.ok _, h2⟩)
            have R7 := hid R70
            have Q7 := hid Q70
            have oB := hid (oB.out.upd hu7 fun q hq hT => by have := hT1.out q hT; omega)
            have hk7 : Hid (Blk wa m10 36 #[.int .i64 a.kind, .slice B1 a.ks.length d1, .slice B2 a.ws.length d2, .int .i64 a.mark, .int .i64 a.n] ∧ Blk wa m11 36 #[.int .i64 a.kind, .slice B3 a.ks.length d3, .slice B4 a.ws.length d4, .int .i64 a.mark, .int .i64 a.n]) := hid ⟨hHeld.1.upd hu7 fun hT => by have := hT1.out _ hT; have := l10.out; omega, hHeld.2.upd hu7 fun hT => by have := hT1.out _ hT; have := l11.out; omega⟩
            clear hgo hu7 R70 Q70 R6 Q6
            refine hK.out _ _ ?_ (fun hHeld => ?_)
            · exact hk7.out
            clear hK K
            (try simp only [Act.put, List.setIfInBounds_toArray, List.set_cons_zero, List.set_cons_succ, List.getElem_toArray, List.getElem_cons_zero, List.getElem_cons_succ])
            refine wpAnyH_ready (rs := [7]) (by kernel_rfl) (by simp) ?_
            refine AllReadyH.cons rfl (fun K hK => ?_) AllReadyH.nil
            go_simp
            refine (claim_any (c := d3) a.ks R7.out.b oB.out.ks (fun q hq hT => by have := hT2.out q hT; omega) hzk.out.1 (by have := hpk.out.1; omega)).mono ?_
            rintro e wb ⟨rfl, hP, hu8⟩
            obtain ⟨R80, Q80⟩ := R7.out.goS Q7.out hP hu8
            have R8 : Hid (FRel w2 wb g1 g2 (z.claim a.ks) (z.claim a.ks).s T' Ss) := hid (by rw [claim_s]; exact R80)
            have Q8 := hid Q80
            have hk8 : Hid (Blk wb m10 36 #[.int .i64 a.kind, .slice B1 a.ks.length d1, .slice B2 a.ws.length d2, .int .i64 a.mark, .int .i64 a.n] ∧ Blk wb m11 36 #[.int .i64 a.kind, .slice B3 a.ks.length d3, .slice B4 a.ws.length d4, .int .i64 a.mark, .int .i64 a.n]) := hid ⟨hHeld.1.upd hu8 fun hT => by have := hT2.out _ hT; have := l10.out; omega, hHeld.2.upd hu8 fun hT => by have := hT2.out _ hT; have := l11.out; omega⟩
            clear hP hu8 R80 Q80 R7 Q7
            refine hK.out _ _ ?_ (fun hHeld => ?_)
            · exact hk8.out
            clear hK K
            (try simp only [Act.put, List.setIfInBounds_toArray, List.set_cons_zero, List.set_cons_succ, List.getElem_toArray, List.getElem_cons_zero, List.getElem_cons_succ])
            have hne : (claimE z.s a.ks != claimE z.s a.ks) = false := by simp
            refine wpAnyH_take (i := 8) (v := ?v17) rfl (by kernel_rfl) (by kernel_rfl) (by kernel_rfl) (fun _ _ _ h => h) (Or.inl ⟨by rfl, ?hy17⟩) (by assumption) ?rest17
            case hy17 => intro w' hSw; (try dsimp only at hSw); go_simp; try with_reducible rfl
            (try simp only [Act.put, List.setIfInBounds_toArray, List.set_cons_zero, List.set_cons_succ, List.getElem_toArray, List.getElem_cons_zero, List.getElem_cons_succ])
            refine wpAnyH_done (by kernel_rfl) ?_ _
            go_wp2_with fail
            go_meet
            case rel => exact ⟨T', Ss, z.claim a.ks, keys, was, tx, mk, A9, c9, A10, c10, by rw [claim_u], rfl, rfl, rfl, rfl, R8.out, Q8.out⟩
          have tk1 : (a.kind == 1) = false := by simpa using e1
          clear e1
          by_cases e2 : a.kind = 2
          · as_aux_lemma =>
            have t22 : (a.kind == 2) = true := by rw [e2]; rfl
            have t23 : (a.kind == 3) = false := by rw [e2]; rfl
            have t24 : (a.kind == 4) = false := by rw [e2]; rfl
            have t25 : (a.kind == 5) = false := by rw [e2]; rfl
            have t26 : (a.kind == 6) = false := by rw [e2]; rfl
            clear e2
            go_upto_region 21 with fail
            refine wp_region_held_drew (S := fun w'' => Blk w'' m10 36 #[.int .i64 a.kind, .slice B1 a.ks.length d1, .slice B2 a.ws.length d2, .int .i64 a.mark, .int .i64 a.n] ∧ Blk w'' m11 36 #[.int .i64 a.kind, .slice B3 a.ks.length d3, .slice B4 a.ws.length d4, .int .i64 a.mark, .int .i64 a.n]) (by kernel_rfl) ?_ (fun hHeld => ?_)
            · exact ⟨kA.out.drew, kB.out.drew⟩
            have hdr := hid ((Below.refl wc.heap.size wc).drew)
            have R6 := hid (R5.out.below hdr.out)
            have Q6 := hid (Q5.out.below hdr.out)
            have oA := hid (show OwnZ wr.heap.size _ a B1 d1 B2 d2 from oA.out.below hdr.out)
            have oB := hid (show OwnZ wr.heap.size _ a B3 d3 B4 d4 from oB.out.below hdr.out)
            clear hdr R5 Q5
            generalize World.drew wc = wd at *
            refine wpAnyH_take (i := 0) (v := ?v18) rfl (by kernel_rfl) (by kernel_rfl) (by kernel_rfl) (fun _ _ _ h => h) (Or.inl ⟨by rfl, ?hy18⟩) (by assumption) ?rest18
            case hy18 => intro w' hSw; have q1 : w'.cell? ⟨m10, 2, none⟩ = some (.slice B2 a.ws.length d2) := hSw.1.cell 2; have q2 : w'.cell? ⟨m11, 2, none⟩ = some (.slice B4 a.ws.length d4) := hSw.2.cell 2; (try dsimp only at hSw); go_simp; try with_reducible rfl
            (try simp only [Act.put, List.setIfInBounds_toArray, List.set_cons_zero, List.set_cons_succ, List.getElem_toArray, List.getElem_cons_zero, List.getElem_cons_succ])
            refine wpAnyH_take (i := 1) (v := ?v19) rfl (by kernel_rfl) (by kernel_rfl) (by kernel_rfl) (fun _ _ _ h => h) (Or.inl ⟨by rfl, ?hy19⟩) (by assumption) ?rest19
            case hy19 => intro w' hSw; have q1 : w'.cell? ⟨m10, 2, none⟩ = some (.slice B2 a.ws.length d2) := hSw.1.cell 2; have q2 : w'.cell? ⟨m11, 2, none⟩ = some (.slice B4 a.ws.length d4) := hSw.2.cell 2; (try dsimp only at hSw); go_simp; try with_reducible rfl
            (try simp only [Act.put, List.setIfInBounds_toArray, List.set_cons_zero, List.set_cons_succ, List.getElem_toArray, List.getElem_cons_zero, List.getElem_cons_succ])
            refine wpAnyH_take (i := 2) (v := ?v20) rfl (by kernel_rfl) (by kernel_rfl) (by kernel_rfl) (fun _ _ _ h => h) (Or.inl ⟨by rfl, ?hy20⟩) (by assumption) ?rest20
            case hy20 => intro w' hSw; have q1 : w'.cell? ⟨m10, 2, none⟩ = some (.slice B2 a.ws.length d2) := hSw.1.cell 2; have q2 : w'.cell? ⟨m11, 2, none⟩ = some (.slice B4 a.ws.length d4) := hSw.2.cell 2; (try dsimp only at hSw); go_simp; try with_reducible rfl
            (try simp only [Act.put, List.setIfInBounds_toArray, List.set_cons_zero, List.set_cons_succ, List.getElem_toArray, List.getElem_cons_zero, List.getElem_cons_succ])
            refine wpAnyH_take (i := 4) (v := ?v21) rfl (by kernel_rfl) (by kernel_rfl) (by kernel_rfl) (fun _ _ _ h => h) (Or.inl ⟨by rfl, ?hy21⟩) (by assumption) ?rest21
            case hy21 => intro w' hSw; have q1 : w'.cell? ⟨m10, 2, none⟩ = some (.slice B2 a.ws.length d2) := hSw.1.cell 2; have q2 : w'.cell? ⟨m11, 2, none⟩ = some (.slice B4 a.ws.length d4) := hSw.2.cell 2; (try dsimp only at hSw); go_simp; try with_reducible rfl
            (try simp only [Act.put, List.setIfInBounds_toArray, List.set_cons_zero, List.set_cons_succ, List.getElem_toArray, List.getElem_cons_zero, List.getElem_cons_succ])
            refine wpAnyH_take (i := 5) (v := ?v22) rfl (by kernel_rfl) (by kernel_rfl) (by kernel_rfl) (fun _ _ _ h => h) (Or.inl ⟨by rfl, ?hy22⟩) (by assumption) ?rest22
            case hy22 => intro w' hSw; have q1 : w'.cell? ⟨m10, 2, none⟩ = some (.slice B2 a.ws.length d2) := hSw.1.cell 2; have q2 : w'.cell? ⟨m11, 2, none⟩ = some (.slice B4 a.ws.length d4) := hSw.2.cell 2; (try dsimp only at hSw); go_simp; try with_reducible rfl
            (try simp only [Act.put, List.setIfInBounds_toArray, List.set_cons_zero, List.set_cons_succ, List.getElem_toArray, List.getElem_cons_zero, List.getElem_cons_succ])
            refine wpAnyH_take (i := 6) (v := ?v23) rfl (by kernel_rfl) (by kernel_rfl) (by kernel_rfl) (fun _ _ _ h => h) (Or.inl ⟨by rfl, ?hy23⟩) (by assumption) ?rest23
            case hy23 => intro w' hSw; have q1 : w'.cell? ⟨m10, 2, none⟩ = some (.slice B2 a.ws.length d2) := hSw.1.cell 2; have q2 : w'.cell? ⟨m11, 2, none⟩ = some (.slice B4 a.ws.length d4) := hSw.2.cell 2; (try dsimp only at hSw); go_simp; try with_reducible rfl
            (try simp only [Act.put, List.setIfInBounds_toArray, List.set_cons_zero, List.set_cons_succ, List.getElem_toArray, List.getElem_cons_zero, List.getElem_cons_succ])
            refine wpAnyH_ready (rs := [3]) (by kernel_rfl) (by simp) ?_
            refine AllReadyH.cons rfl (fun K hK => ?_) AllReadyH.nil
            go_simp
            refine (zapply_any (c := d2) a.ws R6.out.a oA.out.ws (fun q hq hT => by have := hT1.out q hT; omega) hzk.out.2 (by have := hpk.out.2; omega)).mono ?_
            rintro e wa ⟨rfl, hgo⟩
            obtain ⟨T', R70, Q70, hu7, _⟩ := R6.out.goW Q6.out hgo (rngz_apply R6.out.rz hvk.out) (fun hu => by obtain ⟨t0, h1, h2⟩ := Q6.out.fz (by rw [apply_u] at hu; exact hu); exact ⟨t0, h1.apply _, h2⟩)
            have R7 := hid R70
            have Q7 := hid Q70
            have oB := hid (oB.out.upd hu7 fun q hq hT => by have := hT1.out q hT; omega)
            have hk7 : Hid (Blk wa m10 36 #[.int .i64 a.kind, .slice B1 a.ks.length d1, .slice B2 a.ws.length d2, .int .i64 a.mark, .int .i64 a.n] ∧ Blk wa m11 36 #[.int .i64 a.kind, .slice B3 a.ks.length d3, .slice B4 a.ws.length d4, .int .i64 a.mark, .int .i64 a.n]) := hid ⟨hHeld.1.upd hu7 fun hT => by have := hT1.out _ hT; have := l10.out; omega, hHeld.2.upd hu7 fun hT => by have := hT1.out _ hT; have := l11.out; omega⟩
            clear hgo hu7 R70 Q70 R6 Q6
            refine hK.out _ _ ?_ (fun hHeld => ?_)
            · exact hk7.out
            clear hK K
            (try simp only [Act.put, List.setIfInBounds_toArray, List.set_cons_zero, List.set_cons_succ, List.getElem_toArray, List.getElem_cons_zero, List.getElem_cons_succ])
            refine wpAnyH_ready (rs := [7]) (by kernel_rfl) (by simp) ?_
            refine AllReadyH.cons rfl (fun K hK => ?_) AllReadyH.nil
            go_simp
            refine (apply_any (c := d4) a.ws R7.out.b oB.out.ws (fun q hq hT => by have := hT2.out q hT; omega) hzk.out.2 (by have := hpk.out.2; omega)).mono ?_
            rintro e wb ⟨rfl, hP, hu8⟩
            obtain ⟨R80, Q80⟩ := R7.out.goS Q7.out hP hu8
            have R8 : Hid (FRel w2 wb g1 g2 (z.apply a.ws) (z.apply a.ws).s T' Ss) := hid (by rw [apply_s]; exact R80)
            have Q8 := hid Q80
            have hk8 : Hid (Blk wb m10 36 #[.int .i64 a.kind, .slice B1 a.ks.length d1, .slice B2 a.ws.length d2, .int .i64 a.mark, .int .i64 a.n] ∧ Blk wb m11 36 #[.int .i64 a.kind, .slice B3 a.ks.length d3, .slice B4 a.ws.length d4, .int .i64 a.mark, .int .i64 a.n]) := hid ⟨hHeld.1.upd hu8 fun hT => by have := hT2.out _ hT; have := l10.out; omega, hHeld.2.upd hu8 fun hT => by have := hT2.out _ hT; have := l11.out; omega⟩
            clear hP hu8 R80 Q80 R7 Q7
            refine hK.out _ _ ?_ (fun hHeld => ?_)
            · exact hk8.out
            clear hK K
            (try simp only [Act.put, List.setIfInBounds_toArray, List.set_cons_zero, List.set_cons_succ, List.getElem_toArray, List.getElem_cons_zero, List.getElem_cons_succ])
            have hne : (applyE z.s a.ws != applyE z.s a.ws) = false := by simp
            refine wpAnyH_take (i := 8) (v := ?v24) rfl (by kernel_rfl) (by kernel_rfl) (by kernel_rfl) (fun _ _ _ h => h) (Or.inl ⟨by rfl, ?hy24⟩) (by assumption) ?rest24
            case hy24 => intro w' hSw; (try dsimp only at hSw); go_simp; try with_reducible rfl
            (try simp only [Act.put, List.setIfInBounds_toArray, List.set_cons_zero, List.set_cons_succ, List.getElem_toArray, List.getElem_cons_zero, List.getElem_cons_succ])
            refine wpAnyH_done (by kernel_rfl) ?_ _
            go_wp2_with fail
            go_meet
            case rel => exact ⟨T', Ss, z.apply a.ws, keys, was, tx, mk, A9, c9, A10, c10, by rw [apply_u], rfl, rfl, rfl, rfl, R8.out, Q8.out⟩
          have tk2 : (a.kind == 2) = false := by simpa using e2
          clear e2
          by_cases e3 : a.kind = 3
          · as_aux_lemma =>
            have t33 : (a.kind == 3) = true := by rw [e3]; rfl
            have t34 : (a.kind == 4) = false := by rw [e3]; rfl
            have t35 : (a.kind == 5) = false := by rw [e3]; rfl
            have t36 : (a.kind == 6) = false := by rw [e3]; rfl
            clear e3
            have c3 : wc.cell? ⟨m10, 3, none⟩ = some (.int .i64 a.mark) := kA.out.cell 3
            by_cases e0 : z.beginE a.mark = 0
            · have h0 := hid e0
              have hu9 : Hid ((z.begin a.mark).under = true) := hid (by unfold Zg.begin; rw [if_pos e0])
              have hu0 : z.under = false := by
                unfold Zg.beginE at e0
                split at e0
                · cases e0
                · split at e0
                  · cases e0
                  · rename_i h; simpa using h
              have hzok := hid R5.out.a.ok
              have hbg := hid (zbegin_any a.mark R5.out.a)
              rw [e0] at hbg
              have R50 := hid R5.out
              clear e0 R5
              go_wp2_with fail
              refine hbg.out.mono ?_
              rintro e w6 ⟨rfl, hgo⟩
              obtain ⟨T', R60, _, hu6, _⟩ := R50.out.goA (⟨Rd.nil_, Rd.nil_, Rd.nil_, by simp, fun _ => ⟨by simp, rfl, rfl⟩⟩ : FRows wc T Ss z [] [] [] none none none) hgo (rngz_begin R50.out.rz _) (fun _ => ⟨by simp, rfl, rfl⟩)
              have R6 : Hid (FRel w2 w6 g1 g2 (z.begin a.mark) (z.begin a.mark).s T' Ss) := hid (by rw [begin_s]; exact R60)
              have kA6 := hid (kA.out.upd hu6 fun e => by have := hT1.out _ e; have := l10.out; omega)
              clear hgo R60 R50 Q5 hbg c3 hu6
              go_wp2_with fail
              refine (num_any _ _).mono ?_
              rintro e wq ⟨rfl, hwq⟩
              obtain rfl := hwq.symm
              go_wp2_with fail
              refine (bytes_textB R6.out.b (hE.out.below (hB2.out.trans (R6.out.bel.mono hB2.out.size))) R6.out.rz.2.2).mono ?_
              rintro e w7 ⟨A17, n17, d17, rfl, hcvR, hb⟩
              have hcv : (convert 22 9 (.slice A17 n17 d17)).run Tryd.prog w7 = .ok (.string (btS (z.begin a.mark).s)) w7 := hcvR w7 (Below.refl _ _)
              have R7 := hid (R6.out.below hb)
              have kA7 := hid (kA6.out.below_all hb)
              have c3 : w7.cell? ⟨m10, 3, none⟩ = some (.int .i64 a.mark) := kA7.out.cell 3
              clear hcvR hb R6 kA6 kA7
              go_wp2_with fail
              clear hcv c3
              refine (keys_any R7.out.b).mono ?_
              rintro e w8 ⟨A18, c18, rfl, ho, hb⟩
              have hlo : Hid (∀ q, w7.heap.size ≤ q → Off T' Ss q) := hid fun q hq => ⟨fun e => by have := R7.out.a.lt q e; omega, fun e => by have := R7.out.b.lt q e; omega⟩
              have hlen : Hid ((z.begin a.mark).s.L.length ≤ 1000000) := hid (by have h1 := R7.out.a.ok.s.len; have h3 : (z.begin a.mark).s.L.length ≤ 262144 := (by simpa using h1); omega)
              have hL : Hid ((z.begin a.mark).s.L.length = ((z.begin a.mark).s.L.map (·.1)).length) := hid (by rw [List.length_map])
              rw [hL.out] at ho hlen ⊢
              have hK : Hid ((z.begin a.mark).s.L.map (·.1) = z.s.L.map (·.1)) := hid (by rw [begin_s])
              generalize (z.begin a.mark).s.L.map (·.1) = K at *
              have R8 := hid (R7.out.below hb)
              have k8 := hid ((Rd.of_own' ho).more fun q hq _ => hlo.out q hq)
              have hs7 := hid hb.size
              clear ho hb R7 hL
              go_wp2_with fail
              refine (frozen_any (c := c18) K R8.out.a k8.out hlen.out).mono ?_
              rintro e w9 ⟨A19, c19, rfl, ho, hb⟩
              have R9 := hid (R8.out.below hb)
              have k9 := hid (k8.out.below_all hb)
              have f9 := hid ((Rd.of_own' ho).more fun q hq _ => hlo.out q (by have := hs7.out; omega))
              clear ho hb R8 k8
              have QQ : Hid (WRows w9 T' Ss (z.begin a.mark) K (K.map (frozK (z.begin a.mark))) (btS (z.begin a.mark).s) a.mark A18 A19) := hid ⟨k9.out, by rw [List.length_map]; exact f9.out, hlen.out, fun _ => ⟨z.s, by rw [hK.out]; exact begin_wasz hzok.out h0.out, by rw [begin_s]⟩⟩
              clear k9 f9
              go_wp2_with fail
              go_meet
              case rel => exact ⟨T', Ss, z.begin a.mark, K, _, _, _, A18, c18, A19, c19, by rw [hu9.out], rfl, rfl, by rw [List.length_map], rfl, R9.out, QQ.out⟩
            · have hz : Hid (z.begin a.mark = z) := hid (by unfold Zg.begin; rw [if_neg e0])
              have hbg := hid (zbegin_any a.mark R5.out.a)
              rw [hz.out] at hbg
              have t0 : (z.beginE a.mark == 0) = false := by simpa using e0
              generalize z.beginE a.mark = n9 at *
              clear e0
              go_wp2_with fail
              refine hbg.out.mono ?_
              rintro e w6 ⟨rfl, hgo⟩
              obtain ⟨T', R60, Q60, _, _⟩ := R5.out.goW Q5.out hgo R5.out.rz Q5.out.fz
              have R6 := hid R60
              have Q6 := hid Q60
              clear hgo R60 Q60 R5 Q5 hbg
              go_wp2_with fail
              refine (num_any _ _).mono ?_
              rintro e wq ⟨rfl, hwq⟩
              obtain rfl := hwq.symm
              go_wp2_with fail
              go_meet
              case rel => exact ⟨T', Ss, z, keys, was, tx, mk, A9, c9, A10, c10, rfl, rfl, rfl, rfl, rfl, R6.out, Q6.out⟩
          have tk3 : (a.kind == 3) = false := by simpa using e3
          clear e3
          by_cases e4 : a.kind = 4
          · as_aux_lemma =>
            have t44 : (a.kind == 4) = true := by rw [e4]; rfl
            have t45 : (a.kind == 5) = false := by rw [e4]; rfl
            have t46 : (a.kind == 6) = false := by rw [e4]; rfl
            clear e4
            have c4 : wc.cell? ⟨m10, 4, none⟩ = some (.int .i64 a.n) := kA.out.cell 4
            have hst := hid (zstep_any a.n R5.out.a)
            cases hu0 : z.under with
            | false =>
              have hu9 := hid hu0
              have hs0 : z.stepN a.n = 0 := by unfold Zg.stepN; rw [if_neg (by rw [hu0]; rintro ⟨h, _⟩; cases h)]
              rw [hs0] at hst
              clear hu0 hs0
              go_wp2_with fail
              refine hst.out.mono ?_
              rintro e w6 ⟨rfl, hgo⟩
              obtain ⟨T', R60, Q60, _, _⟩ := R5.out.goW Q5.out hgo (rngz_step R5.out.rz _) (fun hu => by obtain ⟨t0, h1, h2⟩ := Q5.out.fz hu; exact ⟨t0, h1.step _, h2⟩)
              have R6 : Hid (FRel w2 w6 g1 g2 (z.step a.n) (z.step a.n).s T' Ss) := hid R60
              have Q6 := hid Q60
              clear hgo R60 Q60 R5 Q5 hst
              go_wp2_with fail
              go_meet
              case rel => exact ⟨T', Ss, z.step a.n, keys, was, tx, mk, A9, c9, A10, c10, by rw [step_u, hu9.out], rfl, rfl, rfl, rfl, R6.out, Q6.out⟩
            | true =>
              have hu9 := hid hu0
              clear hu0
              by_cases hs0 : z.stepN a.n = 0
              · rw [hs0] at hst
                clear hs0
                go_wp2_with fail
                refine hst.out.mono ?_
                rintro e w6 ⟨rfl, hgo⟩
                obtain ⟨T', R60, Q60, _, _⟩ := R5.out.goW Q5.out hgo (rngz_step R5.out.rz _) (fun hu => by obtain ⟨t0, h1, h2⟩ := Q5.out.fz hu; exact ⟨t0, h1.step _, h2⟩)
                have R6 : Hid (FRel w2 w6 g1 g2 (z.step a.n) (z.step a.n).s T' Ss) := hid R60
                have Q6 := hid Q60
                clear hgo R60 Q60 R5 Q5 hst
                go_wp2_with fail
                go_meet
                case rel => exact ⟨T', Ss, z.step a.n, keys, was, tx, mk, A9, c9, A10, c10, by rw [step_u, hu9.out], rfl, rfl, rfl, rfl, R6.out, Q6.out⟩
              · generalize z.stepN a.n = sn at *
                have t9 : decide ((0 : Int) < (sn : Int)) = true := decide_eq_true (by omega)
                have t9n : decide (0 < sn) = true := decide_eq_true (by omega)
                have t9g : (0 : Int) < (sn : Int) := by omega
                clear hs0
                go_wp2_with fail
                refine hst.out.mono ?_
                rintro e w6 ⟨rfl, hgo⟩
                obtain ⟨T', R60, Q60, _, _⟩ := R5.out.goW Q5.out hgo (rngz_step R5.out.rz _) (fun hu => by obtain ⟨t0, h1, h2⟩ := Q5.out.fz hu; exact ⟨t0, h1.step _, h2⟩)
                have R6 : Hid (FRel w2 w6 g1 g2 (z.step a.n) (z.step a.n).s T' Ss) := hid R60
                have Q6 := hid Q60
                clear hgo R60 Q60 R5 Q5 hst
                go_wp2_with fail
                go_meet
                case rel => exact ⟨T', Ss, z.step a.n, keys, was, tx, mk, A9, c9, A10, c10, by rw [step_u, hu9.out], rfl, rfl, rfl, rfl, R6.out, Q6.out⟩
          have tk4 : (a.kind == 4) = false := by simpa using e4
          clear e4
          by_cases e5 : a.kind = 5
          · as_aux_lemma =>
            have t55 : (a.kind == 5) = true := by rw [e5]; rfl
            have t56 : (a.kind == 6) = false := by rw [e5]; rfl
            clear e5
            have htk := hid (ztake_any R5.out.a (fun W hW => (hE.out.below ((hB2.out.trans (R5.out.bel.mono hB2.out.size)).trans (hW.below (hB2.out.trans (R5.out.bel.mono hB2.out.size)).size fun q hq e => by have := R5.out.ge.1 q e; have := hB2.out.size; omega)))) R5.out.rz)
            cases hu0 : z.under with
            | true =>
              cases hc0 : z.canTake with
              | true =>
                have hu9 : Hid (z.under = true) := hid hu0
                have hc9 : Hid (z.canTake = true) := hid hc0
                have hT9 : Hid (z.take.under = false) := hid (by unfold Zg.take; rw [if_pos hc0])
                clear hu0 hc0
                obtain ⟨t0, hw0, htx0⟩ := Q5.out.fz hu9.out
                have hmk := hid hw0.mark
                have hkp := hid (hw0.kept.kept (can_left hc9.out))
                have htx := hid htx0
                clear hw0 htx0
                go_wp2_with fail
                refine htk.out.mono ?_
                rintro e w6 ⟨hgo, mk6, A12, n12, c12, rfl, hy6, hn6⟩
                rw [hc9.out]
                obtain ⟨hm6, hn6', hr6⟩ := hy6 hc9.out
                have hm7 : mk6 = mk := hm6.trans hmk.out.symm
                clear hm6
                obtain rfl := hm7
                have hcx : Hid (∀ W, Below w6.heap.size w6 W → (convert 22 9 (.slice A12 n12 c12)).run Tryd.prog W = .ok (.string tx) W) := hid fun W hW => by
                  have h9 := convB (c := c12) (hr6.below_all hW) (by rw [hn6']; simp)
                  rw [h9, htx.out, ← hkp.out]
                  rfl
                clear hr6 hn6' hmk
                obtain ⟨T', R60, Q60, _, _⟩ := R5.out.goW Q5.out hgo (rngz_take R5.out.rz) (fun hu => (by rw [hT9.out] at hu; cases hu))
                have R6 : Hid (FRel w2 w6 g1 g2 z.take z.take.s T' Ss) := hid (by rw [take_s]; exact R60)
                have Q6 := hid Q60
                clear hgo R60 Q60 R5 Q5 htk hy6 hn6
                go_upto_region 37 with fail
                have hAL : Hid (Below w6.heap.size w6 (w6.alloc (.cells #[.int .i64 mk6, .slice A12 n12 c12] 43))) := hid ((Below.refl _ _).alloc (Nat.le_refl _) _)
                have k7 := hid (Blk.new w6 43 #[.int .i64 mk6, .slice A12 n12 c12])
                have R7 := hid (R6.out.below hAL.out)
                have Q7 := hid (Q6.out.below hAL.out)
                have hcv := hid (hcx.out _ hAL.out)
                clear hcx
                clear hAL R6 Q6
                generalize w6.alloc (.cells #[.int .i64 mk6, .slice A12 n12 c12] 43) = w7 at *
                generalize w6.heap.size = m7 at *
                have z0 : w7.cell? ⟨m7, 0, none⟩ = some (.int .i64 mk6) := k7.out.cell 0
                have z1 : w7.cell? ⟨m7, 1, none⟩ = some (.slice A12 n12 c12) := k7.out.cell 1
                have hcv := hcv.out
                go_wp2_with fail
                go_meet
                case rel => exact ⟨T', Ss, z.take, keys, was, tx, mk6, A9, c9, A10, c10, by rw [hT9.out], rfl, rfl, rfl, rfl, R7.out, Q7.out⟩
              | false =>
                have hu9 : Hid (z.under = true) := hid hu0
                have hc9 : Hid (z.canTake = false) := hid hc0
                have hT9 : Hid (z.take.under = true) := hid (by unfold Zg.take; rw [if_neg (by rw [hc0]; decide)]; exact hu0)
                clear hu0 hc0
                go_wp2_with fail
                refine htk.out.mono ?_
                rintro e w6 ⟨hgo, mk6, A12, n12, c12, rfl, hy6, hn6⟩
                rw [hc9.out]
                obtain ⟨T', R60, Q60, _, _⟩ := R5.out.goW Q5.out hgo (rngz_take R5.out.rz) (fun hu => by obtain ⟨t0, h1, h2⟩ := Q5.out.fz hu9.out; exact ⟨t0, h1.take, h2⟩)
                have R6 : Hid (FRel w2 w6 g1 g2 z.take z.take.s T' Ss) := hid (by rw [take_s]; exact R60)
                have Q6 := hid Q60
                clear hgo R60 Q60 R5 Q5 htk hy6 hn6
                go_upto_region 37 with fail
                have hAL : Hid (Below w6.heap.size w6 (w6.alloc (.cells #[.int .i64 mk6, .slice A12 n12 c12] 43))) := hid ((Below.refl _ _).alloc (Nat.le_refl _) _)
                have k7 := hid (Blk.new w6 43 #[.int .i64 mk6, .slice A12 n12 c12])
                have R7 := hid (R6.out.below hAL.out)
                have Q7 := hid (Q6.out.below hAL.out)
                clear hAL R6 Q6
                generalize w6.alloc (.cells #[.int .i64 mk6, .slice A12 n12 c12] 43) = w7 at *
                generalize w6.heap.size = m7 at *
                have z0 : w7.cell? ⟨m7, 0, none⟩ = some (.int .i64 mk6) := k7.out.cell 0
                have z1 : w7.cell? ⟨m7, 1, none⟩ = some (.slice A12 n12 c12) := k7.out.cell 1
                go_wp2_with fail
                go_meet
                case rel => exact ⟨T', Ss, z.take, keys, was, tx, mk, A9, c9, A10, c10, by rw [hT9.out], rfl, rfl, rfl, rfl, R7.out, Q7.out⟩
            | false =>
              have hu9 : Hid (z.under = false) := hid hu0
              have hc9 : Hid (z.canTake = false) := hid (by unfold Zg.canTake; rw [hu0]; rfl)
              have hT9 : Hid (z.take.under = false) := hid (by unfold Zg.take; split; rfl; exact hu0)
              clear hu0
              go_wp2_with fail
              refine htk.out.mono ?_
              rintro e w6 ⟨hgo, mk6, A12, n12, c12, rfl, hy6, hn6⟩
              rw [hc9.out]
              obtain ⟨T', R60, Q60, _, _⟩ := R5.out.goW Q5.out hgo (rngz_take R5.out.rz) (fun hu => (by rw [hT9.out] at hu; cases hu))
              have R6 : Hid (FRel w2 w6 g1 g2 z.take z.take.s T' Ss) := hid (by rw [take_s]; exact R60)
              have Q6 := hid Q60
              clear hgo R60 Q60 R5 Q5 htk hy6 hn6
              go_upto_region 37 with fail
              have hAL : Hid (Below w6.heap.size w6 (w6.alloc (.cells #[.int .i64 mk6, .slice A12 n12 c12] 43))) := hid ((Below.refl _ _).alloc (Nat.le_refl _) _)
              have k7 := hid (Blk.new w6 43 #[.int .i64 mk6, .slice A12 n12 c12])
              have R7 := hid (R6.out.below hAL.out)
              have Q7 := hid (Q6.out.below hAL.out)
              clear hAL R6 Q6
              generalize w6.alloc (.cells #[.int .i64 mk6, .slice A12 n12 c12] 43) = w7 at *
              generalize w6.heap.size = m7 at *
              have z0 : w7.cell? ⟨m7, 0, none⟩ = some (.int .i64 mk6) := k7.out.cell 0
              have z1 : w7.cell? ⟨m7, 1, none⟩ = some (.slice A12 n12 c12) := k7.out.cell 1
              go_wp2_with fail
              go_meet
              case rel => exact ⟨T', Ss, z.take, keys, was, tx, mk, A9, c9, A10, c10, by rw [hT9.out], rfl, rfl, rfl, rfl, R7.out, Q7.out⟩
          have tk5 : (a.kind == 5) = false := by simpa using e5
          clear e5
          by_cases e6 : a.kind = 6
          · as_aux_lemma =>
            have t66 : (a.kind == 6) = true := by rw [e6]; rfl
            clear e6
            go_wp2_with fail
            refine (zdrop_any R5.out.a).mono ?_
            rintro e w6 ⟨rfl, hgo⟩
            obtain ⟨T', R60, Q60, _, _⟩ := R5.out.goW Q5.out hgo (rngz_drop R5.out.rz) (fun hu => (by rw [drop_u] at hu; cases hu))
            have R6 : Hid (FRel w2 w6 g1 g2 z.drop z.drop.s T' Ss) := hid (by rw [drop_s]; exact R60)
            have Q6 := hid Q60
            clear hgo R60 Q60 R5 Q5
            generalize z.under = uu at *
            have huu : (uu != uu) = false := by simp
            go_wp2_with fail
            go_meet
            case rel => exact ⟨T', Ss, z.drop, keys, was, tx, mk, A9, c9, A10, c10, by rw [drop_u], rfl, rfl, rfl, rfl, R6.out, Q6.out⟩
          have tk6 : (a.kind == 6) = false := by simpa using e6
          clear e6
          go_wp2_with fail
          go_meet
          case rel => exact ⟨T, Ss, z, keys, was, tx, mk, A9, c9, A10, c10, rfl, rfl, rfl, rfl, rfl, R5.out, Q5.out⟩
        case rest =>
          obtain ⟨T, Ss, z, keys, was, tx, mk, A9, c9, A10, c10, rfl, rfl, rfl, rfl, rfl, R0, Q0⟩ := hcut
          clear R5 Q5 oA kA oB kB hbc l10 l11 hT1 hT2 hBc c0 hpk hzk hvk
          have R := hid R0
          have Q := hid Q0
          clear R0 Q0
          rename World => wc
          cases hu0 : z.under with
          | false =>
            as_aux_lemma =>
            have hu9 : Hid (z.under = false) := hid hu0
            clear hu0
            go_upto_region 44 with fail
            refine wp_region_held_drew (S := fun _ => True) (by kernel_rfl) ?_ (fun hHeld => ?_)
            · exact True.intro
            have RD := hid (R.out.below (Below.refl _ _).drew)
            have QD := hid (Q.out.below (Below.refl _ _).drew)
            have hBD := hid (hB2.out.trans (RD.out.bel.mono hB2.out.size))
            clear R Q
            generalize World.drew wc = wd at *
            refine wpAnyH_take (i := 0) (v := ?v25) rfl (by kernel_rfl) (by kernel_rfl) (by kernel_rfl) (fun _ _ _ h => h) (Or.inl ⟨by rfl, ?hy25⟩) (by assumption) ?rest25
            case hy25 => intro w' hSw; (try dsimp only at hSw); go_simp; try with_reducible rfl
            (try simp only [Act.put, List.setIfInBounds_toArray, List.set_cons_zero, List.set_cons_succ, List.getElem_toArray, List.getElem_cons_zero, List.getElem_cons_succ])
            refine wpAnyH_take (i := 3) (v := ?v26) rfl (by kernel_rfl) (by kernel_rfl) (by kernel_rfl) (fun _ _ _ h => h) (Or.inl ⟨by rfl, ?hy26⟩) (by assumption) ?rest26
            case hy26 => intro w' hSw; (try dsimp only at hSw); go_simp; try with_reducible rfl
            (try simp only [Act.put, List.setIfInBounds_toArray, List.set_cons_zero, List.set_cons_succ, List.getElem_toArray, List.getElem_cons_zero, List.getElem_cons_succ])
            refine wpAnyH_ready (rs := [1]) (by kernel_rfl) (by simp) ?_
            refine AllReadyH.cons rfl (fun K hK => ?_) AllReadyH.nil
            go_simp
            refine (zbytes_any RD.out.a (hE.out.below hBD.out) RD.out.rz.2.2).mono ?_
            rintro e w8x ⟨A8x, n8x, d8x, rfl, hcvR, hbR⟩
            have hcv8x := hid hcvR
            have hb8x := hid hbR
            clear hcvR hbR
            have hB8x := hid ((hBD.out).trans (hb8x.out.mono (hBD.out).size))
            refine hK.out _ _ ?_ (fun hHeld => ?_)
            · exact True.intro
            clear hK K
            (try simp only [Act.put, List.setIfInBounds_toArray, List.set_cons_zero, List.set_cons_succ, List.getElem_toArray, List.getElem_cons_zero, List.getElem_cons_succ])
            refine wpAnyH_more (S' := fun w'' => Below w8x.heap.size w8x w'') (fun _ _ => True.intro) _ _ _ _ ?_
            have hHeld := Below.refl w8x.heap.size w8x
            refine wpAnyH_take (i := 2) (v := ?v27) rfl (by kernel_rfl) (by kernel_rfl) (by kernel_rfl) (fun _ _ _ h => h) (Or.inl ⟨by rfl, ?hy27⟩) (by assumption) ?rest27
            case hy27 => intro w' hSw; have hq := hcv8x.out w' hSw; (try dsimp only at hSw); go_simp; try with_reducible rfl
            (try simp only [Act.put, List.setIfInBounds_toArray, List.set_cons_zero, List.set_cons_succ, List.getElem_toArray, List.getElem_cons_zero, List.getElem_cons_succ])
            refine wpAnyH_ready (rs := [4]) (by kernel_rfl) (by simp) ?_
            refine AllReadyH.cons rfl (fun K hK => ?_) AllReadyH.nil
            go_simp
            refine (bytes_textB (RD.out.b.below hb8x.out) (hE.out.below hB8x.out) RD.out.rz.2.2).mono ?_
            rintro e w9x ⟨A9x, n9x, d9x, rfl, hcvR, hbR⟩
            have hcv9x := hid hcvR
            have hb9x := hid hbR
            clear hcvR hbR
            have hB9x := hid ((hB8x.out).trans (hb9x.out.mono (hB8x.out).size))
            refine hK.out _ _ ?_ (fun hHeld => ?_)
            · exact hb9x.out
            clear hK K
            (try simp only [Act.put, List.setIfInBounds_toArray, List.set_cons_zero, List.set_cons_succ, List.getElem_toArray, List.getElem_cons_zero, List.getElem_cons_succ])
            refine wpAnyH_more (S' := fun w'' => Below w9x.heap.size w9x w'') (fun w h => hb9x.out.trans (Below.mono h hb9x.out.size)) _ _ _ _ ?_
            have hHeld := Below.refl w9x.heap.size w9x
            refine wpAnyH_take (i := 5) (v := ?v28) rfl (by kernel_rfl) (by kernel_rfl) (by kernel_rfl) (fun _ _ _ h => h) (Or.inl ⟨by rfl, ?hy28⟩) (by assumption) ?rest28
            case hy28 => intro w' hSw; have hq := hcv9x.out w' hSw; (try dsimp only at hSw); go_simp; try with_reducible rfl
            (try simp only [Act.put, List.setIfInBounds_toArray, List.set_cons_zero, List.set_cons_succ, List.getElem_toArray, List.getElem_cons_zero, List.getElem_cons_succ])
            have R9 := hid ((RD.out.below hb8x.out).below hb9x.out)
            have Q9 := hid ((QD.out.below hb8x.out).below hb9x.out)
            clear RD QD hcv8x hcv9x
            generalize btS z.s = bb at *
            refine wpAnyH_take (i := 6) (v := ?v29) rfl (by kernel_rfl) (by kernel_rfl) (by kernel_rfl) (fun _ _ _ h => h) (Or.inl ⟨by rfl, ?hy29⟩) (by assumption) ?rest29
            case hy29 => intro w' hSw; (try dsimp only at hSw); go_simp; try with_reducible rfl
            (try simp only [Act.put, List.setIfInBounds_toArray, List.set_cons_zero, List.set_cons_succ, List.getElem_toArray, List.getElem_cons_zero, List.getElem_cons_succ])
            refine wpAnyH_take (i := 7) (v := ?v30) rfl (by kernel_rfl) (by kernel_rfl) (by kernel_rfl) (fun _ _ _ h => h) (Or.inl ⟨by rfl, ?hy30⟩) (by assumption) ?rest30
            case hy30 => intro w' hSw; (try dsimp only at hSw); go_simp; try with_reducible rfl
            (try simp only [Act.put, List.setIfInBounds_toArray, List.set_cons_zero, List.set_cons_succ, List.getElem_toArray, List.getElem_cons_zero, List.getElem_cons_succ])
            refine wpAnyH_take (i := 8) (v := ?v31) rfl (by kernel_rfl) (by kernel_rfl) (by kernel_rfl) (fun _ _ _ h => h) (Or.inl ⟨by rfl, ?hy31⟩) (by assumption) ?rest31
            case hy31 => intro w' hSw; (try dsimp only at hSw); go_simp; try with_reducible rfl
            (try simp only [Act.put, List.setIfInBounds_toArray, List.set_cons_zero, List.set_cons_succ, List.getElem_toArray, List.getElem_cons_zero, List.getElem_cons_succ])
            refine wpAnyH_take (i := 9) (v := ?v32) rfl (by kernel_rfl) (by kernel_rfl) (by kernel_rfl) (fun _ _ _ h => h) (Or.inl ⟨by rfl, ?hy32⟩) (by assumption) ?rest32
            case hy32 => intro w' hSw; (try dsimp only at hSw); go_simp; try with_reducible rfl
            (try simp only [Act.put, List.setIfInBounds_toArray, List.set_cons_zero, List.set_cons_succ, List.getElem_toArray, List.getElem_cons_zero, List.getElem_cons_succ])
            refine wpAnyH_take (i := 10) (v := undef) rfl (by kernel_rfl) (by kernel_rfl) (by kernel_rfl) (fun _ _ _ h => h) (Or.inr ⟨by rfl, rfl⟩) (by assumption) ?_
            (try simp only [Act.put, List.setIfInBounds_toArray, List.set_cons_zero, List.set_cons_succ, List.getElem_toArray, List.getElem_cons_zero, List.getElem_cons_succ])
            refine wpAnyH_take (i := 11) (v := undef) rfl (by kernel_rfl) (by kernel_rfl) (by kernel_rfl) (fun _ _ _ h => h) (Or.inr ⟨by rfl, rfl⟩) (by assumption) ?_
            (try simp only [Act.put, List.setIfInBounds_toArray, List.set_cons_zero, List.set_cons_succ, List.getElem_toArray, List.getElem_cons_zero, List.getElem_cons_succ])
            refine wpAnyH_take (i := 12) (v := undef) rfl (by kernel_rfl) (by kernel_rfl) (by kernel_rfl) (fun _ _ _ h => h) (Or.inr ⟨by rfl, rfl⟩) (by assumption) ?_
            (try simp only [Act.put, List.setIfInBounds_toArray, List.set_cons_zero, List.set_cons_succ, List.getElem_toArray, List.getElem_cons_zero, List.getElem_cons_succ])
            refine wpAnyH_take (i := 13) (v := undef) rfl (by kernel_rfl) (by kernel_rfl) (by kernel_rfl) (fun _ _ _ h => h) (Or.inr ⟨by rfl, rfl⟩) (by assumption) ?_
            (try simp only [Act.put, List.setIfInBounds_toArray, List.set_cons_zero, List.set_cons_succ, List.getElem_toArray, List.getElem_cons_zero, List.getElem_cons_succ])
            refine wpAnyH_take (i := 14) (v := undef) rfl (by kernel_rfl) (by kernel_rfl) (by kernel_rfl) (fun _ _ _ h => h) (Or.inr ⟨by rfl, rfl⟩) (by assumption) ?_
            (try simp only [Act.put, List.setIfInBounds_toArray, List.set_cons_zero, List.set_cons_succ, List.getElem_toArray, List.getElem_cons_zero, List.getElem_cons_succ])
            refine wpAnyH_take (i := 15) (v := undef) rfl (by kernel_rfl) (by kernel_rfl) (by kernel_rfl) (fun _ _ _ h => h) (Or.inr ⟨by rfl, rfl⟩) (by assumption) ?_
            (try simp only [Act.put, List.setIfInBounds_toArray, List.set_cons_zero, List.set_cons_succ, List.getElem_toArray, List.getElem_cons_zero, List.getElem_cons_succ])
            refine wpAnyH_take (i := 16) (v := ?v33) rfl (by kernel_rfl) (by kernel_rfl) (by kernel_rfl) (fun _ _ _ h => h) (Or.inl ⟨by rfl, ?hy33⟩) (by assumption) ?rest33
            case hy33 => intro w' hSw; (try dsimp only at hSw); go_simp; try with_reducible rfl
            (try simp only [Act.put, List.setIfInBounds_toArray, List.set_cons_zero, List.set_cons_succ, List.getElem_toArray, List.getElem_cons_zero, List.getElem_cons_succ])
            refine wpAnyH_take (i := 17) (v := ?v34) rfl (by kernel_rfl) (by kernel_rfl) (by kernel_rfl) (fun _ _ _ h => h) (Or.inl ⟨by rfl, ?hy34⟩) (by assumption) ?rest34
            case hy34 => intro w' hSw; (try dsimp only at hSw); go_simp; try with_reducible rfl
            (try simp only [Act.put, List.setIfInBounds_toArray, List.set_cons_zero, List.set_cons_succ, List.getElem_toArray, List.getElem_cons_zero, List.getElem_cons_succ])
            refine wpAnyH_done (by kernel_rfl) ?_ _
            go_wp2_with fail
            go_roundw
            case rel => exact ⟨k + 1, T, Ss, z, keys, was, tx, mk, A9, c9, A10, c10, by rw [hu9.out], rfl, rfl, rfl, rfl, by go_num, hlt9.out, R9.out, Q9.out⟩
            case measure => simp [intOf]; have := hlt9.out; omega
          | true =>
            as_aux_lemma =>
            have hu9 : Hid (z.under = true) := hid hu0
            obtain rfl : keys.map (frozK z) = was := by obtain ⟨t0, hw0, _⟩ := Q.out.fz hu0; exact hw0.is
            clear hu0
            simp only [List.length_map]
            go_upto_region 44 with fail
            refine wp_region_held_drew (S := fun _ => True) (by kernel_rfl) ?_ (fun hHeld => ?_)
            · exact True.intro
            have RD := hid (R.out.below (Below.refl _ _).drew)
            have QD := hid (Q.out.below (Below.refl _ _).drew)
            have hBD := hid (hB2.out.trans (RD.out.bel.mono hB2.out.size))
            clear R Q
            generalize World.drew wc = wd at *
            refine wpAnyH_take (i := 0) (v := ?v35) rfl (by kernel_rfl) (by kernel_rfl) (by kernel_rfl) (fun _ _ _ h => h) (Or.inl ⟨by rfl, ?hy35⟩) (by assumption) ?rest35
            case hy35 => intro w' hSw; (try dsimp only at hSw); go_simp; try with_reducible rfl
            (try simp only [Act.put, List.setIfInBounds_toArray, List.set_cons_zero, List.set_cons_succ, List.getElem_toArray, List.getElem_cons_zero, List.getElem_cons_succ])
            refine wpAnyH_take (i := 3) (v := ?v36) rfl (by kernel_rfl) (by kernel_rfl) (by kernel_rfl) (fun _ _ _ h => h) (Or.inl ⟨by rfl, ?hy36⟩) (by assumption) ?rest36
            case hy36 => intro w' hSw; (try dsimp only at hSw); go_simp; try with_reducible rfl
            (try simp only [Act.put, List.setIfInBounds_toArray, List.set_cons_zero, List.set_cons_succ, List.getElem_toArray, List.getElem_cons_zero, List.getElem_cons_succ])
            refine wpAnyH_ready (rs := [1]) (by kernel_rfl) (by simp) ?_
            refine AllReadyH.cons rfl (fun K hK => ?_) AllReadyH.nil
            go_simp
            refine (zbytes_any RD.out.a (hE.out.below hBD.out) RD.out.rz.2.2).mono ?_
            rintro e w8x ⟨A8x, n8x, d8x, rfl, hcvR, hbR⟩
            have hcv8x := hid hcvR
            have hb8x := hid hbR
            clear hcvR hbR
            have hB8x := hid ((hBD.out).trans (hb8x.out.mono (hBD.out).size))
            refine hK.out _ _ ?_ (fun hHeld => ?_)
            · exact True.intro
            clear hK K
            (try simp only [Act.put, List.setIfInBounds_toArray, List.set_cons_zero, List.set_cons_succ, List.getElem_toArray, List.getElem_cons_zero, List.getElem_cons_succ])
            refine wpAnyH_more (S' := fun w'' => Below w8x.heap.size w8x w'') (fun _ _ => True.intro) _ _ _ _ ?_
            have hHeld := Below.refl w8x.heap.size w8x
            refine wpAnyH_take (i := 2) (v := ?v37) rfl (by kernel_rfl) (by kernel_rfl) (by kernel_rfl) (fun _ _ _ h => h) (Or.inl ⟨by rfl, ?hy37⟩) (by assumption) ?rest37
            case hy37 => intro w' hSw; have hq := hcv8x.out w' hSw; (try dsimp only at hSw); go_simp; try with_reducible rfl
            (try simp only [Act.put, List.setIfInBounds_toArray, List.set_cons_zero, List.set_cons_succ, List.getElem_toArray, List.getElem_cons_zero, List.getElem_cons_succ])
            refine wpAnyH_ready (rs := [4]) (by kernel_rfl) (by simp) ?_
            refine AllReadyH.cons rfl (fun K hK => ?_) AllReadyH.nil
            go_simp
            refine (bytes_textB (RD.out.b.below hb8x.out) (hE.out.below hB8x.out) RD.out.rz.2.2).mono ?_
            rintro e w9x ⟨A9x, n9x, d9x, rfl, hcvR, hbR⟩
            have hcv9x := hid hcvR
            have hb9x := hid hbR
            clear hcvR hbR
            have hB9x := hid ((hB8x.out).trans (hb9x.out.mono (hB8x.out).size))
            refine hK.out _ _ ?_ (fun hHeld => ?_)
            · exact hb9x.out
            clear hK K
            (try simp only [Act.put, List.setIfInBounds_toArray, List.set_cons_zero, List.set_cons_succ, List.getElem_toArray, List.getElem_cons_zero, List.getElem_cons_succ])
            refine wpAnyH_more (S' := fun w'' => Below w9x.heap.size w9x w'') (fun w h => hb9x.out.trans (Below.mono h hb9x.out.size)) _ _ _ _ ?_
            have hHeld := Below.refl w9x.heap.size w9x
            refine wpAnyH_take (i := 5) (v := ?v38) rfl (by kernel_rfl) (by kernel_rfl) (by kernel_rfl) (fun _ _ _ h => h) (Or.inl ⟨by rfl, ?hy38⟩) (by assumption) ?rest38
            case hy38 => intro w' hSw; have hq := hcv9x.out w' hSw; (try dsimp only at hSw); go_simp; try with_reducible rfl
            (try simp only [Act.put, List.setIfInBounds_toArray, List.set_cons_zero, List.set_cons_succ, List.getElem_toArray, List.getElem_cons_zero, List.getElem_cons_succ])
            have R9 := hid ((RD.out.below hb8x.out).below hb9x.out)
            have Q9 := hid ((QD.out.below hb8x.out).below hb9x.out)
            clear RD QD hcv8x hcv9x
            generalize btS z.s = bb at *
            refine wpAnyH_take (i := 6) (v := ?v39) rfl (by kernel_rfl) (by kernel_rfl) (by kernel_rfl) (fun _ _ _ h => h) (Or.inl ⟨by rfl, ?hy39⟩) (by assumption) ?rest39
            case hy39 => intro w' hSw; (try dsimp only at hSw); go_simp; try with_reducible rfl
            (try simp only [Act.put, List.setIfInBounds_toArray, List.set_cons_zero, List.set_cons_succ, List.getElem_toArray, List.getElem_cons_zero, List.getElem_cons_succ])
            refine wpAnyH_take (i := 7) (v := ?v40) rfl (by kernel_rfl) (by kernel_rfl) (by kernel_rfl) (fun _ _ _ h => h) (Or.inl ⟨by rfl, ?hy40⟩) (by assumption) ?rest40
            case hy40 => intro w' hSw; (try dsimp only at hSw); go_simp; try with_reducible rfl
            (try simp only [Act.put, List.setIfInBounds_toArray, List.set_cons_zero, List.set_cons_succ, List.getElem_toArray, List.getElem_cons_zero, List.getElem_cons_succ])
            refine wpAnyH_take (i := 8) (v := ?v41) rfl (by kernel_rfl) (by kernel_rfl) (by kernel_rfl) (fun _ _ _ h => h) (Or.inl ⟨by rfl, ?hy41⟩) (by assumption) ?rest41
            case hy41 => intro w' hSw; (try dsimp only at hSw); go_simp; try with_reducible rfl
            (try simp only [Act.put, List.setIfInBounds_toArray, List.set_cons_zero, List.set_cons_succ, List.getElem_toArray, List.getElem_cons_zero, List.getElem_cons_succ])
            refine wpAnyH_take (i := 9) (v := ?v42) rfl (by kernel_rfl) (by kernel_rfl) (by kernel_rfl) (fun _ _ _ h => h) (Or.inl ⟨by rfl, ?hy42⟩) (by assumption) ?rest42
            case hy42 => intro w' hSw; (try dsimp only at hSw); go_simp; try with_reducible rfl
            (try simp only [Act.put, List.setIfInBounds_toArray, List.set_cons_zero, List.set_cons_succ, List.getElem_toArray, List.getElem_cons_zero, List.getElem_cons_succ])
            refine wpAnyH_take (i := 10) (v := ?v43) rfl (by kernel_rfl) (by kernel_rfl) (by kernel_rfl) (fun _ _ _ h => h) (Or.inl ⟨by rfl, ?hy43⟩) (by assumption) ?rest43
            case hy43 => intro w' hSw; (try dsimp only at hSw); go_simp; try with_reducible rfl
            (try simp only [Act.put, List.setIfInBounds_toArray, List.set_cons_zero, List.set_cons_succ, List.getElem_toArray, List.getElem_cons_zero, List.getElem_cons_succ])
            refine wpAnyH_take (i := 11) (v := ?v44) rfl (by kernel_rfl) (by kernel_rfl) (by kernel_rfl) (fun _ _ _ h => h) (Or.inl ⟨by rfl, ?hy44⟩) (by assumption) ?rest44
            case hy44 => intro w' hSw; (try dsimp only at hSw); go_simp; try with_reducible rfl
            (try simp only [Act.put, List.setIfInBounds_toArray, List.set_cons_zero, List.set_cons_succ, List.getElem_toArray, List.getElem_cons_zero, List.getElem_cons_succ])
            refine wpAnyH_take (i := 13) (v := ?v45) rfl (by kernel_rfl) (by kernel_rfl) (by kernel_rfl) (fun _ _ _ h => h) (Or.inl ⟨by rfl, ?hy45⟩) (by assumption) ?rest45
            case hy45 => intro w' hSw; (try dsimp only at hSw); go_simp; try with_reducible rfl
            (try simp only [Act.put, List.setIfInBounds_toArray, List.set_cons_zero, List.set_cons_succ, List.getElem_toArray, List.getElem_cons_zero, List.getElem_cons_succ])
            refine wpAnyH_ready (rs := [12]) (by kernel_rfl) (by simp) ?_
            refine AllReadyH.cons rfl (fun K hK => ?_) AllReadyH.nil
            rw [if_pos (by rfl)]
            go_simp
            refine (frozen_any (c := c9) keys R9.out.a Q9.out.k Q9.out.len).mono ?_
            rintro e w10 ⟨A19, c19, rfl, ho, hbR⟩
            have hb10 := hid hbR
            have R10 := hid (R9.out.below hbR)
            have Q10 := hid (Q9.out.below hbR)
            have nw := hid (Rd.of_own ho).all
            clear ho hbR R9 Q9
            refine hK.out _ _ ?_ (fun hHeld => ?_)
            · exact hb10.out
            clear hK K
            (try simp only [Act.put, List.setIfInBounds_toArray, List.set_cons_zero, List.set_cons_succ, List.getElem_toArray, List.getElem_cons_zero, List.getElem_cons_succ])
            refine wpAnyH_ready (rs := [14]) (by kernel_rfl) (by simp) ?_
            refine AllReadyH.cons rfl (fun K hK => ?_) AllReadyH.nil
            rw [if_pos (by rfl)]
            go_simp
            have hsm := hid (show Calls Tryd.prog 26 #[.slice A19 keys.length c19, .slice A10 keys.length c10] w10 fun e w' => e = .returned (.bool true) ∧ Below w10.heap.size w10 w' from by
              have h9 := same_eq (c := c19) (d := c10) (keys.map (frozK z)) (by rw [List.length_map]; exact nw.out) Q10.out.w (by rw [List.length_map]; exact Q10.out.len)
              rw [List.length_map] at h9
              exact h9)
            refine hsm.out.mono ?_
            rintro e w11 ⟨rfl, hbR⟩
            have hb11 := hid (hb10.out.trans (hbR.mono hb10.out.size))
            have R11 := hid (R10.out.below hbR)
            have Q11 := hid (Q10.out.below hbR)
            clear hbR R10 Q10 nw hsm
            refine hK.out _ _ ?_ (fun hHeld => ?_)
            · exact hb11.out
            clear hK K
            (try simp only [Act.put, List.setIfInBounds_toArray, List.set_cons_zero, List.set_cons_succ, List.getElem_toArray, List.getElem_cons_zero, List.getElem_cons_succ])
            refine wpAnyH_take (i := 15) (v := ?v46) rfl (by kernel_rfl) (by kernel_rfl) (by kernel_rfl) (fun _ _ _ h => h) (Or.inl ⟨by rfl, ?hy46⟩) (by assumption) ?rest46
            case hy46 => intro w' hSw; (try dsimp only at hSw); go_simp; try with_reducible rfl
            (try simp only [Act.put, List.setIfInBounds_toArray, List.set_cons_zero, List.set_cons_succ, List.getElem_toArray, List.getElem_cons_zero, List.getElem_cons_succ])
            refine wpAnyH_take (i := 16) (v := ?v47) rfl (by kernel_rfl) (by kernel_rfl) (by kernel_rfl) (fun _ _ _ h => h) (Or.inl ⟨by rfl, ?hy47⟩) (by assumption) ?rest47
            case hy47 => intro w' hSw; (try dsimp only at hSw); go_simp; try with_reducible rfl
            (try simp only [Act.put, List.setIfInBounds_toArray, List.set_cons_zero, List.set_cons_succ, List.getElem_toArray, List.getElem_cons_zero, List.getElem_cons_succ])
            refine wpAnyH_take (i := 17) (v := ?v48) rfl (by kernel_rfl) (by kernel_rfl) (by kernel_rfl) (fun _ _ _ h => h) (Or.inl ⟨by rfl, ?hy48⟩) (by assumption) ?rest48
            case hy48 => intro w' hSw; (try dsimp only at hSw); go_simp; try with_reducible rfl
            (try simp only [Act.put, List.setIfInBounds_toArray, List.set_cons_zero, List.set_cons_succ, List.getElem_toArray, List.getElem_cons_zero, List.getElem_cons_succ])
            refine wpAnyH_done (by kernel_rfl) ?_ _
            go_wp2_with fail
            go_roundw
            case rel => exact ⟨k + 1, T, Ss, z, keys, keys.map (frozK z), tx, mk, A9, c9, A10, c10, by rw [hu9.out], rfl, rfl, by rw [List.length_map], rfl, by go_num, hlt9.out, R11.out, Q11.out⟩
            case measure => simp [intOf]; have := hlt9.out; omega
    · obtain rfl : k = us.length := by omega
      clear hlt hkl
      generalize us.length = n9 at *
      cases hu0 : z.under with
      | false =>
        as_aux_lemma =>
        clear hu0
        go_wp2_with fail
        refine (live_any _ (hE.out.below (hB2.out.trans (R.out.bel.mono hB2.out.size)))).mono ?_
        rintro e wv ⟨rfl, hbv⟩
        have hfb := hid (((hB2.out.trans (R.out.bel.mono hB2.out.size))).trans (hbv.mono ((hB2.out.trans (R.out.bel.mono hB2.out.size))).size))
        clear hbv
        go_wp2_with fail
        go_ret
        exact ⟨rfl, hfb.out⟩
      | true =>
        as_aux_lemma =>
        obtain ⟨t0, hw0, htx0⟩ := Q.out.fz hu0
        have hca := hid (step_all hw0 hu0)
        have hmk := hid (hw0.step keys.length).mark
        have hkp := hid ((hw0.step keys.length).kept.kept (can_left hca.out))
        have htx := hid htx0
        have hzs := hid (zstep_any (keys.length : Int) R.out.a)
        clear hu0 hw0 htx0
        go_wp2_with fail
        refine hzs.out.mono ?_
        rintro e w6 ⟨rfl, hgo⟩
        obtain ⟨T', R60, _, _, _⟩ := R.out.goA (⟨Rd.nil_, Rd.nil_, Rd.nil_, by simp, fun _ => ⟨by simp, rfl, rfl⟩⟩ : FRows wr T Ss z [] [] [] none none none) hgo (rngz_step R.out.rz _) (fun _ => ⟨by simp, rfl, rfl⟩)
        have R6 := hid R60
        clear hgo R60 R hzs Q
        generalize z.step keys.length = z6 at *
        have htk := hid (ztake_any R6.out.a (fun W hW => (hE.out.below ((hB2.out.trans (R6.out.bel.mono hB2.out.size)).trans (hW.below (hB2.out.trans (R6.out.bel.mono hB2.out.size)).size fun q hq e => by have := R6.out.ge.1 q e; have := hB2.out.size; omega)))) R6.out.rz)
        go_wp2_with fail
        refine htk.out.mono ?_
        rintro e w7 ⟨hgo, mk6, A12, n12, c12, rfl, hy6, hn6⟩
        rw [hca.out]
        obtain ⟨hm6, hn6', hr6⟩ := hy6 hca.out
        have hm7 : mk6 = mk := hm6.trans hmk.out.symm
        clear hm6
        obtain rfl := hm7
        have hcx : Hid (∀ W, Below w7.heap.size w7 W → (convert 22 9 (.slice A12 n12 c12)).run Tryd.prog W = .ok (.string tx) W) := hid fun W hW => by
          have h9 := convB (c := c12) (hr6.below_all hW) (by rw [hn6']; simp)
          rw [h9, htx.out, ← hkp.out]
          rfl
        obtain ⟨T7, R70, _, _, _⟩ := R6.out.goA (⟨Rd.nil_, Rd.nil_, Rd.nil_, by simp, fun _ => ⟨by simp, rfl, rfl⟩⟩ : FRows w6 T' Ss z6 [] [] [] none none none) hgo (rngz_take R6.out.rz) (fun _ => ⟨by simp, rfl, rfl⟩)
        have R7 := hid R70
        have hT9 : Hid (z6.take.under = false) := hid (by unfold Zg.take; rw [if_pos hca.out])
        clear hgo R70 R6 htk hr6 hn6' hmk hy6 hn6
        generalize z6.take = z7 at *
        go_upto_region 49 with fail
        have hAL : Hid (Below w7.heap.size w7 (w7.alloc (.cells #[.int .i64 mk6, .slice A12 n12 c12] 43))) := hid ((Below.refl _ _).alloc (Nat.le_refl _) _)
        have k7 := hid (Blk.new w7 43 #[.int .i64 mk6, .slice A12 n12 c12])
        have R8 := hid (R7.out.below hAL.out)
        have hcv := hid (hcx.out _ hAL.out)
        have hrs : ∀ W, W = w7.alloc (.cells #[.int .i64 mk6, .slice A12 n12 c12] 43) → Hid (Calls Tryd.prog 29 #[.pointer (some ⟨g1, 0, none⟩)] W fun e w' => e = .returned (.int .i64 0) ∧ w' = W) := fun W hW => hid (by
          have h9 := zrest_any R8.out.a
          rw [if_neg (by rw [hT9.out]; decide)] at h9
          rw [hW]
          exact h9)
        have hrs := hrs _ rfl
        clear hAL R7 hcx
        generalize w7.alloc (.cells #[.int .i64 mk6, .slice A12 n12 c12] 43) = w8 at *
        generalize w7.heap.size = m7 at *
        have z0 : w8.cell? ⟨m7, 0, none⟩ = some (.int .i64 mk6) := k7.out.cell 0
        have z1 : w8.cell? ⟨m7, 1, none⟩ = some (.slice A12 n12 c12) := k7.out.cell 1
        have hcv := hcv.out
        go_wp2_with fail
        refine hrs.out.mono ?_
        rintro e wq ⟨rfl, hwq⟩
        obtain rfl := hwq.symm
        go_wp2_with fail
        refine (live_any _ (hE.out.below (hB2.out.trans (R8.out.bel.mono hB2.out.size)))).mono ?_
        rintro e wv ⟨rfl, hbv⟩
        have hfb := hid (((hB2.out.trans (R8.out.bel.mono hB2.out.size))).trans (hbv.mono ((hB2.out.trans (R8.out.bel.mono hB2.out.size))).size))
        clear hbv
        go_wp2_with fail
        go_ret
        exact ⟨rfl, hfb.out⟩
end
end Go.Proofs.YtefigpmkiemfhaaDoor

namespace Go.Proofs.YtefigpmkiemfhaaDoor
open Go.RowKit Go.Deep Go.ChangeShapes
set_option linter.unusedVariables false

theorem bulk_app {H : Type} (l r : List (DataW H)) : Rows.uptoBulkAll (l ++ r) = Rows.uptoBulkAll l + Rows.uptoBulkAll r := by
  induction l with
  | nil => simp [Rows.uptoBulkAll]
  | cons x l ih => simp only [List.cons_append, Rows.uptoBulkAll, ih]; omega
theorem cell_lt {w : World} {a : Addr} {v : Value} (h : w.cell? a = some v) : a.block < w.heap.size := by
  by_cases hl : a.block < w.heap.size
  · exact hl
  · exfalso
    have : w.heap[a.block]? = none := by simp; omega
    unfold World.cell? at h
    split at h <;> simp_all
theorem add_plain (b o j : Nat) : (⟨b, o, none⟩ : Addr).add j = ⟨b, o + j, none⟩ := by
  unfold Addr.add; split <;> simp_all
theorem flat_len {α : Type} (f : α → List Value) (sz : Nat) (hf : ∀ a, (f a).length = sz) (us : List α) : (us.flatMap f).length = us.length * sz := by
  induction us with
  | nil => simp
  | cons r l ih => rw [List.flatMap_cons, List.length_append, hf, ih, List.length_cons, Nat.succ_mul]; omega
/-- rows chosen one by one -/
theorem pick {α H : Type} (D : Nat → DataW H) (μ : α → Nat) (R : Nat → α → Prop) : ∀ len : Nat, (∀ i, i < len → ∃ a, R i a ∧ μ a ≤ Rows.uptoBulk (D i)) →
    ∃ us : List α, us.length = len ∧ (∀ i (h : i < us.length), R i us[i]) ∧ (us.map μ).sum ≤ Rows.uptoBulkAll ((List.range len).map D) := by
  intro len
  induction len with
  | zero => intro _; exact ⟨[], rfl, fun i h => absurd h (by simp), by simp⟩
  | succ n ih =>
    intro h
    obtain ⟨us, hl, hR, hs⟩ := ih fun i hi => h i (by omega)
    obtain ⟨a, ha, hm⟩ := h n (by omega)
    refine ⟨us ++ [a], by simp [hl], fun i hi => ?_, ?_⟩
    · by_cases hin : i < us.length
      · rw [List.getElem_append_left hin]; exact hR i hin
      · have : i = us.length := by simp at hi; omega
        subst this
        rw [List.getElem_append_right (by omega)]
        simpa [hl] using ha
    · rw [List.range_succ, List.map_append (f := D), bulk_app]
      simp only [List.map_append, List.sum_append, List.map_cons, List.map_nil, List.sum_cons, List.sum_nil, Rows.uptoBulkAll]
      omega

/-- a slice's cells, element by element -/
theorem open_rows {α H : Type} {enc : TypeId × Value → H} {w : World} {base : Nat} {spare : Nat → Bool} {held : Bool} {t e : TypeId} {fuel : Nat} {cs : List Value} {x : DataW H × List MemPlace}
    (cf : α → List Value) (μ : α → Nat) (ok : α → Prop) (sz : Nat) (hsz : 0 < sz) (hcf : ∀ a, (cf a).length = sz) (ht : Tryd.prog.underlying t = some (.slice e)) (hce : Tryd.prog.cellsOf e = sz)
    (hE : ∀ n cs' y, DataW.trod enc Tryd.prog w base spare held n e cs' = some y → ∃ a, cs' = cf a ∧ ok a ∧ μ a ≤ Rows.uptoBulk y.1)
    (h : DataW.trod enc Tryd.prog w base spare held fuel t cs = some x) :
    ∃ (A : Option Addr) (us : List α) (c : Nat), cs = [.slice A us.length c] ∧ Rd (fun b => b < w.heap.size) w sz A us.length (us.flatMap cf) ∧ (∀ a ∈ us, ok a) ∧ (us.map μ).sum + 1 ≤ Rows.uptoBulk x.1 := by
  rcases open_slice ht h with ⟨rfl, rfl⟩ | ⟨a, len, cap, m, n, D, Pl, rfl, hb, hl, hm, hmm, rfl, hx⟩
  · exact ⟨none, [], 0, rfl, Rd.nil_, by simp, by simp [Rows.uptoBulk]⟩
  · have hlm : len ≤ m := by rw [hmm]; split <;> omega
    obtain ⟨us, hal, hR, hs⟩ := pick D μ (fun i r => ok r ∧ ∃ cs', cs' = cf r ∧ w.cells? base (a.add (i * sz)) sz = some cs') len (fun i hi => by
      obtain ⟨cs', h1, h2⟩ := hx i (by omega)
      rw [hce] at h1
      obtain ⟨r, e1, e2, e3⟩ := hE _ _ _ h2
      exact ⟨r, ⟨e2, cs', e1, h1⟩, e3⟩)
    refine ⟨some a, us, cap, by rw [hal], ⟨?_, fun h0 => ?_⟩, fun r hr => ?_, ?_⟩
    · exact flat_len cf sz hcf us
    · obtain ⟨_, cs0, e1, e2⟩ := hR 0 h0
      obtain ⟨_, h3, h4⟩ := World.cells?_some e2
      have h5 := h4 0 hsz
      rw [List.getElem?_eq_getElem (by omega)] at h5
      simp at h5
      obtain ⟨b, o, sp⟩ := a
      have h8 : sp = none := by have := World.cell?_spot h5; simpa [Addr.add] using this
      have h9 : b < w.heap.size := by have := cell_lt h5; simpa [Addr.add] using this
      subst h8
      refine ⟨b, o, rfl, h9, h9, fun j u hu => ?_⟩
      have hj : j / sz < us.length := by
        have h1 := (List.getElem?_eq_some_iff.1 hu).1
        rw [flat_len cf sz hcf] at h1
        exact Nat.div_lt_of_lt_mul (by rw [Nat.mul_comm]; exact h1)
      have hjm := Nat.mod_lt j hsz
      have hdm : j / sz * sz + j % sz = j := by rw [Nat.mul_comm]; exact Nat.div_add_mod j sz
      obtain ⟨_, cs1, f1, f2⟩ := hR _ hj
      obtain ⟨_, f3, f4⟩ := World.cells?_some f2
      have f5 := f4 _ hjm
      rw [add_plain, add_plain, Nat.add_assoc, hdm] at f5
      rw [← hdm, aflat_at cf sz hcf us _ _ hj hjm, ← f1, ← f5] at hu
      exact hu
    · obtain ⟨i, hi, rfl⟩ := List.mem_iff_getElem.1 hr
      exact (hR i hi).1
    · simp only [Rows.uptoBulk]; omega

end Go.Proofs.YtefigpmkiemfhaaDoor

namespace Go.Proofs.YtefigpmkiemfhaaDoor
open Go.RowKit Go.Deep Go.ChangeShapes
set_option linter.unusedVariables false
set_option linter.unusedSimpArgs false

theorem cof_int : Tryd.prog.cellsOf 3 = 1 := by kernel_rfl
theorem cof_i64 : Tryd.prog.cellsOf 2 = 1 := by kernel_rfl
theorem cof_bool : Tryd.prog.cellsOf 4 = 1 := by kernel_rfl
theorem cof_str : Tryd.prog.cellsOf 9 = 1 := by kernel_rfl
theorem cof_strs : Tryd.prog.cellsOf 26 = 1 := by kernel_rfl
theorem cof_val : Tryd.prog.cellsOf 47 = 3 := by kernel_rfl
theorem cof_wr : Tryd.prog.cellsOf 67 = 5 := by kernel_rfl
theorem cof_wrs : Tryd.prog.cellsOf 34 = 1 := by kernel_rfl
/-- an int64's range -/
def rng64 (n : Int) : Prop := -9223372036854775808 ≤ n ∧ n ≤ 9223372036854775807
theorem rng_wf {n : Int} (h : (Lit.int IntKind.i64 n).wf = true) : rng64 n := by
  unfold Lit.wf at h
  simp at h
  obtain ⟨h1, h2⟩ := h
  simp only [IntKind.min, IntKind.max] at h1 h2
  exact ⟨h1, h2⟩
def muK (k : ByteArray) : Nat := k.size + 1
def muW (x : Wr) : Nat := x.key.size + x.v.s.size + 2
def muA (a : SA) : Nat := (a.ks.map muK).sum + (a.ws.map muW).sum + 3
section
variable {α : Type}
theorem sum_mem {f : α → Nat} : ∀ {l : List α} {a : α}, a ∈ l → f a ≤ (l.map f).sum
  | b :: l, a, h => by
    rw [List.map_cons, List.sum_cons]
    rcases List.mem_cons.1 h with rfl | h
    · omega
    · have := sum_mem (f := f) h; omega
theorem sum_mono {f h : α → Nat} (hf : ∀ a, f a ≤ h a) : ∀ l : List α, (l.map f).sum ≤ (l.map h).sum
  | [] => Nat.le_refl _
  | b :: l => by
    rw [List.map_cons, List.sum_cons, List.map_cons, List.sum_cons]
    have := sum_mono hf l; have := hf b; omega
theorem sum_len {f : α → Nat} (hf : ∀ a, 1 ≤ f a) : ∀ l : List α, l.length ≤ (l.map f).sum
  | [] => Nat.le_refl _
  | b :: l => by
    rw [List.map_cons, List.sum_cons, List.length_cons]
    have := sum_len hf l; have := hf b; omega
end
theorem muK_one (k : ByteArray) : 1 ≤ muK k := by unfold muK; omega
theorem muW_one (x : Wr) : 1 ≤ muW x := by unfold muW; omega
theorem muA_part (a : SA) : partA a + 3 ≤ muA a := by
  have h1 := sum_len muK_one a.ks
  have h2 := sum_len muW_one a.ws
  unfold partA muA
  omega
theorem muA_ok {a : SA} (h : muA a ≤ 1048576) : okKs a.ks ∧ okWs a.ws := by
  unfold muA at h
  refine ⟨fun k hk => ?_, fun x hx => ?_⟩
  · have := sum_mem (f := muK) hk
    unfold muK at this h
    omega
  · have := sum_mem (f := muW) hx
    have : muW x ≤ 1048576 := by omega
    unfold muW at this
    constructor <;> omega
theorem story_fits {us : List SA} (h : (us.map muA).sum ≤ 1048576) : us.length ≤ 1048576 ∧ partsA us ≤ 1048576 ∧ ∀ a ∈ us, okKs a.ks ∧ okWs a.ws := by
  have h1 := sum_len (f := muA) (fun a => by have := muA_part a; omega) us
  have h2 := sum_mono (f := partA) (h := muA) (fun a => by have := muA_part a; omega) us
  refine ⟨by omega, by unfold partsA; omega, fun a ha => muA_ok ?_⟩
  have := sum_mem (f := muA) ha
  omega
section
variable {H : Type} {enc : TypeId × Value → H} {w : World} {base : Nat} {spare : Nat → Bool} {held : Bool} {fuel : Nat} {cs : List Value} {x : DataW H × List MemPlace}

theorem fieldAt {fs : Array Field} {xs : List (DataW H × List MemPlace)} {n : Nat} (hf : ∀ (i : Nat) (f : Field), fs[i]? = some f → DataW.trod enc Tryd.prog w base spare held n f.type ((cs.drop f.offset).take (Tryd.prog.cellsOf f.type)) = xs[i]?) (i : Nat) {f : Field} (T : TypeId) (o k : Nat) {y : DataW H × List MemPlace}
    (hi : fs[i]? = some f) (hT : f.type = T) (ho : f.offset = o) (hc : Tryd.prog.cellsOf T = k) (hx : xs[i]? = some y) : DataW.trod enc Tryd.prog w base spare held n T ((cs.drop o).take k) = some y := by
  have := hf i f hi
  rw [hT, ho, hc, hx] at this
  exact this
set_option maxRecDepth 100000 in
theorem open_vl (h : DataW.trod enc Tryd.prog w base spare held fuel 47 cs = some x) : ∃ v : Vl, cs = [.int .i64 v.k, .int .i64 v.n, .string v.s] ∧ v.s.size + 1 ≤ Rows.uptoBulk x.1 ∧ rng64 v.n := by
  obtain ⟨xs, n, _, rfl, hl, hlen, hf⟩ := DataW.trod_struct Tryd.underlying47 h
  rw [cof_val] at hl
  match cs, hl, xs, hlen with
  | [c0, c1, c2], _, [y0, y1, y2], _ =>
    have h0 := fieldAt hf 0 3 0 1 (y := y0) rfl rfl rfl cof_int rfl
    have h1 := fieldAt hf 1 2 1 1 (y := y1) rfl rfl rfl cof_i64 rfl
    have h2 := fieldAt hf 2 9 2 1 (y := y2) rfl rfl rfl cof_str rfl
    obtain ⟨k, e0, r0, _⟩ := DataW.trod_int Tryd.underlying3 (x := y0) h0
    obtain ⟨i, e1, r1, w1⟩ := DataW.trod_int Tryd.underlying2 (x := y1) h1
    obtain ⟨s, e2, r2, _⟩ := DataW.trod_string Tryd.underlying9 (x := y2) h2
    simp at e0 e1 e2
    subst e0 e1 e2
    refine ⟨⟨k, i, s⟩, rfl, ?_, rng_wf w1⟩
    rw [r2]
    simp only [Rows.uptoBulk, Rows.uptoBulkAll, List.map_cons, List.map_nil]
    have : s.data.toList.length = s.size := Array.length_toList
    omega
set_option maxRecDepth 100000 in
theorem open_texts (h : DataW.trod enc Tryd.prog w base spare held fuel 26 cs = some x) :
    ∃ (A : Option Addr) (l : List ByteArray) (c : Nat), cs = [.slice A l.length c] ∧ Rd (fun b => b < w.heap.size) w 1 A l.length (strs l) ∧ (l.map muK).sum + 1 ≤ Rows.uptoBulk x.1 := by
  obtain ⟨A, l, c, e, hr, ho, hb⟩ := open_rows (α := ByteArray) (fun s => [Value.string s]) muK (fun _ => True) 1 (by omega) (fun _ => rfl) Tryd.underlying26 cof_str (fun n cs' y hy => by
    obtain ⟨s, e, r, _⟩ := DataW.trod_string Tryd.underlying9 hy
    refine ⟨s, e, trivial, ?_⟩
    rw [r]
    simp only [Rows.uptoBulk, muK]
    have : s.data.toList.length = s.size := Array.length_toList
    omega) h
  refine ⟨A, l, c, e, ?_, by omega⟩
  have : l.flatMap (fun s => [Value.string s]) = strs l := by
    clear hr hb e ho
    induction l with
    | nil => rfl
    | cons a l ih => rw [List.flatMap_cons, ih]; rfl
  rw [← this]; exact hr
set_option maxRecDepth 100000 in
theorem open_write (h : DataW.trod enc Tryd.prog w base spare held fuel 67 cs = some x) : ∃ y : Wr, cs = [.string y.key, .bool y.gone, .int .i64 y.v.k, .int .i64 y.v.n, .string y.v.s] ∧ muW y ≤ Rows.uptoBulk x.1 ∧ rng64 y.v.n := by
  obtain ⟨xs, n, _, rfl, hl, hlen, hf⟩ := DataW.trod_struct Tryd.underlying67 h
  rw [cof_wr] at hl
  match cs, hl, xs, hlen with
  | [c0, c1, c2, c3, c4], _, [y0, y1, y2], _ =>
    have h0 := fieldAt hf 0 9 0 1 (y := y0) rfl rfl rfl cof_str rfl
    have h1 := fieldAt hf 1 4 1 1 (y := y1) rfl rfl rfl cof_bool rfl
    have h2 := fieldAt hf 2 47 2 3 (y := y2) rfl rfl rfl cof_val rfl
    obtain ⟨k, e0, r0, _⟩ := DataW.trod_string Tryd.underlying9 (x := y0) h0
    obtain ⟨gn, e1, r1, _⟩ := DataW.trod_bool Tryd.underlying4 (x := y1) h1
    obtain ⟨v, e2, r2, hv⟩ := open_vl (x := y2) h2
    simp at e0 e1 e2
    obtain ⟨f1, f2, f3⟩ := e2
    subst e0 e1 f1 f2 f3
    refine ⟨⟨k, gn, v⟩, rfl, ?_, hv⟩
    simp only [Rows.uptoBulk, Rows.uptoBulkAll, List.map_cons, List.map_nil, muW]
    rw [r0]
    simp only [Rows.uptoBulk]
    have : k.data.toList.length = k.size := Array.length_toList
    omega
set_option maxRecDepth 100000 in
theorem open_writes (h : DataW.trod enc Tryd.prog w base spare held fuel 34 cs = some x) :
    ∃ (A : Option Addr) (l : List Wr) (c : Nat), cs = [.slice A l.length c] ∧ Rd (fun b => b < w.heap.size) w 5 A l.length (wrCells l) ∧ (l.map muW).sum + 1 ≤ Rows.uptoBulk x.1 ∧ ∀ x ∈ l, rng64 x.v.n := by
  obtain ⟨A, l, c, e, hr, ho, hb⟩ := open_rows (α := Wr) (fun x => [.string x.key, .bool x.gone, .int .i64 x.v.k, .int .i64 x.v.n, .string x.v.s]) muW (fun x => rng64 x.v.n) 5 (by omega) (fun _ => rfl) Tryd.underlying34 cof_wr (fun n cs' y hy => by
    obtain ⟨s, e, r, hv⟩ := open_write hy
    exact ⟨s, e, hv, r⟩) h
  exact ⟨A, l, c, e, hr, hb, ho⟩
end
end Go.Proofs.YtefigpmkiemfhaaDoor

namespace Go.Proofs.YtefigpmkiemfhaaDoor
open Go.RowKit Go.Deep Go.ChangeShapes
set_option linter.unusedVariables false
set_option linter.unusedSimpArgs false

theorem cof_u8z : Tryd.prog.cellsOf 5 = 1 := by kernel_rfl
theorem cof_bytz : Tryd.prog.cellsOf 22 = 1 := by kernel_rfl
theorem cof_actz : Tryd.prog.cellsOf 36 = 5 := by kernel_rfl
theorem cof_actsz : Tryd.prog.cellsOf 23 = 1 := by kernel_rfl
theorem cof_storyz : Tryd.prog.cellsOf 25 = 4 := by kernel_rfl
def muZ (a : ZA) : Nat := (a.ks.map muK).sum + (a.ws.map muW).sum + 5
theorem muZ_part (a : ZA) : partZ a + 5 ≤ muZ a := by
  have h1 := sum_len muK_one a.ks
  have h2 := sum_len muW_one a.ws
  unfold partZ muZ
  omega
theorem muZ_ok {a : ZA} (h : muZ a ≤ 1048576) : okKs a.ks ∧ okWs a.ws := by
  unfold muZ at h
  refine ⟨fun k hk => ?_, fun x hx => ?_⟩
  · have := sum_mem (f := muK) hk
    unfold muK at this h
    omega
  · have := sum_mem (f := muW) hx
    have : muW x ≤ 1048576 := by omega
    unfold muW at this
    constructor <;> omega
theorem storyZ_fits {us : List ZA} (h : (us.map muZ).sum ≤ 1048576) : us.length ≤ 1048576 ∧ partsZ us ≤ 1048576 ∧ ∀ a ∈ us, okKs a.ks ∧ okWs a.ws := by
  have h1 := sum_len (f := muZ) (fun a => by have := muZ_part a; omega) us
  have h2 := sum_mono (f := partZ) (h := muZ) (fun a => by have := muZ_part a; omega) us
  refine ⟨by omega, by unfold partsZ; omega, fun a ha => muZ_ok ?_⟩
  have := sum_mem (f := muZ) ha
  omega
section
variable {H : Type} {enc : TypeId × Value → H} {w : World} {base : Nat} {spare : Nat → Bool} {held : Bool} {fuel : Nat} {cs : List Value} {x : DataW H × List MemPlace}
set_option maxRecDepth 100000 in
theorem open_raw (h : DataW.trod enc Tryd.prog w base spare held fuel 22 cs = some x) : ∃ (A : Option Addr) (n c : Nat), cs = [.slice A n c] ∧ n + 1 ≤ Rows.uptoBulk x.1 := by
  obtain ⟨A, l, c, e, hr, ho, hb⟩ := open_rows (α := Int) (fun s => [Value.int .u8 s]) (fun _ => 1) (fun _ => True) 1 (by omega) (fun _ => rfl) Tryd.underlying22 cof_u8z (fun n cs' y hy => by
    obtain ⟨s, e, r, _⟩ := DataW.trod_int Tryd.underlying5 hy
    refine ⟨s, e, trivial, ?_⟩
    rw [r]
    simp only [Rows.uptoBulk]
    omega) h
  exact ⟨A, l.length, c, e, by have := sum_len (f := fun _ : Int => 1) (fun _ => Nat.le_refl _) l; omega⟩
set_option maxRecDepth 100000 in
theorem open_actZ (h : DataW.trod enc Tryd.prog w base spare held fuel 36 cs = some x) : ∃ a : ZA, cs = zcells a ∧ (a.ok (fun b => b < w.heap.size) w ∧ ∀ x ∈ a.ws, rng64 x.v.n) ∧ muZ a ≤ Rows.uptoBulk x.1 := by
  obtain ⟨xs, n, _, rfl, hl, hlen, hf⟩ := DataW.trod_struct Tryd.underlying36 h
  rw [cof_actz] at hl
  match cs, hl, xs, hlen with
  | [c0, c1, c2, c3, c4], _, [y0, y1, y2, y3, y4], _ =>
    have h0 := fieldAt hf 0 3 0 1 (y := y0) rfl rfl rfl cof_int rfl
    have h1 := fieldAt hf 1 26 1 1 (y := y1) rfl rfl rfl cof_strs rfl
    have h2 := fieldAt hf 2 34 2 1 (y := y2) rfl rfl rfl cof_wrs rfl
    have h3 := fieldAt hf 3 2 3 1 (y := y3) rfl rfl rfl cof_i64 rfl
    have h4 := fieldAt hf 4 3 4 1 (y := y4) rfl rfl rfl cof_int rfl
    obtain ⟨kind, e0, r0, _⟩ := DataW.trod_int Tryd.underlying3 (x := y0) h0
    obtain ⟨A1, ks, d1, e1, q1, b1⟩ := open_texts (x := y1) h1
    obtain ⟨A2, ws, d2, e2, q2, b2, v2⟩ := open_writes (x := y2) h2
    obtain ⟨mark, e3, r3, _⟩ := DataW.trod_int Tryd.underlying2 (x := y3) h3
    obtain ⟨n, e4, r4, _⟩ := DataW.trod_int Tryd.underlying3 (x := y4) h4
    simp at e0 e1 e2 e3 e4
    subst e0 e1 e2 e3 e4
    refine ⟨⟨kind, ks, ws, A1, d1, A2, d2, mark, n⟩, rfl, ⟨⟨q1, q2⟩, v2⟩, ?_⟩
    simp only [Rows.uptoBulk, Rows.uptoBulkAll, List.map_cons, List.map_nil, muZ]
    rw [r0, r3, r4]
    simp only [Rows.uptoBulk]
    omega
set_option maxRecDepth 100000 in
theorem open_actsZ (h : DataW.trod enc Tryd.prog w base spare held fuel 23 cs = some x) :
    ∃ (A : Option Addr) (us : List ZA) (c : Nat), cs = [.slice A us.length c] ∧ ZActs (fun b => b < w.heap.size) w A us ∧ (us.map muZ).sum + 1 ≤ Rows.uptoBulk x.1 ∧ ∀ a ∈ us, ∀ x ∈ a.ws, rng64 x.v.n := by
  obtain ⟨A, l, c, e, hr, ho, hb⟩ := open_rows zcells muZ (fun a => a.ok (fun b => b < w.heap.size) w ∧ ∀ x ∈ a.ws, rng64 x.v.n) 5 (by omega) (fun _ => rfl) Tryd.underlying23 cof_actz (fun n cs' y hy => open_actZ hy) h
  exact ⟨A, l, c, e, ⟨hr, fun a ha => (ho a ha).1⟩, hb, fun a ha => (ho a ha).2⟩
set_option maxRecDepth 100000 in
theorem open_storyZ (h : DataW.trod enc Tryd.prog w base spare held fuel 25 cs = some x) :
    ∃ (B : Option Addr) (nb cb : Nat) (p r : Int) (A : Option Addr) (us : List ZA) (c : Nat), cs = [.slice B nb cb, .int .i64 p, .int .i64 r, .slice A us.length c] ∧ ZActs (fun b => b < w.heap.size) w A us ∧ (us.map muZ).sum + nb ≤ Rows.uptoBulk x.1 ∧ ∀ a ∈ us, ∀ x ∈ a.ws, rng64 x.v.n := by
  obtain ⟨xs, k, _, rfl, hl, hlen, hf⟩ := DataW.trod_struct Tryd.underlying25 h
  rw [cof_storyz] at hl
  match cs, hl, xs, hlen with
  | [c0, c1, c2, c3], _, [y0, y1, y2, y3], _ =>
    have h0 := fieldAt hf 0 22 0 1 (y := y0) rfl rfl rfl cof_bytz rfl
    have h1 := fieldAt hf 1 3 1 1 (y := y1) rfl rfl rfl cof_int rfl
    have h2 := fieldAt hf 2 3 2 1 (y := y2) rfl rfl rfl cof_int rfl
    have h3 := fieldAt hf 3 23 3 1 (y := y3) rfl rfl rfl cof_actsz rfl
    obtain ⟨B, nb, cb, e0, b0⟩ := open_raw (x := y0) h0
    obtain ⟨p, e1, r1, _⟩ := DataW.trod_int Tryd.underlying3 (x := y1) h1
    obtain ⟨r, e2, r2, _⟩ := DataW.trod_int Tryd.underlying3 (x := y2) h2
    obtain ⟨A, us, c, e3, ho, hb, hv⟩ := open_actsZ (x := y3) h3
    simp at e0 e1 e2 e3
    subst e0 e1 e2 e3
    exact ⟨B, nb, cb, p, r, A, us, c, rfl, ho, by simp only [Rows.uptoBulk, Rows.uptoBulkAll, List.map_cons, List.map_nil]; omega, hv⟩
end
end Go.Proofs.YtefigpmkiemfhaaDoor

