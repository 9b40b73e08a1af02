/- Texts of the proof, joined: YFroz, YFrozP, YFrozR, SActs, SStory, YFrozW, SLift, SOpen, YOpen. -/
import Derived.Test.YtefigpmkiemfhaaDoorN10
import Derived.Test.YtefigpmkiemfhaaDoorN05
import Derived.Test.YtefigpmkiemfhaaDoorN09
import Derived.Deep.CutBlock
import Derived.Deep.Slices
import Derived.Lib.SmallJoins
namespace Go.Proofs.YtefigpmkiemfhaaDoor
open Go.RowKit
set_option linter.unusedVariables false
set_option linter.unusedSimpArgs false

theorem info_intZ : (Tryd.prog.info? 3).map (fun i => (i.zero, i.size, i.bytes)) = some (some (.int .i64 0), 1, 8) := by kernel_rfl
theorem info_valZ : (Tryd.prog.info? 47).map (fun i => (i.zero, i.size, i.bytes)) = some (some (.agg #[.int .i64 0, .int .i64 0, .string ⟨#[]⟩]), 3, 32) := by kernel_rfl
/-- a key's bits as the Zig tells them -/
def bitR (z : Zg) (k : ByteArray) : Int := if hasK k z.s.L = true then bI (z.f k).r else 0
def bitW (z : Zg) (k : ByteArray) : Int := if hasK k z.s.L = true then bI (z.f k).w else 0
def intCells (l : List Int) : List Value := l.map (.int .i64 ·)
def cpy0 (z : Zg) (k : ByteArray) : Vl := if hasK k z.s.L = true then (z.f k).c0 else vl0
def cpy1 (z : Zg) (k : ByteArray) : Vl := if hasK k z.s.L = true then (z.f k).c1 else vl0
/-- the copy that is not written next -/
def frozK (z : Zg) (k : ByteArray) : Vl := if bitW z k = 0 then cpy1 z k else cpy0 z k
def vlCells (l : List Vl) : List Value := l.flatMap fun v => [.int .i64 v.k, .int .i64 v.n, .string v.s]
theorem vlCells_snoc (l : List Vl) (v : Vl) : vlCells (l ++ [v]) = vlCells l ++ [.int .i64 v.k, .int .i64 v.n, .string v.s] := by unfold vlCells; simp
section
variable {T : Nat → Prop} {w : World} {g : Nat} {z : Zg}
theorem zbits2 (k : ByteArray) (h : ZAt T w g z) : Calls Tryd.prog 25 #[.pointer (some ⟨g, 0, none⟩), .string k] w fun e w' => e = .returned (.tuple #[.int .i64 (bitR z k), .int .i64 (bitW z k)]) ∧ Below w.heap.size w w' := by
  refine (zbits_any k h).mono ?_
  rintro e w' ⟨rfl, hb⟩
  refine ⟨?_, hb⟩
  unfold bitR bitW
  split <;> rfl
theorem zcopies2 (k : ByteArray) (h : ZAt T w g z) : Calls Tryd.prog 36 #[.pointer (some ⟨g, 0, none⟩), .string k] w fun e w' => e = .returned (.tuple #[.agg #[.int .i64 (cpy0 z k).k, .int .i64 (cpy0 z k).n, .string (cpy0 z k).s], .agg #[.int .i64 (cpy1 z k).k, .int .i64 (cpy1 z k).n, .string (cpy1 z k).s]]) ∧ Below w.heap.size w w' := by
  refine (zcopies_any k h).mono ?_
  rintro e w' ⟨rfl, hb⟩
  refine ⟨?_, hb⟩
  unfold cpy0 cpy1
  split <;> rfl
set_option maxRecDepth 100000 in
set_option maxHeartbeats 4000000 in
theorem bits_any {S : Nat → Prop} {A : Option Addr} {c : Nat} (ks : List ByteArray) (h : ZAt T w g z) (hr : Rd S w 1 A ks.length (strs ks)) (hn : ks.length ≤ 1000000) :
    Calls Tryd.prog 24 #[.pointer (some ⟨g, 0, none⟩), .slice A ks.length c] w fun e w' => ∃ A2 c2, e = .returned (.slice A2 ks.length c2) ∧ w'.ownsRow w.heap.size 3 1 (.slice A2 ks.length c2) ks.length (intCells (ks.map (bitW z))) ∧ Below w.heap.size w w' := by
  have hz := hid h
  have hks := hid hr.all
  have hkn := hid hn
  obtain ⟨i0, hi0, hz0, hz1, hz2⟩ := info_parts info_intZ
  clear h hr hn
  go_enter Tryd.func24, Tryd.ntmps24
  go_wp2_with fail
  go_loopw [5, 6] (fun u v wr => ∃ (i : Nat) (A2 : Option Addr) (c2 : Nat), u = .slice A2 i c2 ∧ v = .int .i64 i ∧ i ≤ ks.length ∧ wr.ownsRow w.heap.size 3 1 (.slice A2 i c2) i (intCells ((ks.take i).map (bitW z))) ∧ Below w.heap.size w wr) (fun _ v _ => ks.length - (intOf v).toNat)
  case atStart => exact ⟨0, none, 0, rfl, rfl, Nat.zero_le _, ⟨rfl, .inl ⟨rfl, rfl⟩⟩, Below.refl _ _⟩
  case round =>
    obtain ⟨i, A2, c2, rfl, rfl, hil, ho0, hb0⟩ := hrel
    have ho := hid ho0
    have hb := hid hb0
    clear ho0 hb0
    by_cases hlt : i < ks.length
    · have i1 : (i : Int) < (ks.length : Int) := by omega
      have i2 : IntKind.i64.wrap ((i : Int) + 1) = (i : Int) + 1 := by rw [IntKind.wrap_i64]; have := hkn.out; omega
      obtain ⟨b9, o9, hA9, _, _, y0⟩ := rd_strs (hks.out.below_all hb.out) hlt
      obtain rfl := hA9
      have hyk : Hid (∀ w', Below w.heap.size w w' → w'.cell? ⟨b9, o9 + i, none⟩ = some (.string (ks[i]'hlt))) := hid fun w' hb => by
        obtain ⟨b', o', e', _, _, y⟩ := rd_strs (hks.out.below_all hb) hlt
        cases e'
        exact y
      have htk : Hid (ks.take (i + 1) = ks.take i ++ [ks[i]'hlt]) := hid (List.take_succ_eq_append_getElem hlt)
      generalize ks[i] = key at *
      have hlt9 := hid hlt
      have hil9 := hid hil
      clear hlt hil
      go_wp2_with fail
      refine (zbits2 key (hz.out.below hb.out)).mono ?_
      rintro e w4 ⟨rfl, hb4⟩
      have hbX := hid (hb.out.trans (hb4.mono hb.out.size))
      have hoX := hid (own_keep ho.out (w' := w4) fun q hq => hb4.block q (ho.out.lt q hq).2)
      clear hb4 y0
      obtain ⟨bw, hbw⟩ : ∃ n, Hid (n = bitW z key) := ⟨_, hid rfl⟩
      rw [← hbw.out]
      go_wp2_with (
        at_builtin
        refine wpList_append_rd _ rfl (.tmp 24) (.tmp 26) 55 rfl w.heap.size 3 i0 _ 1 8 Tryd.underlying55 hi0 hz0 hz1 hz2 rfl (by omega) (.slice A2 i c2) i (intCells ((ks.take i).map (bitW z))) rfl (hoX.out.alloc _) (fun b => b = w4.heap.size) (some ⟨w4.heap.size, 0, none⟩) 1 1 #[.int .i64 bw].toList rfl (Rd.new _ 3 1 1 #[.int .i64 bw] _ rfl rfl) (by intro v hv; simp at hv; first | (rcases hv with rfl | rfl | rfl <;> rfl) | (rcases hv with rfl; rfl)) (by have := hkn.out; have := hil9.out; simp only [maxLen]; omega) (by have := hkn.out; have := hil9.out; omega) (by have h1 := hbX.out.size; simp; omega) ?_
        intro v3 w3 hown3 hg3 hat3
        obtain ⟨A3, c3, rfl, hc3, _⟩ := own_form hown3
        have hO := hid hown3
        have hB3 : Hid (Below w.heap.size w w3) := hid ((hbX.out.alloc hbX.out.size _).grown hg3 (by have := hbX.out.size; simp; omega) fun k hk => by have := (hoX.out.lt k hk).1; omega)
        clear hown3 hg3 hat3)
      go_roundw
      case rel =>
        refine ⟨i + 1, A3, c3, rfl, by go_num, hlt9.out, ?_, hB3.out⟩
        have h9 := hO.out
        rw [htk.out, hbw.out] at *
        unfold intCells at *
        simpa using h9
      case measure => simp [intOf]; have := hlt9.out; omega
    · obtain rfl : i = ks.length := by omega
      rw [List.take_length] at ho
      clear hlt hil
      go_wp2_with fail
      go_ret
      exact ⟨A2, c2, rfl, ho.out, hb.out⟩
set_option maxRecDepth 100000 in
set_option maxHeartbeats 4000000 in
theorem frozen_any {S : Nat → Prop} {A : Option Addr} {c : Nat} (ks : List ByteArray) (h : ZAt T w g z) (hr : Rd S w 1 A ks.length (strs ks)) (hn : ks.length ≤ 1000000) :
    Calls Tryd.prog 23 #[.pointer (some ⟨g, 0, none⟩), .slice A ks.length c] w fun e w' => ∃ A2 c2, e = .returned (.slice A2 ks.length c2) ∧ w'.ownsRow w.heap.size 47 3 (.slice A2 ks.length c2) ks.length (vlCells (ks.map (frozK z))) ∧ Below w.heap.size w w' := by
  have hz := hid h
  have hks := hid hr.all
  have hkn := hid hn
  obtain ⟨i0, hi0, hz0, hz1, hz2⟩ := info_parts info_valZ
  clear h hr hn
  go_enter Tryd.func23, Tryd.ntmps23
  go_wp2_with fail
  go_loopw [5, 6] (fun u v wr => ∃ (i : Nat) (A2 : Option Addr) (c2 : Nat), u = .slice A2 i c2 ∧ v = .int .i64 i ∧ i ≤ ks.length ∧ wr.ownsRow w.heap.size 47 3 (.slice A2 i c2) i (vlCells ((ks.take i).map (frozK z))) ∧ Below w.heap.size w wr) (fun _ v _ => ks.length - (intOf v).toNat)
  case atStart => exact ⟨0, none, 0, rfl, rfl, Nat.zero_le _, ⟨rfl, .inl ⟨rfl, rfl⟩⟩, Below.refl _ _⟩
  case round =>
    obtain ⟨i, A2, c2, rfl, rfl, hil, ho0, hb0⟩ := hrel
    have ho := hid ho0
    have hb := hid hb0
    clear ho0 hb0
    by_cases hlt : i < ks.length
    · have i1 : (i : Int) < (ks.length : Int) := by omega
      have i2 : IntKind.i64.wrap ((i : Int) + 1) = (i : Int) + 1 := by rw [IntKind.wrap_i64]; have := hkn.out; omega
      obtain ⟨b9, o9, hA9, _, _, y0⟩ := rd_strs (hks.out.below_all hb.out) hlt
      obtain rfl := hA9
      have hyk : Hid (∀ w', Below w.heap.size w w' → w'.cell? ⟨b9, o9 + i, none⟩ = some (.string (ks[i]'hlt))) := hid fun w' hb => by
        obtain ⟨b', o', e', _, _, y⟩ := rd_strs (hks.out.below_all hb) hlt
        cases e'
        exact y
      have htk : Hid (ks.take (i + 1) = ks.take i ++ [ks[i]'hlt]) := hid (List.take_succ_eq_append_getElem hlt)
      generalize ks[i] = key at *
      have hlt9 := hid hlt
      have hil9 := hid hil
      clear hlt hil
      go_wp2_with fail
      refine (zcopies2 key (hz.out.below hb.out)).mono ?_
      rintro e w4 ⟨rfl, hb4⟩
      obtain ⟨p0, hp0⟩ : ∃ p, Hid (p = cpy0 z key) := ⟨_, hid rfl⟩
      obtain ⟨p1, hp1⟩ : ∃ p, Hid (p = cpy1 z key) := ⟨_, hid rfl⟩
      rw [← hp0.out, ← hp1.out]
      have hb4' := hid (hb.out.trans (hb4.mono hb.out.size))
      have ho4 := hid (own_keep ho.out (w' := w4) fun q hq => hb4.block q (ho.out.lt q hq).2)
      clear hb4 y0
      go_upto_region 6 with fail
      have hb24 : Below w4.heap.size w4 ((w4.alloc (.cells #[.int .i64 p0.k, .int .i64 p0.n, .string p0.s] 47)).alloc (.cells #[.int .i64 p1.k, .int .i64 p1.n, .string p1.s] 47)) := below_two _ _
      have k7 := hid (show Blk ((w4.alloc (.cells #[.int .i64 p0.k, .int .i64 p0.n, .string p0.s] 47)).alloc (.cells #[.int .i64 p1.k, .int .i64 p1.n, .string p1.s] 47)) w4.heap.size 47 #[.int .i64 p0.k, .int .i64 p0.n, .string p0.s] from (Blk.new w4 _ _).alloc _)
      have k8 := hid (show Blk ((w4.alloc (.cells #[.int .i64 p0.k, .int .i64 p0.n, .string p0.s] 47)).alloc (.cells #[.int .i64 p1.k, .int .i64 p1.n, .string p1.s] 47)) (w4.heap.size + 1) 47 #[.int .i64 p1.k, .int .i64 p1.n, .string p1.s] from Blk.new' _ _ _ (by simp))
      have hb6 := hid (hb4'.out.trans (hb24.mono hb4'.out.size))
      have ho6 := hid (own_keep ho4.out (w' := ((w4.alloc (.cells #[.int .i64 p0.k, .int .i64 p0.n, .string p0.s] 47)).alloc (.cells #[.int .i64 p1.k, .int .i64 p1.n, .string p1.s] 47))) fun q hq => hb24.block q (ho4.out.lt q hq).2)
      have y0 := hyk.out _ hb6.out
      clear hb24 hb4' ho4 hb
      generalize ((w4.alloc (.cells #[.int .i64 p0.k, .int .i64 p0.n, .string p0.s] 47)).alloc (.cells #[.int .i64 p1.k, .int .i64 p1.n, .string p1.s] 47)) = w6 at *
      generalize w4.heap.size = m at *
      go_wp2_with fail
      refine (zbits2 key (hz.out.below hb6.out)).mono ?_
      rintro e w5 ⟨rfl, hb5⟩
      obtain ⟨bw, hbw⟩ : ∃ n, Hid (n = bitW z key) := ⟨_, hid rfl⟩
      rw [← hbw.out]
      have hbX := hid (hb6.out.trans (hb5.mono hb6.out.size))
      have hoX := hid (own_keep ho6.out (w' := w5) fun q hq => hb5.block q (ho6.out.lt q hq).2)
      have k7 := hid (k7.out.below_all hb5)
      have k8 := hid (k8.out.below_all hb5)
      clear hb5 y0 hb6 ho6
      by_cases e0 : bw = 0
      · have t0 : (bw == 0) = true := by simpa using e0
        have hfz : Hid (frozK z key = p1) := hid (by unfold frozK; rw [← hbw.out, if_pos e0, hp1.out])
        clear e0
        have x0 : w5.cell? ⟨m + 1, 0, none⟩ = some (.int .i64 p1.k) := k8.out.cell 0
        have x1 : w5.cell? ⟨m + 1, 1, none⟩ = some (.int .i64 p1.n) := k8.out.cell 1
        have x2 : w5.cell? ⟨m + 1, 2, none⟩ = some (.string p1.s) := k8.out.cell 2
        go_wp2_with (
          at_builtin
          refine wpList_append_rd _ rfl (.tmp 37) (.tmp 39) 54 rfl w.heap.size 47 i0 _ 3 32 Tryd.underlying54 hi0 hz0 hz1 hz2 rfl (by omega) (.slice A2 i c2) i (vlCells ((ks.take i).map (frozK z))) rfl (hoX.out.alloc _) (fun b => b = w5.heap.size) (some ⟨w5.heap.size, 0, none⟩) 1 1 #[.int .i64 p1.k, .int .i64 p1.n, .string p1.s].toList rfl (Rd.new _ 47 3 1 #[.int .i64 p1.k, .int .i64 p1.n, .string p1.s] _ rfl rfl) (by intro v hv; simp at hv; first | (rcases hv with rfl | rfl | rfl <;> rfl) | (rcases hv with rfl; rfl)) (by have := hkn.out; have := hil9.out; simp only [maxLen]; omega) (by have := hkn.out; have := hil9.out; omega) (by have h1 := hbX.out.size; simp; omega) ?_
          intro v3 w3 hown3 hg3 hat3
          obtain ⟨A3, c3, rfl, hc3, _⟩ := own_form hown3
          have hO := hid hown3
          have hB3 : Hid (Below w.heap.size w w3) := hid ((hbX.out.alloc hbX.out.size _).grown hg3 (by have := hbX.out.size; simp; omega) fun k hk => by have := (hoX.out.lt k hk).1; omega)
          clear hown3 hg3 hat3)
        go_roundw
        case rel =>
          refine ⟨i + 1, A3, c3, rfl, by go_num, hlt9.out, ?_, hB3.out⟩
          have h9 := hO.out
          rw [htk.out, List.map_append, List.map_cons, List.map_nil, vlCells_snoc, hfz.out]
          exact h9
        case measure => simp [intOf]; have := hlt9.out; omega
      · have t0 : (bw == 0) = false := by simpa using e0
        have hfz : Hid (frozK z key = p0) := hid (by unfold frozK; rw [← hbw.out, if_neg e0, hp0.out])
        clear e0
        have x0 : w5.cell? ⟨m, 0, none⟩ = some (.int .i64 p0.k) := k7.out.cell 0
        have x1 : w5.cell? ⟨m, 1, none⟩ = some (.int .i64 p0.n) := k7.out.cell 1
        have x2 : w5.cell? ⟨m, 2, none⟩ = some (.string p0.s) := k7.out.cell 2
        go_wp2_with (
          at_builtin
          refine wpList_append_rd _ rfl (.tmp 41) (.tmp 43) 54 rfl w.heap.size 47 i0 _ 3 32 Tryd.underlying54 hi0 hz0 hz1 hz2 rfl (by omega) (.slice A2 i c2) i (vlCells ((ks.take i).map (frozK z))) rfl (hoX.out.alloc _) (fun b => b = w5.heap.size) (some ⟨w5.heap.size, 0, none⟩) 1 1 #[.int .i64 p0.k, .int .i64 p0.n, .string p0.s].toList rfl (Rd.new _ 47 3 1 #[.int .i64 p0.k, .int .i64 p0.n, .string p0.s] _ rfl rfl) (by intro v hv; simp at hv; first | (rcases hv with rfl | rfl | rfl <;> rfl) | (rcases hv with rfl; rfl)) (by have := hkn.out; have := hil9.out; simp only [maxLen]; omega) (by have := hkn.out; have := hil9.out; omega) (by have h1 := hbX.out.size; simp; omega) ?_
          intro v3 w3 hown3 hg3 hat3
          obtain ⟨A3, c3, rfl, hc3, _⟩ := own_form hown3
          have hO := hid hown3
          have hB3 : Hid (Below w.heap.size w w3) := hid ((hbX.out.alloc hbX.out.size _).grown hg3 (by have := hbX.out.size; simp; omega) fun k hk => by have := (hoX.out.lt k hk).1; omega)
          clear hown3 hg3 hat3)
        go_roundw
        case rel =>
          refine ⟨i + 1, A3, c3, rfl, by go_num, hlt9.out, ?_, hB3.out⟩
          have h9 := hO.out
          rw [htk.out, List.map_append, List.map_cons, List.map_nil, vlCells_snoc, hfz.out]
          exact h9
        case measure => simp [intOf]; have := hlt9.out; omega
    · obtain rfl : i = ks.length := by omega
      rw [List.take_length] at ho
      clear hlt hil
      go_wp2_with fail
      go_ret
      exact ⟨A2, c2, rfl, ho.out, hb.out⟩
theorem neqValF (a : Vl) (w : World) : (binOp .neq 47 (.agg #[.int .i64 a.k, .int .i64 a.n, .string a.s]) (.agg #[.int .i64 a.k, .int .i64 a.n, .string a.s])).run Tryd.prog w = .ok (.bool false) w := by
  rw [run_neq_struct, run_eqVal]; simp [Result.andThen]
theorem rd_vls {S : Nat → Prop} {w : World} {A : Option Addr} {l : List Vl} (h : Rd S w 3 A l.length (vlCells l)) {i : Nat} (hi : i < l.length) : ∃ b o, A = some ⟨b, o, none⟩ ∧ w.cell? ⟨b, o + i * 3, none⟩ = some (.int .i64 l[i].k) ∧ w.cell? ⟨b, o + i * 3 + 1, none⟩ = some (.int .i64 l[i].n) ∧ w.cell? ⟨b, o + i * 3 + 2, none⟩ = some (.string l[i].s) := by
  obtain ⟨b, o, e, _, _, hc⟩ := h.at_ hi
  have g := fun j (hj : j < 3) u (hu : ([Value.int .i64 l[i].k, .int .i64 l[i].n, .string l[i].s])[j]? = some u) => hc (i * 3 + j) u (by
    show (l.flatMap fun v : Vl => [Value.int .i64 v.k, .int .i64 v.n, .string v.s])[i * 3 + j]? = some u
    rw [aflat_atZ _ 3 (fun _ => rfl) l i j hi hj]; exact hu)
  simp only [← Nat.add_assoc] at g
  exact ⟨b, o, e, g 0 (by omega) _ rfl, g 1 (by omega) _ rfl, g 2 (by omega) _ rfl⟩
set_option maxRecDepth 100000 in
set_option maxHeartbeats 4000000 in
theorem same_eq {S S' : Nat → Prop} {A B : Option Addr} {c d : Nat} (l : List Vl) (h : Rd S w 3 A l.length (vlCells l)) (h' : Rd S' w 3 B l.length (vlCells l)) (hn : l.length ≤ 1000000) :
    Calls Tryd.prog 26 #[.slice A l.length c, .slice B l.length d] w fun e w' => e = .returned (.bool true) ∧ Below w.heap.size w w' := by
  have ha := hid h.all
  have hb := hid h'.all
  have hln := hid hn
  clear h h' hn
  go_enter Tryd.func26, Tryd.ntmps26
  go_wp2_with fail
  go_loopw [5] (fun v wr => ∃ i : Nat, v = .int .i64 i ∧ i ≤ l.length ∧ Below w.heap.size w wr) (fun v _ => l.length - (intOf v).toNat)
  case atStart => exact ⟨0, rfl, Nat.zero_le _, Below.refl _ _⟩
  case round =>
    obtain ⟨i, rfl, hil, hb00⟩ := hrel
    have hB := hid hb00
    clear hb00
    by_cases hlt : i < l.length
    · have i1 : (i : Int) < (l.length : Int) := by omega
      have i2 : IntKind.i64.wrap ((i : Int) + 1) = (i : Int) + 1 := by rw [IntKind.wrap_i64]; have := hln.out; omega
      obtain ⟨b1, o1, hA9, _⟩ := rd_vls ha.out hlt
      obtain ⟨b2, o2, hB9, _⟩ := rd_vls hb.out hlt
      subst hA9 hB9
      have hy : Hid (∀ w', Below wr.heap.size wr w' → w'.cell? ⟨b1, o1 + i * 3, none⟩ = some (.int .i64 (l[i]'hlt).k) ∧ w'.cell? ⟨b1, o1 + i * 3 + 1, none⟩ = some (.int .i64 (l[i]'hlt).n) ∧ w'.cell? ⟨b1, o1 + i * 3 + 2, none⟩ = some (.string (l[i]'hlt).s) ∧ w'.cell? ⟨b2, o2 + i * 3, none⟩ = some (.int .i64 (l[i]'hlt).k) ∧ w'.cell? ⟨b2, o2 + i * 3 + 1, none⟩ = some (.int .i64 (l[i]'hlt).n) ∧ w'.cell? ⟨b2, o2 + i * 3 + 2, none⟩ = some (.string (l[i]'hlt).s)) := hid fun w' hw => by
        obtain ⟨b', o', e', y0, y1, y2⟩ := rd_vls (ha.out.below_all (hB.out.trans (hw.mono hB.out.size))) hlt
        obtain ⟨b'', o'', e'', z0, z1, z2⟩ := rd_vls (hb.out.below_all (hB.out.trans (hw.mono hB.out.size))) hlt
        cases e'
        cases e''
        exact ⟨y0, y1, y2, z0, z1, z2⟩
      generalize l[i] = vv at *
      have hlt9 := hid hlt
      clear hlt hil
      go_upto_region 6 with fail
      refine wp_region_held_drew (S := fun w'' => Below wr.heap.size wr w'') (by kernel_rfl) ?_ (fun hHeld => ?_)
      · exact (Below.refl _ _).drew
      have hb0 : Hid (Below wr.heap.size wr wr.drew) := hid (Below.refl _ _).drew
      generalize World.drew wr = wd at *
      refine wpAnyH_take (i := 0) (v := ?v1) rfl (by kernel_rfl) (by kernel_rfl) (by kernel_rfl) (fun _ _ _ h => h) (Or.inl ⟨by rfl, ?hy1⟩) (by assumption) ?rest1
      case hy1 => intro w' hSw; have q0 := (hy.out w' hSw).1; have q1 := (hy.out w' hSw).2.1; have q2 := (hy.out w' hSw).2.2.1; have u0 := (hy.out w' hSw).2.2.2.1; have u1 := (hy.out w' hSw).2.2.2.2.1; have u2 := (hy.out w' hSw).2.2.2.2.2; (try dsimp only at hSw); go_simp; try with_reducible rfl
      (try simp only [Act.put, List.setIfInBounds_toArray, List.set_cons_zero, List.set_cons_succ, List.getElem_toArray, List.getElem_cons_zero, List.getElem_cons_succ])
      refine wpAnyH_take (i := 1) (v := ?v2) rfl (by kernel_rfl) (by kernel_rfl) (by kernel_rfl) (fun _ _ _ h => h) (Or.inl ⟨by rfl, ?hy2⟩) (by assumption) ?rest2
      case hy2 => intro w' hSw; have q0 := (hy.out w' hSw).1; have q1 := (hy.out w' hSw).2.1; have q2 := (hy.out w' hSw).2.2.1; have u0 := (hy.out w' hSw).2.2.2.1; have u1 := (hy.out w' hSw).2.2.2.2.1; have u2 := (hy.out w' hSw).2.2.2.2.2; (try dsimp only at hSw); go_simp; try with_reducible rfl
      (try simp only [Act.put, List.setIfInBounds_toArray, List.set_cons_zero, List.set_cons_succ, List.getElem_toArray, List.getElem_cons_zero, List.getElem_cons_succ])
      refine wpAnyH_take (i := 2) (v := ?v3) rfl (by kernel_rfl) (by kernel_rfl) (by kernel_rfl) (fun _ _ _ h => h) (Or.inl ⟨by rfl, ?hy3⟩) (by assumption) ?rest3
      case hy3 => intro w' hSw; have q0 := (hy.out w' hSw).1; have q1 := (hy.out w' hSw).2.1; have q2 := (hy.out w' hSw).2.2.1; have u0 := (hy.out w' hSw).2.2.2.1; have u1 := (hy.out w' hSw).2.2.2.2.1; have u2 := (hy.out w' hSw).2.2.2.2.2; (try dsimp only at hSw); go_simp; try with_reducible rfl
      (try simp only [Act.put, List.setIfInBounds_toArray, List.set_cons_zero, List.set_cons_succ, List.getElem_toArray, List.getElem_cons_zero, List.getElem_cons_succ])
      refine wpAnyH_take (i := 3) (v := ?v4) rfl (by kernel_rfl) (by kernel_rfl) (by kernel_rfl) (fun _ _ _ h => h) (Or.inl ⟨by rfl, ?hy4⟩) (by assumption) ?rest4
      case hy4 => intro w' hSw; have q0 := (hy.out w' hSw).1; have q1 := (hy.out w' hSw).2.1; have q2 := (hy.out w' hSw).2.2.1; have u0 := (hy.out w' hSw).2.2.2.1; have u1 := (hy.out w' hSw).2.2.2.2.1; have u2 := (hy.out w' hSw).2.2.2.2.2; (try dsimp only at hSw); go_simp; try with_reducible rfl
      (try simp only [Act.put, List.setIfInBounds_toArray, List.set_cons_zero, List.set_cons_succ, List.getElem_toArray, List.getElem_cons_zero, List.getElem_cons_succ])
      refine wpAnyH_take (i := 4) (v := ?v5) rfl (by kernel_rfl) (by kernel_rfl) (by kernel_rfl) (fun _ _ _ h => h) (Or.inl ⟨by rfl, ?hy5⟩) (by assumption) ?rest5
      case hy5 => intro w' hSw; have q0 := (hy.out w' hSw).1; have q1 := (hy.out w' hSw).2.1; have q2 := (hy.out w' hSw).2.2.1; have u0 := (hy.out w' hSw).2.2.2.1; have u1 := (hy.out w' hSw).2.2.2.2.1; have u2 := (hy.out w' hSw).2.2.2.2.2; (try dsimp only at hSw); go_simp; try with_reducible rfl
      (try simp only [Act.put, List.setIfInBounds_toArray, List.set_cons_zero, List.set_cons_succ, List.getElem_toArray, List.getElem_cons_zero, List.getElem_cons_succ])
      refine wpAnyH_take (i := 5) (v := ?v6) rfl (by kernel_rfl) (by kernel_rfl) (by kernel_rfl) (fun _ _ _ h => h) (Or.inl ⟨by rfl, ?hy6⟩) (by assumption) ?rest6
      case hy6 => intro w' hSw; have q0 := (hy.out w' hSw).1; have q1 := (hy.out w' hSw).2.1; have q2 := (hy.out w' hSw).2.2.1; have u0 := (hy.out w' hSw).2.2.2.1; have u1 := (hy.out w' hSw).2.2.2.2.1; have u2 := (hy.out w' hSw).2.2.2.2.2; (try dsimp only at hSw); go_simp; try with_reducible rfl
      (try simp only [Act.put, List.setIfInBounds_toArray, List.set_cons_zero, List.set_cons_succ, List.getElem_toArray, List.getElem_cons_zero, List.getElem_cons_succ])
      refine wpAnyH_take (i := 6) (v := ?v7) rfl (by kernel_rfl) (by kernel_rfl) (by kernel_rfl) (fun _ _ _ h => h) (Or.inl ⟨by rfl, ?hy7⟩) (by assumption) ?rest7
      case hy7 => intro w' hSw; have q0 := (hy.out w' hSw).1; have q1 := (hy.out w' hSw).2.1; have q2 := (hy.out w' hSw).2.2.1; have u0 := (hy.out w' hSw).2.2.2.1; have u1 := (hy.out w' hSw).2.2.2.2.1; have u2 := (hy.out w' hSw).2.2.2.2.2; (try dsimp only at hSw); go_simp; try with_reducible rfl
      (try simp only [Act.put, List.setIfInBounds_toArray, List.set_cons_zero, List.set_cons_succ, List.getElem_toArray, List.getElem_cons_zero, List.getElem_cons_succ])
      refine wpAnyH_take (i := 7) (v := ?v8) rfl (by kernel_rfl) (by kernel_rfl) (by kernel_rfl) (fun _ _ _ h => h) (Or.inl ⟨by rfl, ?hy8⟩) (by assumption) ?rest8
      case hy8 => intro w' hSw; have q0 := (hy.out w' hSw).1; have q1 := (hy.out w' hSw).2.1; have q2 := (hy.out w' hSw).2.2.1; have u0 := (hy.out w' hSw).2.2.2.1; have u1 := (hy.out w' hSw).2.2.2.2.1; have u2 := (hy.out w' hSw).2.2.2.2.2; (try dsimp only at hSw); go_simp; try with_reducible rfl
      (try simp only [Act.put, List.setIfInBounds_toArray, List.set_cons_zero, List.set_cons_succ, List.getElem_toArray, List.getElem_cons_zero, List.getElem_cons_succ])
      refine wpAnyH_take (i := 8) (v := ?v9) rfl (by kernel_rfl) (by kernel_rfl) (by kernel_rfl) (fun _ _ _ h => h) (Or.inl ⟨by rfl, ?hy9⟩) (by assumption) ?rest9
      case hy9 => intro w' hSw; have qe := neqValF vv; (try dsimp only at hSw); go_simp; try with_reducible rfl
      (try simp only [Act.put, List.setIfInBounds_toArray, List.set_cons_zero, List.set_cons_succ, List.getElem_toArray, List.getElem_cons_zero, List.getElem_cons_succ])
      refine wpAnyH_done (by kernel_rfl) ?_ _
      go_wp2_with fail
      go_roundw
      case rel => exact ⟨i + 1, by go_num, hlt9.out, hB.out.trans (hb0.out.mono hB.out.size)⟩
      case measure => simp [intOf]; have := hlt9.out; omega
    · obtain rfl : i = l.length := by omega
      clear hlt hil
      go_wp2_with fail
      go_ret
      exact ⟨rfl, hB.out⟩
end
end Go.Proofs.YtefigpmkiemfhaaDoor

namespace Go.Proofs.YtefigpmkiemfhaaDoor
set_option linter.unusedVariables false
set_option linter.unusedSimpArgs false

/-- two stores with the same keys -/
structure KEq (s t : St) : Prop where
  parts : s.parts = t.parts
  room : s.room = t.room
  keys : s.L.map (·.1) = t.L.map (·.1)
theorem KEq.has {s t : St} (h : KEq s t) (k : ByteArray) : hasK k s.L = hasK k t.L := has_keys h.keys
theorem ins_keysEq {k : ByteArray} : ∀ {L M : List Kv}, L.map (·.1) = M.map (·.1) → (insK k L).map (·.1) = (insK k M).map (·.1)
  | [], [], _ => rfl
  | [], _ :: _, h => by simp at h
  | _ :: _, [], h => by simp at h
  | x :: L, y :: M, h => by
    simp only [List.map_cons, List.cons.injEq] at h
    obtain ⟨h1, h2⟩ := h
    unfold insK
    rw [h1]
    split
    · simp only [List.map_cons]; rw [h1, ins_keysEq h2]
    · split
      · simp only [List.map_cons]; rw [h1, h2]
      · simp only [List.map_cons]; rw [h1, h2]
theorem insAll_keysEq : ∀ {ks : List ByteArray} {L M : List Kv}, L.map (·.1) = M.map (·.1) → (insAll L ks).map (·.1) = (insAll M ks).map (·.1)
  | [], _, _, h => h
  | k :: ks, L, M, h => insAll_keysEq (ks := ks) (L := insK k L) (M := insK k M) (ins_keysEq h)
theorem KEq.claimE {s t : St} (h : KEq s t) (ks : List ByteArray) : claimE s ks = claimE t ks := by
  have hm : ∀ p, moreK s ks p = moreK t ks p := fun p => by unfold moreK; rw [h.parts]; simp only [h.has]
  have hc : ∀ p, cntP s.parts p s.L = cntP t.parts p t.L := fun p => by rw [h.parts]; exact cnt_keys h.keys
  have hf : fullB s ks = fullB t ks := by
    unfold fullB
    rw [h.room]
    simp only [hm, hc]
    rw [h.parts]
  unfold Go.Proofs.YtefigpmkiemfhaaDoor.claimE
  rw [hf]
theorem KEq.claim {s t : St} (h : KEq s t) (ks : List ByteArray) : KEq (claimS s ks) (claimS t ks) := by
  unfold claimS
  rw [h.claimE ks]
  split
  · exact ⟨h.parts, h.room, insAll_keysEq h.keys⟩
  · exact h
theorem KEq.apply {s t : St} (h : KEq s t) (ws : List Wr) : KEq (applyS s ws) t := by
  unfold applyS
  split
  · exact ⟨h.parts, h.room, by show (upAll s.L ws).map (·.1) = _; rw [upAll_keys]; exact h.keys⟩
  · exact h
/-- while it is under way: the keys' bits and frozen copies are as they were -/
structure Froz (z : Zg) (keys : List ByteArray) (was : List Vl) (turned : List Int) : Prop where
  has : ∀ k ∈ keys, hasK k z.s.L = true
  was : keys.map (frozK z) = was
  turned : keys.map (bitW z) = turned
theorem frozK_eq {z z' : Zg} {k : ByteArray} (h : hasK k z.s.L = true) (h' : hasK k z'.s.L = true) (hw : (z'.f k).w = (z.f k).w) (ho : (z'.f k).old = (z.f k).old) : bitW z' k = bitW z k ∧ frozK z' k = frozK z k := by
  have e : bitW z' k = bitW z k := by unfold bitW; rw [if_pos h, if_pos h', hw]
  refine ⟨e, ?_⟩
  unfold frozK
  rw [e]
  unfold bitW cpy0 cpy1
  rw [if_pos h, if_pos h, if_pos h, if_pos h', if_pos h']
  unfold Ce.old Ce.at_ at ho
  rw [hw] at ho
  unfold bI
  cases hb : (z.f k).w with
  | true => rw [hb] at ho; simpa using ho
  | false => rw [hb] at ho; simpa using ho
theorem Froz.of {z z' : Zg} {keys : List ByteArray} {was : List Vl} {turned : List Int} (h : Froz z keys was turned) (hk : ∀ k, hasK k z.s.L = true → hasK k z'.s.L = true ∧ (z'.f k).w = (z.f k).w ∧ (z'.f k).old = (z.f k).old) : Froz z' keys was turned := by
  refine ⟨fun k hm => (hk k (h.has k hm)).1, ?_, ?_⟩
  · rw [← h.was]
    exact List.map_congr_left fun k hm => (frozK_eq (h.has k hm) (hk k (h.has k hm)).1 (hk k (h.has k hm)).2.1 (hk k (h.has k hm)).2.2).2
  · rw [← h.turned]
    exact List.map_congr_left fun k hm => (frozK_eq (h.has k hm) (hk k (h.has k hm)).1 (hk k (h.has k hm)).2.1 (hk k (h.has k hm)).2.2).1
theorem Froz.claim {z : Zg} {keys : List ByteArray} {was : List Vl} {turned : List Int} (h : Froz z keys was turned) (ks : List ByteArray) : Froz (z.claim ks) keys was turned := by
  refine h.of fun k hk => ?_
  unfold Zg.claim
  split
  · rename_i he
    refine ⟨?_, ?_⟩
    · show hasK k (claimS z.s ks).L = true
      rw [claim_hasK he, hk, Bool.or_true]
    · have e : newF z.s.L z.fresh z.f ks k = z.f k := by unfold newF; rw [if_neg fun hh => by rw [hk] at hh; cases hh.1]
      exact ⟨congrArg Ce.w e, congrArg Ce.old e⟩
  · exact ⟨hk, rfl, rfl⟩
theorem putAll_old : ∀ {ws : List Wr} {f : ByteArray → Ce} {k : ByteArray}, (putAll f ws k).w = (f k).w ∧ (putAll f ws k).old = (f k).old
  | [], _, _ => ⟨rfl, rfl⟩
  | x :: ws, f, k => by
    show (putAll (putFz f x) ws k).w = _ ∧ (putAll (putFz f x) ws k).old = _
    obtain ⟨h1, h2⟩ := putAll_old (ws := ws) (f := putFz f x) (k := k)
    rw [h1, h2]
    unfold putFz
    split
    · exact ⟨Ce.w_put _ _, Ce.old_put _ _⟩
    · exact ⟨rfl, rfl⟩
theorem Froz.apply {z : Zg} {keys : List ByteArray} {was : List Vl} {turned : List Int} (h : Froz z keys was turned) (ws : List Wr) : Froz (z.apply ws) keys was turned := by
  refine h.of fun k hk => ?_
  unfold Zg.apply
  split
  · rename_i he
    refine ⟨?_, putAll_old⟩
    show hasK k (applyS z.s ws).L = true
    unfold applyS
    rw [if_pos he, upAll_has]
    exact hk
  · exact ⟨hk, rfl, rfl⟩
theorem Froz.step {z : Zg} {keys : List ByteArray} {was : List Vl} {turned : List Int} (h : Froz z keys was turned) (n : Int) : Froz (z.step n) keys was turned := ⟨h.has, h.was, h.turned⟩
theorem Froz.take {z : Zg} {keys : List ByteArray} {was : List Vl} {turned : List Int} (h : Froz z keys was turned) : Froz z.take keys was turned := by
  unfold Zg.take
  split
  · exact ⟨h.has, h.was, h.turned⟩
  · exact h
/-- a checkpoint begins: of every key the bits are unlike -/
theorem begin_bits {z : Zg} {m : Int} (h : z.beginE m = 0) {k : ByteArray} (hk : hasK k z.s.L = true) : bitR (z.begin m) k ≠ bitW (z.begin m) k := by
  unfold Zg.begin
  rw [if_pos h]
  unfold bitR bitW
  rw [if_pos (show hasK k z.s.L = true from hk), if_pos (show hasK k z.s.L = true from hk)]
  show bI (z.f k).r ≠ bI (!(z.f k).r)
  cases (z.f k).r <;> decide
theorem begin_froz {z : Zg} {m : Int} (h : z.beginE m = 0) : Froz (z.begin m) (z.s.L.map (·.1)) ((z.s.L.map (·.1)).map (frozK (z.begin m))) ((z.s.L.map (·.1)).map (bitW (z.begin m))) := by
  refine ⟨fun k hk => ?_, rfl, rfl⟩
  have e : (z.begin m).s = z.s := by unfold Zg.begin; split <;> rfl
  rw [e]
  obtain ⟨x, hx, rfl⟩ := List.mem_map.1 hk
  exact hasK_mem.2 ⟨x, hx, rfl⟩
end Go.Proofs.YtefigpmkiemfhaaDoor

namespace Go.Proofs.YtefigpmkiemfhaaDoor
open Go.RowKit
set_option linter.unusedVariables false
set_option linter.unusedSimpArgs false

structure FRel (w0 wr : World) (g gs : Nat) (z : Zg) (t : St) (T Ss : Nat → Prop) : Prop where
  a : ZAt T wr g z
  b : PAt Ss wr gs t
  ge : (∀ q, T q → w0.heap.size ≤ q) ∧ ∀ q, Ss q → w0.heap.size ≤ q
  dis : ∀ q, T q → ¬ Ss q
  bel : Below w0.heap.size w0 wr
  rz : RngZ z
/-- a row in neither's blocks -/
def Off (T Ss : Nat → Prop) (q : Nat) : Prop := ¬ T q ∧ ¬ Ss q
structure FRows (wr : World) (T Ss : Nat → Prop) (z : Zg) (keys : List ByteArray) (was : List Vl) (turned : List Int) (A8 A9 A10 : Option Addr) : Prop where
  k : Rd (Off T Ss) wr 1 A8 keys.length (strs keys)
  w : Rd (Off T Ss) wr 3 A9 was.length (vlCells was)
  t : Rd (Off T Ss) wr 1 A10 turned.length (intCells turned)
  len : keys.length ≤ 1000000
  fz : z.under = true → Froz z keys was turned
section
variable {w0 wr w' : World} {g gs : Nat} {z z' : Zg} {t t' : St} {T Ss : Nat → Prop} {keys : List ByteArray} {was : List Vl} {turned : List Int} {A8 A9 A10 : Option Addr}
theorem FRel.below (h : FRel w0 wr g gs z t T Ss) (hb : Below wr.heap.size wr w') : FRel w0 w' g gs z t T Ss := ⟨h.a.below hb, h.b.below hb, h.ge, h.dis, h.bel.trans (hb.mono h.bel.size), h.rz⟩
theorem FRows.below (h : FRows wr T Ss z keys was turned A8 A9 A10) (hb : Below wr.heap.size wr w') : FRows w' T Ss z keys was turned A8 A9 A10 := ⟨h.k.below_all hb, h.w.below_all hb, h.t.below_all hb, h.len, h.fz⟩
/-- the Zig goes on -/
theorem FRel.goA (h : FRel w0 wr g gs z t T Ss) (hr : FRows wr T Ss z keys was turned A8 A9 A10) (hg : ZGo T wr g z' w') (hz : RngZ z') (hf : z'.under = true → Froz z' keys was turned) :
    ∃ T', FRel w0 w' g gs z' t T' Ss ∧ FRows w' T' Ss z' keys was turned A8 A9 A10 ∧ Upd T wr w' ∧ ∀ q, T' q → T q ∨ wr.heap.size ≤ q := by
  obtain ⟨T', ha, h1, h2, hu⟩ := hg
  have hm : ∀ q, Off T Ss q → q < wr.heap.size → ¬ T q ∧ Off T' Ss q := fun q hq hl => ⟨hq.1, fun e => by rcases h1 q e with e | e; exact hq.1 e; omega, hq.2⟩
  refine ⟨T', ⟨ha, h.b.upd hu fun q hq e => h.dis q e hq, ⟨fun q hq => ?_, h.ge.2⟩, fun q hq e => ?_, h.bel.trans (hu.below h.bel.size fun q hq e => by have := h.ge.1 q e; omega), hz⟩, ⟨?_, ?_, ?_, hr.len, hf⟩, hu, h1⟩
  · rcases h1 q hq with h3 | h3
    · exact h.ge.1 q h3
    · have := h.bel.size; omega
  · rcases h1 q hq with h3 | h3
    · exact h.dis q h3 e
    · have := h.b.lt q e; omega
  · exact ((hr.k.more hm).upd hu fun q hq => hq.1).more fun q hq _ => hq.2
  · exact ((hr.w.more hm).upd hu fun q hq => hq.1).more fun q hq _ => hq.2
  · exact ((hr.t.more hm).upd hu fun q hq => hq.1).more fun q hq _ => hq.2
/-- the store goes on -/
theorem FRel.goB (h : FRel w0 wr g gs z t T Ss) (hr : FRows wr T Ss z keys was turned A8 A9 A10) (hp : PAt Ss w' gs t') (hu : Upd Ss wr w') :
    FRel w0 w' g gs z t' T Ss ∧ FRows w' T Ss z keys was turned A8 A9 A10 :=
  ⟨⟨h.a.upd hu fun q hq e => h.dis q hq e, hp, h.ge, h.dis, h.bel.trans (hu.below h.bel.size fun q hq e => by have := h.ge.2 q e; omega), h.rz⟩, ⟨hr.k.upd hu fun q hq => hq.2, hr.w.upd hu fun q hq => hq.2, hr.t.upd hu fun q hq => hq.2, hr.len, hr.fz⟩⟩
end
end Go.Proofs.YtefigpmkiemfhaaDoor

namespace Go.Proofs.YtefigpmkiemfhaaDoor
open Go.RowKit
set_option linter.unusedVariables false
set_option linter.unusedSimpArgs false

/-- an act -/
structure SA where
  kind : Int
  ks : List ByteArray
  ws : List Wr
  A1 : Option Addr
  c1 : Nat
  A2 : Option Addr
  c2 : Nat
def scells (a : SA) : List Value := [.int .i64 a.kind, .slice a.A1 a.ks.length a.c1, .slice a.A2 a.ws.length a.c2]
def SA.ok (S : Nat → Prop) (w : World) (a : SA) : Prop := Rd S w 1 a.A1 a.ks.length (strs a.ks) ∧ Rd S w 5 a.A2 a.ws.length (wrCells a.ws)
structure SActs (S : Nat → Prop) (w : World) (A : Option Addr) (us : List SA) : Prop where
  row : Rd S w 3 A us.length (us.flatMap scells)
  ok : ∀ a ∈ us, a.ok S w
theorem SActs.keep {S : Nat → Prop} {w w' : World} {A : Option Addr} {us : List SA} (h : SActs S w A us) (hk : ∀ b, S b → b < w.heap.size → w'.heap[b]? = w.heap[b]?) : SActs S w' A us := ⟨h.row.keep hk, fun a ha => ⟨(h.ok a ha).1.keep hk, (h.ok a ha).2.keep hk⟩⟩
theorem SActs.below {S : Nat → Prop} {w w' : World} {A : Option Addr} {us : List SA} (h : SActs S w A us) (hb : Below w.heap.size w w') : SActs S w' A us := h.keep fun b _ hl => hb.block b hl
theorem aflat_at {α : Type} (f : α → List Value) (sz : Nat) (hf : ∀ a, (f a).length = sz) (l : List α) (k j : Nat) (h : k < l.length) (hj : j < sz) : (l.flatMap f)[k * sz + j]? = (f l[k])[j]? := by
  induction l generalizing k with
  | nil => simp at h
  | cons x l ih =>
    rw [List.flatMap_cons]
    cases k with
    | zero => rw [List.getElem?_append_left (by rw [hf]; omega)]; simp
    | succ k =>
      rw [List.getElem?_append_right (by rw [hf, Nat.succ_mul]; omega), hf, show (k + 1) * sz + j - sz = k * sz + j by rw [Nat.succ_mul]; omega, ih k (by simpa using h)]
      simp
theorem SActs.at_ {S : Nat → Prop} {w : World} {A : Option Addr} {us : List SA} {k : Nat} (h : SActs S w A us) (hk : k < us.length) : ∃ b o, A = some ⟨b, o, none⟩ ∧ S b ∧ b < w.heap.size ∧ us[k].ok S w ∧
    w.cell? ⟨b, o + k * 3, none⟩ = some (.int .i64 us[k].kind) ∧ w.cell? ⟨b, o + k * 3 + 1, none⟩ = some (.slice us[k].A1 us[k].ks.length us[k].c1) ∧ w.cell? ⟨b, o + k * 3 + 2, none⟩ = some (.slice us[k].A2 us[k].ws.length us[k].c2) := by
  obtain ⟨b, o, e, hS, hl, hc⟩ := h.row.at_ hk
  have g := fun j (hj : j < 3) u (hu : (scells us[k])[j]? = some u) => hc (k * 3 + j) u (by rw [aflat_at scells 3 (fun _ => rfl) us k j hk hj]; exact hu)
  simp only [← Nat.add_assoc] at g
  exact ⟨b, o, e, hS, hl, h.ok _ (List.getElem_mem hk), g 0 (by omega) _ rfl, g 1 (by omega) _ rfl, g 2 (by omega) _ rfl⟩
def partA (a : SA) : Nat := a.ks.length + a.ws.length
def partsA (us : List SA) : Nat := (us.map partA).sum
theorem partsA_take (us : List SA) (k : Nat) (h : k < us.length) : partsA (us.take (k + 1)) = partsA (us.take k) + partA us[k] := by
  unfold partsA
  rw [List.take_succ_eq_append_getElem h, List.map_append, List.sum_append, List.map_cons, List.map_nil, List.sum_cons, List.sum_nil]
  omega
theorem sum_take_le (l : List Nat) (k : Nat) : (l.take k).sum ≤ l.sum := by
  induction l generalizing k with
  | nil => simp
  | cons a l ih =>
    cases k with
    | zero => simp
    | succ k => have := ih k; simp; omega
theorem partsA_le (us : List SA) (k : Nat) : partsA (us.take k) ≤ partsA us := by
  unfold partsA
  have := sum_take_le (us.map partA) k
  rwa [← List.map_take] at this
theorem partsA_mem {us : List SA} {a : SA} (h : a ∈ us) : partA a ≤ partsA us := by
  unfold partsA
  induction us with
  | nil => cases h
  | cons x l ih =>
    rw [List.map_cons, List.sum_cons]
    rcases List.mem_cons.1 h with rfl | h
    · omega
    · have := ih h; omega
def longB (us : List SA) : Bool := decide (200 < us.length) || decide (6000 < partsA us)
end Go.Proofs.YtefigpmkiemfhaaDoor

namespace Go.Proofs.YtefigpmkiemfhaaDoor
open Go.RowKit
set_option linter.unusedVariables false

theorem SActs.all {S : Nat → Prop} {w : World} {A : Option Addr} {us : List SA} (h : SActs S w A us) : SActs (fun b => b < w.heap.size) w A us := ⟨h.row.all, fun a ha => ⟨(h.ok a ha).1.all, (h.ok a ha).2.all⟩⟩
def okKs (ks : List ByteArray) : Prop := ∀ k ∈ ks, k.size ≤ 9223372036854775806
def okWs (ws : List Wr) : Prop := ∀ x ∈ ws, x.key.size ≤ 9223372036854775806 ∧ x.v.s.size ≤ 9223372036854775806
section
variable {w w' : World} {B : Nat}
theorem cell_bel {b o : Nat} {v : Value} (h : Below B w w') (hb : b < B) (hc : w.cell? ⟨b, o, none⟩ = some v) : w'.cell? ⟨b, o, none⟩ = some v := (Upd.of_below (M := fun j => B ≤ j) h fun _ _ h => h).cell hc (by omega)
end
end Go.Proofs.YtefigpmkiemfhaaDoor

namespace Go.Proofs.YtefigpmkiemfhaaDoor
open Go.RowKit
set_option linter.unusedVariables false
set_option linter.unusedSimpArgs false

theorem zlong_no {us : List ZA} {nb : Nat} (h : longZ us nb = false) : us.length ≤ 200 ∧ ∀ a ∈ us, a.ks.length ≤ 3000 ∧ a.ws.length ≤ 3000 := by
  unfold longZ at h
  simp at h
  refine ⟨by omega, fun a ha => ?_⟩
  have := partsZ_mem ha
  unfold partZ at this
  omega
theorem good_pr {p r : Int} (h : goodPR p r = true) : ∃ p' r' : Nat, p = p' ∧ r = r' ∧ (1 ≤ p' ∧ p' ≤ 64) ∧ (1 ≤ r' ∧ r' ≤ 4096) := by
  unfold goodPR at h
  simp at h
  exact ⟨p.toNat, r.toNat, by omega, by omega, by omega, by omega⟩


theorem claim_s (z : Zg) (ks : List ByteArray) : (z.claim ks).s = claimS z.s ks := by
  unfold Zg.claim
  split
  · rfl
  · rename_i h; rw [claimS_no h]
theorem apply_s (z : Zg) (ws : List Wr) : (z.apply ws).s = applyS z.s ws := by
  unfold Zg.apply
  split
  · rfl
  · rename_i h; rw [applyS_no h]
theorem begin_s (z : Zg) (m : Int) : (z.begin m).s = z.s := by unfold Zg.begin; split <;> rfl
theorem take_s (z : Zg) : z.take.s = z.s := by unfold Zg.take; split <;> rfl
theorem drop_s (z : Zg) : z.drop.s = z.s := by unfold Zg.drop; split <;> rfl
theorem claim_u (z : Zg) (ks : List ByteArray) : (z.claim ks).under = z.under := by unfold Zg.claim; split <;> rfl
theorem apply_u (z : Zg) (ws : List Wr) : (z.apply ws).under = z.under := by unfold Zg.apply; split <;> rfl
theorem drop_u (z : Zg) : z.drop.under = false := by
  unfold Zg.drop
  split
  · rfl
  · rename_i h; simpa using h
theorem step_s (z : Zg) (n : Int) : (z.step n).s = z.s := rfl
theorem rd_ints {S : Nat → Prop} {w : World} {A : Option Addr} {ks : List ByteArray} {f : ByteArray → Int} (h : Rd S w 1 A ks.length (intCells (ks.map f))) {i : Nat} (hi : i < ks.length) : ∃ b o, A = some ⟨b, o, none⟩ ∧ w.cell? ⟨b, o + i, none⟩ = some (.int .i64 (f (ks[i]'hi))) := by
  obtain ⟨b, o, e, _, _, hc⟩ := h.at_ hi
  exact ⟨b, o, e, hc i _ (by unfold intCells; simp [hi])⟩
section
variable {w : World}
set_option maxRecDepth 100000 in
set_option maxHeartbeats 20000000 in
theorem frozen_walk (p r : Int) {A B : Option Addr} {c nb cb : Nat} {us : List ZA} (h : ZActs (fun b => b < w.heap.size) w A us) (hn : us.length ≤ 1048576) (hp : partsZ us ≤ 1048576) (hnb : nb ≤ 1048576) (hz0 : ∀ a ∈ us, okKs a.ks ∧ okWs a.ws) (hv0 : ∀ a ∈ us, ∀ x ∈ a.ws, x.v.rng) (he0 : Env w) :
    Calls Tryd.prog 4 #[.agg #[.slice B nb cb, .int .i64 p, .int .i64 r, .slice A us.length c]] w fun e w' => e = .returned (.bool true) ∧ Below w.heap.size w w' := by
  have hB0 : Below w.heap.size w (w.alloc (.cells #[.slice B nb cb, .int .i64 p, .int .i64 r, .slice A us.length c] 25)) := (Below.refl _ _).alloc (Nat.le_refl _) _
  have kb := hid (Blk.new w 25 #[.slice B nb cb, .int .i64 p, .int .i64 r, .slice A us.length c])
  have hs := hid h
  have hB := hid hB0
  have hE := hid he0
  have hlong := hid (zlong_any (cb := cb) (c := c) (B := B) p r (h.below hB0) hn hp hnb)
  have hz := hid hz0
  have hv := hid hv0
  clear h hB0 hn hp hnb hz0 hv0 he0
  go_enter Tryd.func4, Tryd.ntmps4
  go_upto_region 1 with fail
  generalize hW1 : w.alloc (.cells #[.slice B nb cb, .int .i64 p, .int .i64 r, .slice A us.length c] 25) = w1 at *
  have hsz1 : Hid (w1.heap.size = w.heap.size + 1) := hid (by rw [← hW1]; simp)
  clear hW1
  have x0 := kb.out.cell 0
  have x1 := kb.out.cell 1
  have x2 := kb.out.cell 2
  have x3 := kb.out.cell 3
  simp only [List.getElem?_toArray, List.getElem?_cons_zero, List.getElem?_cons_succ] at x0 x1 x2 x3
  go_wp2_with fail
  refine hlong.out.mono ?_
  rintro e w2 ⟨rfl, hb2⟩
  have kb2 := hid (kb.out.below_all hb2)
  have hB2 := hid (hB.out.trans (hb2.mono (by have := hsz1.out; omega)))
  clear hb2 hlong hB kb x0 x1 x2 x3
  cases hl : longZ us nb with
  | true =>
    clear hl
    go_wp2_with fail
    refine (live_any _ (hE.out.below hB2.out)).mono ?_
    rintro e wv ⟨rfl, hbv⟩
    have hfb := hid ((hB2.out).trans (hbv.mono (hB2.out).size))
    clear hbv
    go_wp2_with fail
    go_ret
    exact ⟨rfl, hfb.out⟩
  | false =>
  obtain ⟨hn0, hp0⟩ := zlong_no hl
  have hn := hid hn0
  have hp := hid hp0
  clear hl hn0 hp0
  have x0 := kb2.out.cell 0
  have x1 := kb2.out.cell 1
  have x2 := kb2.out.cell 2
  have x3 := kb2.out.cell 3
  simp only [List.getElem?_toArray, List.getElem?_cons_zero, List.getElem?_cons_succ] at x0 x1 x2 x3
  cases hg : goodPR p r with
  | false =>
    have hbd := fun W => hid (znew_bad p r W hg)
    have hbe := fun W => hid (new_bad p r W hg)
    clear hg
    go_wp2_with fail
    refine (hbd _).out.mono ?_
    rintro e wq ⟨rfl, hwq⟩
    obtain rfl := hwq.symm
    go_wp2_with fail
    refine (hbe _).out.mono ?_
    rintro e wq ⟨rfl, hwq⟩
    obtain rfl := hwq.symm
    clear hbd hbe
    go_wp2_with fail
    refine (num_any _ _).mono ?_
    rintro e wq ⟨rfl, hwq⟩
    obtain rfl := hwq.symm
    go_wp2_with fail
    refine (num_any _ _).mono ?_
    rintro e wq ⟨rfl, hwq⟩
    obtain rfl := hwq.symm
    go_wp2_with fail
    refine (num_any _ _).mono ?_
    rintro e wq ⟨rfl, hwq⟩
    obtain rfl := hwq.symm
    go_wp2_with fail
    refine (live_any _ (hE.out.below hB2.out)).mono ?_
    rintro e wv ⟨rfl, hbv⟩
    have hfb := hid ((hB2.out).trans (hbv.mono (hB2.out).size))
    clear hbv
    go_wp2_with fail
    go_ret
    exact ⟨rfl, hfb.out⟩
  | true =>
  obtain ⟨p, r, rfl, rfl, hp1, hr1⟩ := good_pr hg
  have hnw := fun W => hid (znew_ok p r W hp1 hr1)
  have hnx := fun W => hid (new_ok p r W hp1 hr1)
  clear hg hp1 hr1
  go_wp2_with fail
  refine (hnw _).out.mono ?_
  rintro e w3 ⟨T1, g1, rfl, ha1, hT1, hb3⟩
  have kb3 := hid (kb2.out.below_all hb3)
  have ha1 := hid ha1
  have hT1 := hid hT1
  have hb3 := hid hb3
  clear x0 x1 x2 x3
  have x0 := kb3.out.cell 0
  have x1 := kb3.out.cell 1
  have x2 := kb3.out.cell 2
  have x3 := kb3.out.cell 3
  simp only [List.getElem?_toArray, List.getElem?_cons_zero, List.getElem?_cons_succ] at x0 x1 x2 x3
  go_wp2_with fail
  refine (hnx _).out.mono ?_
  rintro e w4 ⟨T2, g2, rfl, ha2, hT2, hb4⟩
  have R4 : Hid (FRel w2 w4 g1 g2 (zg0 p r) ⟨p, r, []⟩ T1 T2) := hid ⟨ha1.out.below hb4, ha2, ⟨hT1.out, fun q hq => Nat.le_trans hb3.out.size (hT2 q hq)⟩, fun q hq e => by have := ha1.out.lt q hq; have := hT2 q e; omega, hb3.out.trans (hb4.mono hb3.out.size), rngz_new p r⟩
  clear ha1 hT1 hb3 ha2 hT2 hb4 x0 x1 x2 x3 kb3 hnw hnx
  go_wp2_with fail
  refine (num_any _ _).mono ?_
  rintro e wq ⟨rfl, hwq⟩
  obtain rfl := hwq.symm
  go_wp2_with fail
  refine (num_any _ _).mono ?_
  rintro e wq ⟨rfl, hwq⟩
  obtain rfl := hwq.symm
  go_wp2_with fail
  go_loopw [7, 8, 9, 10, 11] (fun v7 v8 v9 v10 v11 wr => ∃ (k : Nat) (T Ss : Nat → Prop) (z : Zg) (t : St) (keys : List ByteArray) (was : List Vl) (turned : List Int) (A8 : Option Addr) (c8 : Nat) (A9 : Option Addr) (c9 : Nat) (A10 : Option Addr) (c10 : Nat), v7 = .bool z.under ∧ v8 = .slice A8 keys.length c8 ∧ v9 = .slice A9 was.length c9 ∧ v10 = .slice A10 turned.length c10 ∧ v11 = .int .i64 k ∧ k ≤ us.length ∧ KEq z.s t ∧ FRel w2 wr g1 g2 z t T Ss ∧ FRows wr T Ss z keys was turned A8 A9 A10) (fun _ _ _ _ v _ => us.length - (intOf v).toNat)
  case atStart => exact ⟨0, T1, T2, zg0 p r, ⟨p, r, []⟩, [], [], [], none, 0, none, 0, none, 0, rfl, rfl, rfl, rfl, rfl, Nat.zero_le _, ⟨rfl, rfl, rfl⟩, R4.out, Rd.nil_, Rd.nil_, Rd.nil_, by simp, fun h => by cases h⟩
  case round =>
    clear R4
    obtain ⟨k, T, Ss, z, t, keys, was, turned, A8, c8, A9, c9, A10, c10, rfl, rfl, rfl, rfl, rfl, hkl, hkk0, R0, Q0⟩ := hrel
    have hkk := hid hkk0
    have R := hid R0
    have Q := hid Q0
    have kw := hid (kb2.out.below_all R0.bel)
    have x3 : wr.cell? ⟨w.heap.size, 3, none⟩ = some (.slice A us.length c) := kw.out.cell 3
    clear R0 Q0 hkk0
    by_cases hlt : k < us.length
    · have i1 : (k : Int) < (us.length : Int) := by omega
      have i2 : IntKind.i64.wrap ((k : Int) + 1) = (k : Int) + 1 := by rw [IntKind.wrap_i64]; have := hn.out; omega
      have hB3 := hid (hB2.out.trans (R.out.bel.mono hB2.out.size))
      obtain ⟨b, o, rfl, _, hbl, hok0, y0, y1, y2, y3, y4⟩ := (hs.out.below hB3.out).at_ hlt
      have hpk := hid (hp.out us[k] (List.getElem_mem hlt))
      have hzk := hid (hz.out us[k] (List.getElem_mem hlt))
      have hvk := hid (hv.out us[k] (List.getElem_mem hlt))
      have hok := hid hok0
      clear hok0
      generalize us[k] = a at *
      have hlt9 := hid hlt
      clear hlt hkl
      go_wp2_with fail
      refine (zown_any a hok.out (by have := hpk.out.1; omega) (by have := hpk.out.2; omega)).mono ?_
      rintro e w4 ⟨B1, d1, B2, d2, rfl, ho9, hb9⟩
      have hAL : Below w4.heap.size w4 (w4.alloc (.cells #[.int .i64 a.kind, .slice B1 a.ks.length d1, .slice B2 a.ws.length d2, .int .i64 a.mark, .int .i64 a.n] 36)) := (Below.refl _ _).alloc (Nat.le_refl _) _
      have hb5 := hid (hb9.trans (hAL.mono hb9.size))
      have R5 := hid (R.out.below hb5.out)
      have Q5 := hid (Q.out.below hb5.out)
      have oA := hid (ho9.below hAL)
      have kA := hid (Blk.new w4 36 #[.int .i64 a.kind, .slice B1 a.ks.length d1, .slice B2 a.ws.length d2, .int .i64 a.mark, .int .i64 a.n])
      have lA := hid hb9.size
      have hT1 : Hid (∀ q, T q → q < wr.heap.size) := hid R.out.a.lt
      have hT2 : Hid (∀ q, Ss q → q < wr.heap.size) := hid (by obtain ⟨_, _, _, _, hpp⟩ := R.out.b; exact hpp.lt)
      clear ho9 hb9 hAL R Q x3 y0 y1 y2 y3 y4 hok
      go_upto_block 2 with fail
      generalize w4.alloc (.cells #[.int .i64 a.kind, .slice B1 a.ks.length d1, .slice B2 a.ws.length d2, .int .i64 a.mark, .int .i64 a.n] 36) = w5 at *
      generalize w4.heap.size = m at *
      have c0 : w5.cell? ⟨m, 0, none⟩ = some (.int .i64 a.kind) := kA.out.cell 0
      go_cut [7, 8, 9, 10] (fun v7 v8 v9 v10 wx => ∃ (T Ss : Nat → Prop) (z : Zg) (t : St) (keys : List ByteArray) (was : List Vl) (turned : List Int) (A8 : Option Addr) (c8 : Nat) (A9 : Option Addr) (c9 : Nat) (A10 : Option Addr) (c10 : Nat), v7 = .bool z.under ∧ v8 = .slice A8 keys.length c8 ∧ v9 = .slice A9 was.length c9 ∧ v10 = .slice A10 turned.length c10 ∧ KEq z.s t ∧ FRel w2 wx g1 g2 z t T Ss ∧ FRows wx T Ss z keys was turned A8 A9 A10)
      case first =>
        by_cases e1 : a.kind = 1
        · have t11 : (a.kind == 1) = true := by rw [e1]; rfl
          have t12 : (a.kind == 2) = false := by rw [e1]; rfl
          have t13 : (a.kind == 3) = false := by rw [e1]; rfl
          have t14 : (a.kind == 4) = false := by rw [e1]; rfl
          have t15 : (a.kind == 5) = false := by rw [e1]; rfl
          have t16 : (a.kind == 6) = false := by rw [e1]; rfl
          clear e1
          have c1 : w5.cell? ⟨m, 1, none⟩ = some (.slice B1 a.ks.length d1) := kA.out.cell 1
          go_wp2_with fail
          refine (zclaim_any (c := d1) a.ks R5.out.a oA.out.ks (fun q hq hT => by have := hT1.out q hT; have := lA.out; omega) hzk.out.1 (by have := hpk.out.1; omega)).mono ?_
          rintro e w6 ⟨rfl, hgo⟩
          obtain ⟨T', R60, Q60, hu6, _⟩ := R5.out.goA Q5.out hgo (rngz_claim R5.out.rz _) (fun hu => (Q5.out.fz (by rw [claim_u] at hu; exact hu)).claim _)
          have R6 := hid R60
          have Q6 := hid Q60
          clear hgo R60 Q60 R5 Q5
          have kA6 := hid (kA.out.upd hu6 fun e => by have := hT1.out _ e; have := lA.out; omega)
          have oA6 := hid (oA.out.ks.upd hu6 fun q hq e => by have := hT1.out _ e; have := lA.out; omega)
          have c1 : w6.cell? ⟨m, 1, none⟩ = some (.slice B1 a.ks.length d1) := kA6.out.cell 1
          clear hu6
          go_wp2_with fail
          refine (claim_any (c := d1) a.ks R6.out.b oA6.out (fun q hq hT => by have := hT2.out q hT; have := lA.out; omega) hzk.out.1 (by have := hpk.out.1; omega)).mono ?_
          rintro e w7 ⟨rfl, hP, hu⟩
          obtain ⟨R70, Q70⟩ := R6.out.goB Q6.out hP hu
          have R7 := hid R70
          have Q7 := hid Q70
          clear hP hu R70 Q70 R6 Q6
          go_wp2_with fail
          go_meet
          case rel => exact ⟨T', Ss, z.claim a.ks, claimS t a.ks, keys, was, turned, A8, c8, A9, c9, A10, c10, by rw [claim_u], rfl, rfl, rfl, by rw [claim_s]; exact hkk.out.claim _, R7.out, Q7.out⟩
        have tk1 : (a.kind == 1) = false := by simpa using e1
        clear e1
        by_cases e2 : a.kind = 2
        · have t22 : (a.kind == 2) = true := by rw [e2]; rfl
          have t23 : (a.kind == 3) = false := by rw [e2]; rfl
          have t24 : (a.kind == 4) = false := by rw [e2]; rfl
          have t25 : (a.kind == 5) = false := by rw [e2]; rfl
          have t26 : (a.kind == 6) = false := by rw [e2]; rfl
          clear e2
          have c2 : w5.cell? ⟨m, 2, none⟩ = some (.slice B2 a.ws.length d2) := kA.out.cell 2
          go_wp2_with fail
          refine (zapply_any (c := d2) a.ws R5.out.a oA.out.ws (fun q hq hT => by have := hT1.out q hT; have := lA.out; omega) hzk.out.2 (by have := hpk.out.2; omega)).mono ?_
          rintro e w6 ⟨rfl, hgo⟩
          obtain ⟨T', R60, Q60, hu6, _⟩ := R5.out.goA Q5.out hgo (rngz_apply R5.out.rz hvk.out) (fun hu => (Q5.out.fz (by rw [apply_u] at hu; exact hu)).apply _)
          have R6 := hid R60
          have Q6 := hid Q60
          clear hgo R60 Q60 R5 Q5
          go_wp2_with fail
          go_meet
          case rel => exact ⟨T', Ss, z.apply a.ws, t, keys, was, turned, A8, c8, A9, c9, A10, c10, by rw [apply_u], rfl, rfl, rfl, by rw [apply_s]; exact hkk.out.apply _, R6.out, Q6.out⟩
        have tk2 : (a.kind == 2) = false := by simpa using e2
        clear e2
        by_cases e3 : a.kind = 3
        · have t33 : (a.kind == 3) = true := by rw [e3]; rfl
          have t34 : (a.kind == 4) = false := by rw [e3]; rfl
          have t35 : (a.kind == 5) = false := by rw [e3]; rfl
          have t36 : (a.kind == 6) = false := by rw [e3]; rfl
          clear e3
          have c3 : w5.cell? ⟨m, 3, none⟩ = some (.int .i64 a.mark) := kA.out.cell 3
          by_cases e0 : z.beginE a.mark = 0
          · have h0 := hid e0
            have hu9 : Hid ((z.begin a.mark).under = true) := hid (by unfold Zg.begin; rw [if_pos e0])
            have hbg := hid (zbegin_any a.mark R5.out.a)
            rw [e0] at hbg
            clear e0
            go_wp2_with fail
            refine hbg.out.mono ?_
            rintro e w6 ⟨rfl, hgo⟩
            obtain ⟨T', R60, _, _, _⟩ := R5.out.goA (⟨Rd.nil_, Rd.nil_, Rd.nil_, by simp, fun _ => ⟨by simp, rfl, rfl⟩⟩ : FRows w5 T Ss z [] [] [] none none none) hgo (rngz_begin R5.out.rz _) (fun _ => ⟨by simp, rfl, rfl⟩)
            have R6 := hid R60
            clear hgo R60 R5 Q5 hbg
            go_wp2_with fail
            refine (num_any _ _).mono ?_
            rintro e wq ⟨rfl, hwq⟩
            obtain rfl := hwq.symm
            go_wp2_with fail
            refine (keys_any R6.out.b).mono ?_
            rintro e w7 ⟨A18, c18, rfl, ho, hb⟩
            have hlo : Hid (∀ q, w6.heap.size ≤ q → Off T' Ss q) := hid fun q hq => ⟨fun e => by have := R6.out.a.lt q e; omega, fun e => by have := R6.out.b.lt q e; omega⟩
            have hlen : Hid (t.L.length ≤ 1000000) := hid (by have h1 := R6.out.a.ok.s.len; rw [begin_s] at h1; have h2 := congrArg List.length hkk.out.keys; simp only [List.length_map] at h2; have h3 : z.s.L.length ≤ 262144 := (by simpa using h1); omega)
            have hL : Hid (t.L.length = (t.L.map (·.1)).length) := hid (by rw [List.length_map])
            rw [hL.out] at ho hlen ⊢
            have hK : Hid (t.L.map (·.1) = z.s.L.map (·.1)) := hid hkk.out.keys.symm
            generalize t.L.map (·.1) = K at *
            have R7 := hid (R6.out.below hb)
            have k7 := hid ((Rd.of_own' ho).more fun q hq _ => hlo.out q hq)
            have hs6 := hid hb.size
            clear ho hb R6 hL
            go_wp2_with fail
            refine (frozen_any (c := c18) K R7.out.a k7.out hlen.out).mono ?_
            rintro e w8 ⟨A19, c19, rfl, ho, hb⟩
            have R8 := hid (R7.out.below hb)
            have k8 := hid (k7.out.below_all hb)
            have f8 := hid ((Rd.of_own' ho).more fun q hq _ => hlo.out q (by have := hs6.out; omega))
            have hs7 := hid hb.size
            clear ho hb R7 k7
            go_wp2_with fail
            refine (bits_any (c := c18) K R8.out.a k8.out hlen.out).mono ?_
            rintro e w9 ⟨A20, c20, rfl, ho, hb⟩
            have R9 := hid (R8.out.below hb)
            have k9 := hid (k8.out.below_all hb)
            have f9 := hid (f8.out.below_all hb)
            have b9 := hid ((Rd.of_own' ho).more fun q hq _ => hlo.out q (by have := hs6.out; have := hs7.out; omega))
            clear ho hb R8 k8 f8
            go_wp2_with fail
            go_loopw [13] (fun v wz => ∃ i : Nat, v = .int .i64 i ∧ i ≤ K.length ∧ Below w9.heap.size w9 wz) (fun v _ => K.length - (intOf v).toNat)
            case atStart => exact ⟨0, rfl, Nat.zero_le _, Below.refl _ _⟩
            case round =>
              rename World => wz
              obtain ⟨i, rfl, hil, hbz0⟩ := hrel
              have hbz := hid hbz0
              clear hbz0
              by_cases hli : i < K.length
              · have j1 : (i : Int) < (K.length : Int) := by omega
                have j2 : IntKind.i64.wrap ((i : Int) + 1) = (i : Int) + 1 := by rw [IntKind.wrap_i64]; have := hlen.out; omega
                obtain ⟨b18, o18, hA18, _, _, y0⟩ := rd_strs (k9.out.below_all hbz.out) hli
                subst hA18
                have hbb := hid (begin_bits h0.out (k := K[i]'hli) (by have h9 := List.getElem_mem hli; obtain ⟨y, hy⟩ : ∃ y, y = K[i]'hli := ⟨_, rfl⟩; rw [← hy] at h9 ⊢; rw [hK.out] at h9; obtain ⟨x, hx, e⟩ := List.mem_map.1 h9; exact hasK_mem.2 ⟨x, hx, e⟩))
                generalize K[i] = key at *
                have hli9 := hid hli
                clear hli hil
                go_wp2_with fail
                refine (zbits2 key (R9.out.below hbz.out).a).mono ?_
                rintro e w10 ⟨rfl, hb⟩
                have hbx := hid (hbz.out.trans (hb.mono hbz.out.size))
                have hnb : (bitR (z.begin a.mark) key == bitW (z.begin a.mark) key) = false := by simpa using hbb.out
                generalize bitR (z.begin a.mark) key = x1 at *
                generalize bitW (z.begin a.mark) key = x2 at *
                clear hb hbb
                go_wp2_with fail
                go_roundw
                case rel => exact ⟨i + 1, by go_num, hli9.out, hbx.out⟩
                case measure => simp [intOf]; have := hli9.out; omega
              · obtain rfl : i = K.length := by omega
                clear hli hil
                have R10 := hid (R9.out.below hbz.out)
                have QQ : Hid (FRows wz T' Ss (z.begin a.mark) K (K.map (frozK (z.begin a.mark))) (K.map (bitW (z.begin a.mark))) A18 A19 A20) := hid ⟨k9.out.below_all hbz.out, by rw [List.length_map]; exact f9.out.below_all hbz.out, by rw [List.length_map]; exact b9.out.below_all hbz.out, hlen.out, fun _ => by rw [hK.out]; exact begin_froz h0.out⟩
                clear k9 f9 b9 R9
                go_wp2_with fail
                go_meet
                case rel => exact ⟨T', Ss, z.begin a.mark, t, K, _, _, A18, c18, A19, c19, A20, c20, by rw [hu9.out], rfl, by rw [List.length_map], by rw [List.length_map], by rw [begin_s]; exact hkk.out, R10.out, QQ.out⟩
          · have hz : Hid (z.begin a.mark = z) := hid (by unfold Zg.begin; rw [if_neg e0])
            have hbg := hid (zbegin_any a.mark R5.out.a)
            rw [hz.out] at hbg
            have t0 : (z.beginE a.mark == 0) = false := by simpa using e0
            generalize z.beginE a.mark = n9 at *
            clear e0
            go_wp2_with fail
            refine hbg.out.mono ?_
            rintro e w6 ⟨rfl, hgo⟩
            obtain ⟨T', R60, Q60, _, _⟩ := R5.out.goA Q5.out hgo R5.out.rz Q5.out.fz
            have R6 := hid R60
            have Q6 := hid Q60
            clear hgo R60 Q60 R5 Q5 hbg
            go_wp2_with fail
            refine (num_any _ _).mono ?_
            rintro e wq ⟨rfl, hwq⟩
            obtain rfl := hwq.symm
            go_wp2_with fail
            go_meet
            case rel => exact ⟨T', Ss, z, t, keys, was, turned, A8, c8, A9, c9, A10, c10, rfl, rfl, rfl, rfl, hkk.out, R6.out, Q6.out⟩
        have tk3 : (a.kind == 3) = false := by simpa using e3
        clear e3
        by_cases e4 : a.kind = 4
        · have t44 : (a.kind == 4) = true := by rw [e4]; rfl
          have t45 : (a.kind == 5) = false := by rw [e4]; rfl
          have t46 : (a.kind == 6) = false := by rw [e4]; rfl
          clear e4
          have c4 : w5.cell? ⟨m, 4, none⟩ = some (.int .i64 a.n) := kA.out.cell 4
          go_wp2_with fail
          refine (zstep_any a.n R5.out.a).mono ?_
          rintro e w6 ⟨rfl, hgo⟩
          obtain ⟨T', R60, Q60, hu6, _⟩ := R5.out.goA Q5.out hgo (rngz_step R5.out.rz _) (fun hu => (Q5.out.fz hu).step _)
          have R6 := hid R60
          have Q6 := hid Q60
          clear hgo R60 Q60 R5 Q5
          go_wp2_with fail
          go_meet
          case rel => exact ⟨T', Ss, z.step a.n, t, keys, was, turned, A8, c8, A9, c9, A10, c10, rfl, rfl, rfl, rfl, hkk.out, R6.out, Q6.out⟩
        have tk4 : (a.kind == 4) = false := by simpa using e4
        clear e4
        by_cases e5 : a.kind = 5
        · have t55 : (a.kind == 5) = true := by rw [e5]; rfl
          have t56 : (a.kind == 6) = false := by rw [e5]; rfl
          clear e5
          have htk := hid (ztake_any R5.out.a (fun W hW => hE.out.below ((hB2.out.trans (R5.out.bel.mono hB2.out.size)).trans (hW.below (hB2.out.trans (R5.out.bel.mono hB2.out.size)).size fun q hq e => by have := R5.out.ge.1 q e; have := hB2.out.size; omega))) R5.out.rz)
          cases hu0 : z.under with
          | true =>
            cases hc0 : z.canTake with
            | true =>
              have hu9 : Hid (z.under = true) := hid hu0
              have hc9 : Hid (z.canTake = true) := hid hc0
              have hT9 : Hid (z.take.under = false) := hid (by unfold Zg.take; rw [if_pos hc0])
              clear hu0 hc0
              go_wp2_with fail
              refine htk.out.mono ?_
              rintro e w6 ⟨hgo, mk, A12, n12, c12, rfl, _, _⟩
              obtain ⟨T', R60, Q60, _, _⟩ := R5.out.goA Q5.out hgo (rngz_take R5.out.rz) (fun hu => (by rw [hT9.out] at hu; cases hu))
              have R6 := hid R60
              have Q6 := hid Q60
              clear hgo R60 Q60 R5 Q5 htk
              rw [hc9.out]
              go_wp2_with fail
              have hAL : ∀ o, Below w6.heap.size w6 (w6.alloc o) := fun o => (Below.refl _ _).alloc (Nat.le_refl _) o
              go_meet
              case rel => exact ⟨T', Ss, z.take, t, keys, was, turned, A8, c8, A9, c9, A10, c10, by rw [hT9.out], rfl, rfl, rfl, by rw [take_s]; exact hkk.out, R6.out.below (hAL _), Q6.out.below (hAL _)⟩
            | false =>
              have hu9 : Hid (z.under = true) := hid hu0
              have hc9 : Hid (z.canTake = false) := hid hc0
              have hT9 : Hid (z.take.under = true) := hid (by unfold Zg.take; rw [if_neg (by rw [hc0]; decide)]; exact hu0)
              clear hu0 hc0
              go_wp2_with fail
              refine htk.out.mono ?_
              rintro e w6 ⟨hgo, mk, A12, n12, c12, rfl, _, _⟩
              obtain ⟨T', R60, Q60, _, _⟩ := R5.out.goA Q5.out hgo (rngz_take R5.out.rz) (fun hu => (Q5.out.fz hu9.out).take)
              have R6 := hid R60
              have Q6 := hid Q60
              clear hgo R60 Q60 R5 Q5 htk
              rw [hc9.out]
              go_wp2_with fail
              have hAL : ∀ o, Below w6.heap.size w6 (w6.alloc o) := fun o => (Below.refl _ _).alloc (Nat.le_refl _) o
              go_meet
              case rel => exact ⟨T', Ss, z.take, t, keys, was, turned, A8, c8, A9, c9, A10, c10, by rw [hT9.out], rfl, rfl, rfl, by rw [take_s]; exact hkk.out, R6.out.below (hAL _), Q6.out.below (hAL _)⟩
          | false =>
            have hu9 : Hid (z.under = false) := hid hu0
            have hT9 : Hid (z.take.under = false) := hid (by unfold Zg.take; split; rfl; exact hu0)
            clear hu0
            go_wp2_with fail
            refine htk.out.mono ?_
            rintro e w6 ⟨hgo, mk, A12, n12, c12, rfl, _, _⟩
            obtain ⟨T', R60, Q60, _, _⟩ := R5.out.goA Q5.out hgo (rngz_take R5.out.rz) (fun hu => (by rw [hT9.out] at hu; cases hu))
            have R6 := hid R60
            have Q6 := hid Q60
            clear hgo R60 Q60 R5 Q5 htk
            go_wp2_with fail
            have hAL : ∀ o, Below w6.heap.size w6 (w6.alloc o) := fun o => (Below.refl _ _).alloc (Nat.le_refl _) o
            go_meet
            case rel => exact ⟨T', Ss, z.take, t, keys, was, turned, A8, c8, A9, c9, A10, c10, by rw [hT9.out], rfl, rfl, rfl, by rw [take_s]; exact hkk.out, R6.out.below (hAL _), Q6.out.below (hAL _)⟩
        have tk5 : (a.kind == 5) = false := by simpa using e5
        clear e5
        by_cases e6 : a.kind = 6
        · have t66 : (a.kind == 6) = true := by rw [e6]; rfl
          clear e6
          go_wp2_with fail
          refine (zdrop_any R5.out.a).mono ?_
          rintro e w6 ⟨rfl, hgo⟩
          obtain ⟨T', R60, Q60, hu6, _⟩ := R5.out.goA Q5.out hgo (rngz_drop R5.out.rz) (fun hu => (by rw [drop_u] at hu; cases hu))
          have R6 := hid R60
          have Q6 := hid Q60
          clear hgo R60 Q60 R5 Q5
          go_wp2_with fail
          go_meet
          case rel => exact ⟨T', Ss, z.drop, t, keys, was, turned, A8, c8, A9, c9, A10, c10, by rw [drop_u], rfl, rfl, rfl, by rw [drop_s]; exact hkk.out, R6.out, Q6.out⟩
        have tk6 : (a.kind == 6) = false := by simpa using e6
        clear e6
        go_wp2_with fail
        go_meet
        case rel => exact ⟨T, Ss, z, t, keys, was, turned, A8, c8, A9, c9, A10, c10, rfl, rfl, rfl, rfl, hkk.out, R5.out, Q5.out⟩
      case rest =>
        obtain ⟨T, Ss, z, t, keys, was, turned, A8, c8, A9, c9, A10, c10, rfl, rfl, rfl, rfl, hkk0, R0, Q0⟩ := hcut
        clear R5 Q5 oA kA lA hT1 hT2 c0 hkk hpk hzk hvk
        have hkk := hid hkk0
        have R := hid R0
        have Q := hid Q0
        clear hkk0 R0 Q0
        rename World => wc
        go_wp2_with fail
        refine (bits_any (c := c8) keys R.out.a Q.out.k Q.out.len).mono ?_
        rintro e w6 ⟨A18, c18, rfl, ho, hb⟩
        have R6 := hid (R.out.below hb)
        have Q6 := hid (Q.out.below hb)
        have nw := hid (Rd.of_own ho).all
        clear ho hb R Q
        cases hu0 : z.under with
        | false =>
          have hu9 : Hid (z.under = false) := hid hu0
          clear hu0
          go_wp2_with fail
          go_loopw [19] (fun v wz => v = .int .i64 0 ∧ wz = w6) (fun v _ => 0)
          case atStart => exact ⟨rfl, rfl⟩
          case round =>
            obtain ⟨rfl, hwz⟩ := hrel
            obtain rfl := hwz.symm
            go_wp2_with fail
            go_roundw
            case rel => exact ⟨k + 1, T, Ss, z, t, keys, was, turned, A8, c8, A9, c9, A10, c10, by rw [hu9.out], rfl, rfl, rfl, by go_num, hlt9.out, hkk.out, R6.out, Q6.out⟩
            case measure => simp [intOf]; have := hlt9.out; omega
        | true =>
          have hu9 : Hid (z.under = true) := hid hu0
          have hfz := hid (Q6.out.fz hu0)
          clear hu0
          obtain rfl := hfz.out.turned
          obtain rfl := hfz.out.was
          have hkn := hid Q6.out.len
          have tr : Hid (Rd (fun q => q < w6.heap.size) w6 1 A10 keys.length (intCells (keys.map (bitW z)))) := hid (by have := Q6.out.t.all; rwa [List.length_map] at this)
          have h18 := hid nw.out
          simp only [List.length_map]
          go_wp2_with fail
          go_loopw [19] (fun v wz => ∃ i : Nat, v = .int .i64 i ∧ i ≤ keys.length ∧ Below w6.heap.size w6 wz) (fun v _ => keys.length - (intOf v).toNat)
          case atStart => exact ⟨0, rfl, Nat.zero_le _, Below.refl _ _⟩
          case round =>
            rename World => wz
            obtain ⟨i, rfl, hil, hbz0⟩ := hrel
            have hbz := hid hbz0
            clear hbz0
            by_cases hli : i < keys.length
            · as_aux_lemma =>
              have j1 : (i : Int) < (keys.length : Int) := by omega
              have j2 : IntKind.i64.wrap ((i : Int) + 1) = (i : Int) + 1 := by rw [IntKind.wrap_i64]; have := hkn.out; omega
              obtain ⟨b18, o18, hA18, _⟩ := rd_ints h18.out hli
              obtain ⟨b10, o10, hA10, _⟩ := rd_ints tr.out hli
              subst hA18 hA10
              have hy : Hid (∀ w', Below wz.heap.size wz w' → w'.cell? ⟨b18, o18 + i, none⟩ = some (.int .i64 (bitW z (keys[i]'hli))) ∧ w'.cell? ⟨b10, o10 + i, none⟩ = some (.int .i64 (bitW z (keys[i]'hli)))) := hid fun w' hb => by
                obtain ⟨b', o', e', y⟩ := rd_ints (h18.out.below_all (hbz.out.trans (hb.mono hbz.out.size))) hli
                obtain ⟨b'', o'', e'', y'⟩ := rd_ints (tr.out.below_all (hbz.out.trans (hb.mono hbz.out.size))) hli
                cases e'
                cases e''
                exact ⟨y, y'⟩
              generalize bitW z keys[i] = vv at *
              have hne : (vv != vv) = false := by simp
              go_upto_region 45 with fail
              refine wp_region_held_drew (S := fun w'' => Below wz.heap.size wz w'') (by kernel_rfl) ?_ (fun hHeld => ?_)
              · exact (Below.refl _ _).drew
              have hb0 : Hid (Below wz.heap.size wz wz.drew) := hid (Below.refl _ _).drew
              generalize World.drew wz = wd at *
              refine wpAnyH_take (i := 0) (v := ?v1) rfl (by kernel_rfl) (by kernel_rfl) (by kernel_rfl) (fun _ _ _ h => h) (Or.inl ⟨by rfl, ?hy1⟩) (by assumption) ?rest1
              case hy1 => intro w' hSw; have q0 := (hy.out w' hSw).1; have q1 := (hy.out w' hSw).2; (try dsimp only at hSw); go_simp; try with_reducible rfl
              (try simp only [Act.put, List.setIfInBounds_toArray, List.set_cons_zero, List.set_cons_succ, List.getElem_toArray, List.getElem_cons_zero, List.getElem_cons_succ])
              refine wpAnyH_take (i := 1) (v := ?v2) rfl (by kernel_rfl) (by kernel_rfl) (by kernel_rfl) (fun _ _ _ h => h) (Or.inl ⟨by rfl, ?hy2⟩) (by assumption) ?rest2
              case hy2 => intro w' hSw; have q0 := (hy.out w' hSw).1; have q1 := (hy.out w' hSw).2; (try dsimp only at hSw); go_simp; try with_reducible rfl
              (try simp only [Act.put, List.setIfInBounds_toArray, List.set_cons_zero, List.set_cons_succ, List.getElem_toArray, List.getElem_cons_zero, List.getElem_cons_succ])
              refine wpAnyH_take (i := 2) (v := ?v3) rfl (by kernel_rfl) (by kernel_rfl) (by kernel_rfl) (fun _ _ _ h => h) (Or.inl ⟨by rfl, ?hy3⟩) (by assumption) ?rest3
              case hy3 => intro w' hSw; have q0 := (hy.out w' hSw).1; have q1 := (hy.out w' hSw).2; (try dsimp only at hSw); go_simp; try with_reducible rfl
              (try simp only [Act.put, List.setIfInBounds_toArray, List.set_cons_zero, List.set_cons_succ, List.getElem_toArray, List.getElem_cons_zero, List.getElem_cons_succ])
              refine wpAnyH_take (i := 3) (v := ?v4) rfl (by kernel_rfl) (by kernel_rfl) (by kernel_rfl) (fun _ _ _ h => h) (Or.inl ⟨by rfl, ?hy4⟩) (by assumption) ?rest4
              case hy4 => intro w' hSw; have q0 := (hy.out w' hSw).1; have q1 := (hy.out w' hSw).2; (try dsimp only at hSw); go_simp; try with_reducible rfl
              (try simp only [Act.put, List.setIfInBounds_toArray, List.set_cons_zero, List.set_cons_succ, List.getElem_toArray, List.getElem_cons_zero, List.getElem_cons_succ])
              refine wpAnyH_take (i := 4) (v := ?v5) rfl (by kernel_rfl) (by kernel_rfl) (by kernel_rfl) (fun _ _ _ h => h) (Or.inl ⟨by rfl, ?hy5⟩) (by assumption) ?rest5
              case hy5 => intro w' hSw; have q0 := (hy.out w' hSw).1; have q1 := (hy.out w' hSw).2; (try dsimp only at hSw); go_simp; try with_reducible rfl
              (try simp only [Act.put, List.setIfInBounds_toArray, List.set_cons_zero, List.set_cons_succ, List.getElem_toArray, List.getElem_cons_zero, List.getElem_cons_succ])
              refine wpAnyH_take (i := 5) (v := ?v6) rfl (by kernel_rfl) (by kernel_rfl) (by kernel_rfl) (fun _ _ _ h => h) (Or.inl ⟨by rfl, ?hy6⟩) (by assumption) ?rest6
              case hy6 => intro w' hSw; have q0 := (hy.out w' hSw).1; have q1 := (hy.out w' hSw).2; (try dsimp only at hSw); go_simp; try with_reducible rfl
              (try simp only [Act.put, List.setIfInBounds_toArray, List.set_cons_zero, List.set_cons_succ, List.getElem_toArray, List.getElem_cons_zero, List.getElem_cons_succ])
              refine wpAnyH_take (i := 6) (v := ?v7) rfl (by kernel_rfl) (by kernel_rfl) (by kernel_rfl) (fun _ _ _ h => h) (Or.inl ⟨by rfl, ?hy7⟩) (by assumption) ?rest7
              case hy7 => intro w' hSw; have q0 := (hy.out w' hSw).1; have q1 := (hy.out w' hSw).2; (try dsimp only at hSw); go_simp; try with_reducible rfl
              (try simp only [Act.put, List.setIfInBounds_toArray, List.set_cons_zero, List.set_cons_succ, List.getElem_toArray, List.getElem_cons_zero, List.getElem_cons_succ])
              refine wpAnyH_take (i := 7) (v := ?v8) rfl (by kernel_rfl) (by kernel_rfl) (by kernel_rfl) (fun _ _ _ h => h) (Or.inl ⟨by rfl, ?hy8⟩) (by assumption) ?rest8
              case hy8 => intro w' hSw; have q0 := (hy.out w' hSw).1; have q1 := (hy.out w' hSw).2; (try dsimp only at hSw); go_simp; try with_reducible rfl
              (try simp only [Act.put, List.setIfInBounds_toArray, List.set_cons_zero, List.set_cons_succ, List.getElem_toArray, List.getElem_cons_zero, List.getElem_cons_succ])
              refine wpAnyH_take (i := 8) (v := ?v9) rfl (by kernel_rfl) (by kernel_rfl) (by kernel_rfl) (fun _ _ _ h => h) (Or.inl ⟨by rfl, ?hy9⟩) (by assumption) ?rest9
              case hy9 => intro w' hSw; (try dsimp only at hSw); go_simp; try with_reducible rfl
              (try simp only [Act.put, List.setIfInBounds_toArray, List.set_cons_zero, List.set_cons_succ, List.getElem_toArray, List.getElem_cons_zero, List.getElem_cons_succ])
              refine wpAnyH_done (by kernel_rfl) ?_ _
              go_wp2_with fail
              go_roundw
              case rel => exact ⟨i + 1, by go_num, hli, hbz.out.trans (hb0.out.mono hbz.out.size)⟩
              case measure => simp [intOf]; omega
            · obtain rfl : i = keys.length := by omega
              clear hli hil
              have R7 := hid (R6.out.below hbz.out)
              have Q7 := hid (Q6.out.below hbz.out)
              clear R6 Q6 nw h18 tr
              go_wp2_with fail
              refine (frozen_any (c := c8) keys R7.out.a Q7.out.k Q7.out.len).mono ?_
              rintro e w7 ⟨A19, c19, rfl, ho, hb⟩
              have R8 := hid (R7.out.below hb)
              have Q8 := hid (Q7.out.below hb)
              have nw := hid (Rd.of_own ho).all
              clear ho hb R7 Q7
              go_wp2_with fail
              have hsm := hid (show Calls Tryd.prog 26 #[.slice A19 keys.length c19, .slice A9 keys.length c9] w7 fun e w' => e = .returned (.bool true) ∧ Below w7.heap.size w7 w' from by
                have h9 := same_eq (c := c19) (d := c9) (keys.map (frozK z)) (by rw [List.length_map]; exact nw.out) Q8.out.w (by rw [List.length_map]; exact hkn.out)
                rw [List.length_map] at h9
                exact h9)
              refine hsm.out.mono ?_
              rintro e w8 ⟨rfl, hb⟩
              have R9 := hid (R8.out.below hb)
              have Q9 := hid (Q8.out.below hb)
              clear hb R8 Q8 hsm nw
              go_wp2_with fail
              go_roundw
              case rel => exact ⟨k + 1, T, Ss, z, t, keys, keys.map (frozK z), keys.map (bitW z), A8, c8, A9, c9, A10, c10, by rw [hu9.out], rfl, by rw [List.length_map], by rw [List.length_map], by go_num, hlt9.out, hkk.out, R9.out, Q9.out⟩
              case measure => simp [intOf]; have := hlt9.out; omega
    · obtain rfl : k = us.length := by omega
      clear hlt hkl
      generalize us.length = n9 at *
      go_wp2_with fail
      refine (live_any _ (hE.out.below (hB2.out.trans (R.out.bel.mono hB2.out.size)))).mono ?_
      rintro e wv ⟨rfl, hbv⟩
      have hfb := hid (((hB2.out.trans (R.out.bel.mono hB2.out.size))).trans (hbv.mono ((hB2.out.trans (R.out.bel.mono hB2.out.size))).size))
      clear hbv
      go_wp2_with fail
      go_ret
      exact ⟨rfl, hfb.out⟩
end
end Go.Proofs.YtefigpmkiemfhaaDoor

namespace Go.Proofs.YtefigpmkiemfhaaDoor
open Go.RowKit Go.Deep Go.ChangeShapes
set_option linter.unusedVariables false

theorem bulk_app {H : Type} (l r : List (DataW H)) : Rows.uptoBulkAll (l ++ r) = Rows.uptoBulkAll l + Rows.uptoBulkAll r := by
  induction l with
  | nil => simp [Rows.uptoBulkAll]
  | cons x l ih => simp only [List.cons_append, Rows.uptoBulkAll, ih]; omega
theorem cell_lt {w : World} {a : Addr} {v : Value} (h : w.cell? a = some v) : a.block < w.heap.size := by
  by_cases hl : a.block < w.heap.size
  · exact hl
  · exfalso
    have : w.heap[a.block]? = none := by simp; omega
    unfold World.cell? at h
    split at h <;> simp_all
theorem add_plain (b o j : Nat) : (⟨b, o, none⟩ : Addr).add j = ⟨b, o + j, none⟩ := by
  unfold Addr.add; split <;> simp_all
theorem flat_len {α : Type} (f : α → List Value) (sz : Nat) (hf : ∀ a, (f a).length = sz) (us : List α) : (us.flatMap f).length = us.length * sz := by
  induction us with
  | nil => simp
  | cons r l ih => rw [List.flatMap_cons, List.length_append, hf, ih, List.length_cons, Nat.succ_mul]; omega
/-- rows chosen one by one -/
theorem pick {α H : Type} (D : Nat → DataW H) (μ : α → Nat) (R : Nat → α → Prop) : ∀ len : Nat, (∀ i, i < len → ∃ a, R i a ∧ μ a ≤ Rows.uptoBulk (D i)) →
    ∃ us : List α, us.length = len ∧ (∀ i (h : i < us.length), R i us[i]) ∧ (us.map μ).sum ≤ Rows.uptoBulkAll ((List.range len).map D) := by
  intro len
  induction len with
  | zero => intro _; exact ⟨[], rfl, fun i h => absurd h (by simp), by simp⟩
  | succ n ih =>
    intro h
    obtain ⟨us, hl, hR, hs⟩ := ih fun i hi => h i (by omega)
    obtain ⟨a, ha, hm⟩ := h n (by omega)
    refine ⟨us ++ [a], by simp [hl], fun i hi => ?_, ?_⟩
    · by_cases hin : i < us.length
      · rw [List.getElem_append_left hin]; exact hR i hin
      · have : i = us.length := by simp at hi; omega
        subst this
        rw [List.getElem_append_right (by omega)]
        simpa [hl] using ha
    · rw [List.range_succ, List.map_append (f := D), bulk_app]
      simp only [List.map_append, List.sum_append, List.map_cons, List.map_nil, List.sum_cons, List.sum_nil, Rows.uptoBulkAll]
      omega

/-- a slice's cells, element by element -/
theorem open_rows {α H : Type} {enc : TypeId × Value → H} {w : World} {base : Nat} {spare : Nat → Bool} {held : Bool} {t e : TypeId} {fuel : Nat} {cs : List Value} {x : DataW H × List MemPlace}
    (cf : α → List Value) (μ : α → Nat) (ok : α → Prop) (sz : Nat) (hsz : 0 < sz) (hcf : ∀ a, (cf a).length = sz) (ht : Tryd.prog.underlying t = some (.slice e)) (hce : Tryd.prog.cellsOf e = sz)
    (hE : ∀ n cs' y, DataW.trod enc Tryd.prog w base spare held n e cs' = some y → ∃ a, cs' = cf a ∧ ok a ∧ μ a ≤ Rows.uptoBulk y.1)
    (h : DataW.trod enc Tryd.prog w base spare held fuel t cs = some x) :
    ∃ (A : Option Addr) (us : List α) (c : Nat), cs = [.slice A us.length c] ∧ Rd (fun b => b < w.heap.size) w sz A us.length (us.flatMap cf) ∧ (∀ a ∈ us, ok a) ∧ (us.map μ).sum + 1 ≤ Rows.uptoBulk x.1 := by
  rcases open_slice ht h with ⟨rfl, rfl⟩ | ⟨a, len, cap, m, n, D, Pl, rfl, hb, hl, hm, hmm, rfl, hx⟩
  · exact ⟨none, [], 0, rfl, Rd.nil_, by simp, by simp [Rows.uptoBulk]⟩
  · have hlm : len ≤ m := by rw [hmm]; split <;> omega
    obtain ⟨us, hal, hR, hs⟩ := pick D μ (fun i r => ok r ∧ ∃ cs', cs' = cf r ∧ w.cells? base (a.add (i * sz)) sz = some cs') len (fun i hi => by
      obtain ⟨cs', h1, h2⟩ := hx i (by omega)
      rw [hce] at h1
      obtain ⟨r, e1, e2, e3⟩ := hE _ _ _ h2
      exact ⟨r, ⟨e2, cs', e1, h1⟩, e3⟩)
    refine ⟨some a, us, cap, by rw [hal], ⟨?_, fun h0 => ?_⟩, fun r hr => ?_, ?_⟩
    · exact flat_len cf sz hcf us
    · obtain ⟨_, cs0, e1, e2⟩ := hR 0 h0
      obtain ⟨_, h3, h4⟩ := World.cells?_some e2
      have h5 := h4 0 hsz
      rw [List.getElem?_eq_getElem (by omega)] at h5
      simp at h5
      obtain ⟨b, o, sp⟩ := a
      have h8 : sp = none := by have := World.cell?_spot h5; simpa [Addr.add] using this
      have h9 : b < w.heap.size := by have := cell_lt h5; simpa [Addr.add] using this
      subst h8
      refine ⟨b, o, rfl, h9, h9, fun j u hu => ?_⟩
      have hj : j / sz < us.length := by
        have h1 := (List.getElem?_eq_some_iff.1 hu).1
        rw [flat_len cf sz hcf] at h1
        exact Nat.div_lt_of_lt_mul (by rw [Nat.mul_comm]; exact h1)
      have hjm := Nat.mod_lt j hsz
      have hdm : j / sz * sz + j % sz = j := by rw [Nat.mul_comm]; exact Nat.div_add_mod j sz
      obtain ⟨_, cs1, f1, f2⟩ := hR _ hj
      obtain ⟨_, f3, f4⟩ := World.cells?_some f2
      have f5 := f4 _ hjm
      rw [add_plain, add_plain, Nat.add_assoc, hdm] at f5
      rw [← hdm, aflat_at cf sz hcf us _ _ hj hjm, ← f1, ← f5] at hu
      exact hu
    · obtain ⟨i, hi, rfl⟩ := List.mem_iff_getElem.1 hr
      exact (hR i hi).1
    · simp only [Rows.uptoBulk]; omega

end Go.Proofs.YtefigpmkiemfhaaDoor

namespace Go.Proofs.YtefigpmkiemfhaaDoor
open Go.RowKit Go.Deep Go.ChangeShapes
set_option linter.unusedVariables false
set_option linter.unusedSimpArgs false

theorem cof_int : Tryd.prog.cellsOf 3 = 1 := by kernel_rfl
theorem cof_i64 : Tryd.prog.cellsOf 2 = 1 := by kernel_rfl
theorem cof_bool : Tryd.prog.cellsOf 4 = 1 := by kernel_rfl
theorem cof_str : Tryd.prog.cellsOf 9 = 1 := by kernel_rfl
theorem cof_strs : Tryd.prog.cellsOf 26 = 1 := by kernel_rfl
theorem cof_val : Tryd.prog.cellsOf 47 = 3 := by kernel_rfl
theorem cof_wr : Tryd.prog.cellsOf 67 = 5 := by kernel_rfl
theorem cof_wrs : Tryd.prog.cellsOf 34 = 1 := by kernel_rfl
/-- an int64's range -/
def rng64 (n : Int) : Prop := -9223372036854775808 ≤ n ∧ n ≤ 9223372036854775807
theorem rng_wf {n : Int} (h : (Lit.int IntKind.i64 n).wf = true) : rng64 n := by
  unfold Lit.wf at h
  simp at h
  obtain ⟨h1, h2⟩ := h
  simp only [IntKind.min, IntKind.max] at h1 h2
  exact ⟨h1, h2⟩
def muK (k : ByteArray) : Nat := k.size + 1
def muW (x : Wr) : Nat := x.key.size + x.v.s.size + 2
def muA (a : SA) : Nat := (a.ks.map muK).sum + (a.ws.map muW).sum + 3
section
variable {α : Type}
theorem sum_mem {f : α → Nat} : ∀ {l : List α} {a : α}, a ∈ l → f a ≤ (l.map f).sum
  | b :: l, a, h => by
    rw [List.map_cons, List.sum_cons]
    rcases List.mem_cons.1 h with rfl | h
    · omega
    · have := sum_mem (f := f) h; omega
theorem sum_mono {f h : α → Nat} (hf : ∀ a, f a ≤ h a) : ∀ l : List α, (l.map f).sum ≤ (l.map h).sum
  | [] => Nat.le_refl _
  | b :: l => by
    rw [List.map_cons, List.sum_cons, List.map_cons, List.sum_cons]
    have := sum_mono hf l; have := hf b; omega
theorem sum_len {f : α → Nat} (hf : ∀ a, 1 ≤ f a) : ∀ l : List α, l.length ≤ (l.map f).sum
  | [] => Nat.le_refl _
  | b :: l => by
    rw [List.map_cons, List.sum_cons, List.length_cons]
    have := sum_len hf l; have := hf b; omega
end
theorem muK_one (k : ByteArray) : 1 ≤ muK k := by unfold muK; omega
theorem muW_one (x : Wr) : 1 ≤ muW x := by unfold muW; omega
theorem muA_part (a : SA) : partA a + 3 ≤ muA a := by
  have h1 := sum_len muK_one a.ks
  have h2 := sum_len muW_one a.ws
  unfold partA muA
  omega
theorem muA_ok {a : SA} (h : muA a ≤ 1048576) : okKs a.ks ∧ okWs a.ws := by
  unfold muA at h
  refine ⟨fun k hk => ?_, fun x hx => ?_⟩
  · have := sum_mem (f := muK) hk
    unfold muK at this h
    omega
  · have := sum_mem (f := muW) hx
    have : muW x ≤ 1048576 := by omega
    unfold muW at this
    constructor <;> omega
theorem story_fits {us : List SA} (h : (us.map muA).sum ≤ 1048576) : us.length ≤ 1048576 ∧ partsA us ≤ 1048576 ∧ ∀ a ∈ us, okKs a.ks ∧ okWs a.ws := by
  have h1 := sum_len (f := muA) (fun a => by have := muA_part a; omega) us
  have h2 := sum_mono (f := partA) (h := muA) (fun a => by have := muA_part a; omega) us
  refine ⟨by omega, by unfold partsA; omega, fun a ha => muA_ok ?_⟩
  have := sum_mem (f := muA) ha
  omega
section
variable {H : Type} {enc : TypeId × Value → H} {w : World} {base : Nat} {spare : Nat → Bool} {held : Bool} {fuel : Nat} {cs : List Value} {x : DataW H × List MemPlace}

theorem fieldAt {fs : Array Field} {xs : List (DataW H × List MemPlace)} {n : Nat} (hf : ∀ (i : Nat) (f : Field), fs[i]? = some f → DataW.trod enc Tryd.prog w base spare held n f.type ((cs.drop f.offset).take (Tryd.prog.cellsOf f.type)) = xs[i]?) (i : Nat) {f : Field} (T : TypeId) (o k : Nat) {y : DataW H × List MemPlace}
    (hi : fs[i]? = some f) (hT : f.type = T) (ho : f.offset = o) (hc : Tryd.prog.cellsOf T = k) (hx : xs[i]? = some y) : DataW.trod enc Tryd.prog w base spare held n T ((cs.drop o).take k) = some y := by
  have := hf i f hi
  rw [hT, ho, hc, hx] at this
  exact this
set_option maxRecDepth 100000 in
theorem open_vl (h : DataW.trod enc Tryd.prog w base spare held fuel 47 cs = some x) : ∃ v : Vl, cs = [.int .i64 v.k, .int .i64 v.n, .string v.s] ∧ v.s.size + 1 ≤ Rows.uptoBulk x.1 ∧ rng64 v.n := by
  obtain ⟨xs, n, _, rfl, hl, hlen, hf⟩ := DataW.trod_struct Tryd.underlying47 h
  rw [cof_val] at hl
  match cs, hl, xs, hlen with
  | [c0, c1, c2], _, [y0, y1, y2], _ =>
    have h0 := fieldAt hf 0 3 0 1 (y := y0) rfl rfl rfl cof_int rfl
    have h1 := fieldAt hf 1 2 1 1 (y := y1) rfl rfl rfl cof_i64 rfl
    have h2 := fieldAt hf 2 9 2 1 (y := y2) rfl rfl rfl cof_str rfl
    obtain ⟨k, e0, r0, _⟩ := DataW.trod_int Tryd.underlying3 (x := y0) h0
    obtain ⟨i, e1, r1, w1⟩ := DataW.trod_int Tryd.underlying2 (x := y1) h1
    obtain ⟨s, e2, r2, _⟩ := DataW.trod_string Tryd.underlying9 (x := y2) h2
    simp at e0 e1 e2
    subst e0 e1 e2
    refine ⟨⟨k, i, s⟩, rfl, ?_, rng_wf w1⟩
    rw [r2]
    simp only [Rows.uptoBulk, Rows.uptoBulkAll, List.map_cons, List.map_nil]
    have : s.data.toList.length = s.size := Array.length_toList
    omega
set_option maxRecDepth 100000 in
theorem open_texts (h : DataW.trod enc Tryd.prog w base spare held fuel 26 cs = some x) :
    ∃ (A : Option Addr) (l : List ByteArray) (c : Nat), cs = [.slice A l.length c] ∧ Rd (fun b => b < w.heap.size) w 1 A l.length (strs l) ∧ (l.map muK).sum + 1 ≤ Rows.uptoBulk x.1 := by
  obtain ⟨A, l, c, e, hr, ho, hb⟩ := open_rows (α := ByteArray) (fun s => [Value.string s]) muK (fun _ => True) 1 (by omega) (fun _ => rfl) Tryd.underlying26 cof_str (fun n cs' y hy => by
    obtain ⟨s, e, r, _⟩ := DataW.trod_string Tryd.underlying9 hy
    refine ⟨s, e, trivial, ?_⟩
    rw [r]
    simp only [Rows.uptoBulk, muK]
    have : s.data.toList.length = s.size := Array.length_toList
    omega) h
  refine ⟨A, l, c, e, ?_, by omega⟩
  have : l.flatMap (fun s => [Value.string s]) = strs l := by
    clear hr hb e ho
    induction l with
    | nil => rfl
    | cons a l ih => rw [List.flatMap_cons, ih]; rfl
  rw [← this]; exact hr
set_option maxRecDepth 100000 in
theorem open_write (h : DataW.trod enc Tryd.prog w base spare held fuel 67 cs = some x) : ∃ y : Wr, cs = [.string y.key, .bool y.gone, .int .i64 y.v.k, .int .i64 y.v.n, .string y.v.s] ∧ muW y ≤ Rows.uptoBulk x.1 ∧ rng64 y.v.n := by
  obtain ⟨xs, n, _, rfl, hl, hlen, hf⟩ := DataW.trod_struct Tryd.underlying67 h
  rw [cof_wr] at hl
  match cs, hl, xs, hlen with
  | [c0, c1, c2, c3, c4], _, [y0, y1, y2], _ =>
    have h0 := fieldAt hf 0 9 0 1 (y := y0) rfl rfl rfl cof_str rfl
    have h1 := fieldAt hf 1 4 1 1 (y := y1) rfl rfl rfl cof_bool rfl
    have h2 := fieldAt hf 2 47 2 3 (y := y2) rfl rfl rfl cof_val rfl
    obtain ⟨k, e0, r0, _⟩ := DataW.trod_string Tryd.underlying9 (x := y0) h0
    obtain ⟨gn, e1, r1, _⟩ := DataW.trod_bool Tryd.underlying4 (x := y1) h1
    obtain ⟨v, e2, r2, hv⟩ := open_vl (x := y2) h2
    simp at e0 e1 e2
    obtain ⟨f1, f2, f3⟩ := e2
    subst e0 e1 f1 f2 f3
    refine ⟨⟨k, gn, v⟩, rfl, ?_, hv⟩
    simp only [Rows.uptoBulk, Rows.uptoBulkAll, List.map_cons, List.map_nil, muW]
    rw [r0]
    simp only [Rows.uptoBulk]
    have : k.data.toList.length = k.size := Array.length_toList
    omega
set_option maxRecDepth 100000 in
theorem open_writes (h : DataW.trod enc Tryd.prog w base spare held fuel 34 cs = some x) :
    ∃ (A : Option Addr) (l : List Wr) (c : Nat), cs = [.slice A l.length c] ∧ Rd (fun b => b < w.heap.size) w 5 A l.length (wrCells l) ∧ (l.map muW).sum + 1 ≤ Rows.uptoBulk x.1 ∧ ∀ x ∈ l, rng64 x.v.n := by
  obtain ⟨A, l, c, e, hr, ho, hb⟩ := open_rows (α := Wr) (fun x => [.string x.key, .bool x.gone, .int .i64 x.v.k, .int .i64 x.v.n, .string x.v.s]) muW (fun x => rng64 x.v.n) 5 (by omega) (fun _ => rfl) Tryd.underlying34 cof_wr (fun n cs' y hy => by
    obtain ⟨s, e, r, hv⟩ := open_write hy
    exact ⟨s, e, hv, r⟩) h
  exact ⟨A, l, c, e, hr, hb, ho⟩
end
end Go.Proofs.YtefigpmkiemfhaaDoor

namespace Go.Proofs.YtefigpmkiemfhaaDoor
open Go.RowKit Go.Deep Go.ChangeShapes
set_option linter.unusedVariables false
set_option linter.unusedSimpArgs false

theorem cof_u8z : Tryd.prog.cellsOf 5 = 1 := by kernel_rfl
theorem cof_bytz : Tryd.prog.cellsOf 22 = 1 := by kernel_rfl
theorem cof_actz : Tryd.prog.cellsOf 36 = 5 := by kernel_rfl
theorem cof_actsz : Tryd.prog.cellsOf 23 = 1 := by kernel_rfl
theorem cof_storyz : Tryd.prog.cellsOf 25 = 4 := by kernel_rfl
def muZ (a : ZA) : Nat := (a.ks.map muK).sum + (a.ws.map muW).sum + 5
theorem muZ_part (a : ZA) : partZ a + 5 ≤ muZ a := by
  have h1 := sum_len muK_one a.ks
  have h2 := sum_len muW_one a.ws
  unfold partZ muZ
  omega
theorem muZ_ok {a : ZA} (h : muZ a ≤ 1048576) : okKs a.ks ∧ okWs a.ws := by
  unfold muZ at h
  refine ⟨fun k hk => ?_, fun x hx => ?_⟩
  · have := sum_mem (f := muK) hk
    unfold muK at this h
    omega
  · have := sum_mem (f := muW) hx
    have : muW x ≤ 1048576 := by omega
    unfold muW at this
    constructor <;> omega
theorem storyZ_fits {us : List ZA} (h : (us.map muZ).sum ≤ 1048576) : us.length ≤ 1048576 ∧ partsZ us ≤ 1048576 ∧ ∀ a ∈ us, okKs a.ks ∧ okWs a.ws := by
  have h1 := sum_len (f := muZ) (fun a => by have := muZ_part a; omega) us
  have h2 := sum_mono (f := partZ) (h := muZ) (fun a => by have := muZ_part a; omega) us
  refine ⟨by omega, by unfold partsZ; omega, fun a ha => muZ_ok ?_⟩
  have := sum_mem (f := muZ) ha
  omega
section
variable {H : Type} {enc : TypeId × Value → H} {w : World} {base : Nat} {spare : Nat → Bool} {held : Bool} {fuel : Nat} {cs : List Value} {x : DataW H × List MemPlace}
set_option maxRecDepth 100000 in
theorem open_raw (h : DataW.trod enc Tryd.prog w base spare held fuel 22 cs = some x) : ∃ (A : Option Addr) (n c : Nat), cs = [.slice A n c] ∧ n + 1 ≤ Rows.uptoBulk x.1 := by
  obtain ⟨A, l, c, e, hr, ho, hb⟩ := open_rows (α := Int) (fun s => [Value.int .u8 s]) (fun _ => 1) (fun _ => True) 1 (by omega) (fun _ => rfl) Tryd.underlying22 cof_u8z (fun n cs' y hy => by
    obtain ⟨s, e, r, _⟩ := DataW.trod_int Tryd.underlying5 hy
    refine ⟨s, e, trivial, ?_⟩
    rw [r]
    simp only [Rows.uptoBulk]
    omega) h
  exact ⟨A, l.length, c, e, by have := sum_len (f := fun _ : Int => 1) (fun _ => Nat.le_refl _) l; omega⟩
set_option maxRecDepth 100000 in
theorem open_actZ (h : DataW.trod enc Tryd.prog w base spare held fuel 36 cs = some x) : ∃ a : ZA, cs = zcells a ∧ (a.ok (fun b => b < w.heap.size) w ∧ ∀ x ∈ a.ws, rng64 x.v.n) ∧ muZ a ≤ Rows.uptoBulk x.1 := by
  obtain ⟨xs, n, _, rfl, hl, hlen, hf⟩ := DataW.trod_struct Tryd.underlying36 h
  rw [cof_actz] at hl
  match cs, hl, xs, hlen with
  | [c0, c1, c2, c3, c4], _, [y0, y1, y2, y3, y4], _ =>
    have h0 := fieldAt hf 0 3 0 1 (y := y0) rfl rfl rfl cof_int rfl
    have h1 := fieldAt hf 1 26 1 1 (y := y1) rfl rfl rfl cof_strs rfl
    have h2 := fieldAt hf 2 34 2 1 (y := y2) rfl rfl rfl cof_wrs rfl
    have h3 := fieldAt hf 3 2 3 1 (y := y3) rfl rfl rfl cof_i64 rfl
    have h4 := fieldAt hf 4 3 4 1 (y := y4) rfl rfl rfl cof_int rfl
    obtain ⟨kind, e0, r0, _⟩ := DataW.trod_int Tryd.underlying3 (x := y0) h0
    obtain ⟨A1, ks, d1, e1, q1, b1⟩ := open_texts (x := y1) h1
    obtain ⟨A2, ws, d2, e2, q2, b2, v2⟩ := open_writes (x := y2) h2
    obtain ⟨mark, e3, r3, _⟩ := DataW.trod_int Tryd.underlying2 (x := y3) h3
    obtain ⟨n, e4, r4, _⟩ := DataW.trod_int Tryd.underlying3 (x := y4) h4
    simp at e0 e1 e2 e3 e4
    subst e0 e1 e2 e3 e4
    refine ⟨⟨kind, ks, ws, A1, d1, A2, d2, mark, n⟩, rfl, ⟨⟨q1, q2⟩, v2⟩, ?_⟩
    simp only [Rows.uptoBulk, Rows.uptoBulkAll, List.map_cons, List.map_nil, muZ]
    rw [r0, r3, r4]
    simp only [Rows.uptoBulk]
    omega
set_option maxRecDepth 100000 in
theorem open_actsZ (h : DataW.trod enc Tryd.prog w base spare held fuel 23 cs = some x) :
    ∃ (A : Option Addr) (us : List ZA) (c : Nat), cs = [.slice A us.length c] ∧ ZActs (fun b => b < w.heap.size) w A us ∧ (us.map muZ).sum + 1 ≤ Rows.uptoBulk x.1 ∧ ∀ a ∈ us, ∀ x ∈ a.ws, rng64 x.v.n := by
  obtain ⟨A, l, c, e, hr, ho, hb⟩ := open_rows zcells muZ (fun a => a.ok (fun b => b < w.heap.size) w ∧ ∀ x ∈ a.ws, rng64 x.v.n) 5 (by omega) (fun _ => rfl) Tryd.underlying23 cof_actz (fun n cs' y hy => open_actZ hy) h
  exact ⟨A, l, c, e, ⟨hr, fun a ha => (ho a ha).1⟩, hb, fun a ha => (ho a ha).2⟩
set_option maxRecDepth 100000 in
theorem open_storyZ (h : DataW.trod enc Tryd.prog w base spare held fuel 25 cs = some x) :
    ∃ (B : Option Addr) (nb cb : Nat) (p r : Int) (A : Option Addr) (us : List ZA) (c : Nat), cs = [.slice B nb cb, .int .i64 p, .int .i64 r, .slice A us.length c] ∧ ZActs (fun b => b < w.heap.size) w A us ∧ (us.map muZ).sum + nb ≤ Rows.uptoBulk x.1 ∧ ∀ a ∈ us, ∀ x ∈ a.ws, rng64 x.v.n := by
  obtain ⟨xs, k, _, rfl, hl, hlen, hf⟩ := DataW.trod_struct Tryd.underlying25 h
  rw [cof_storyz] at hl
  match cs, hl, xs, hlen with
  | [c0, c1, c2, c3], _, [y0, y1, y2, y3], _ =>
    have h0 := fieldAt hf 0 22 0 1 (y := y0) rfl rfl rfl cof_bytz rfl
    have h1 := fieldAt hf 1 3 1 1 (y := y1) rfl rfl rfl cof_int rfl
    have h2 := fieldAt hf 2 3 2 1 (y := y2) rfl rfl rfl cof_int rfl
    have h3 := fieldAt hf 3 23 3 1 (y := y3) rfl rfl rfl cof_actsz rfl
    obtain ⟨B, nb, cb, e0, b0⟩ := open_raw (x := y0) h0
    obtain ⟨p, e1, r1, _⟩ := DataW.trod_int Tryd.underlying3 (x := y1) h1
    obtain ⟨r, e2, r2, _⟩ := DataW.trod_int Tryd.underlying3 (x := y2) h2
    obtain ⟨A, us, c, e3, ho, hb, hv⟩ := open_actsZ (x := y3) h3
    simp at e0 e1 e2 e3
    subst e0 e1 e2 e3
    exact ⟨B, nb, cb, p, r, A, us, c, rfl, ho, by simp only [Rows.uptoBulk, Rows.uptoBulkAll, List.map_cons, List.map_nil]; omega, hv⟩
end
end Go.Proofs.YtefigpmkiemfhaaDoor

