/- store: Apply. -/
import Derived.Test.YtnbbdjbjbjlcpaaDoorSMay
namespace Go.Proofs.YtnbbdjbjbjlcpaaDoor
open Go.RowKit
set_option linter.unusedVariables false
set_option linter.unusedSimpArgs false

section
variable {S : Nat → Prop} {w w' : World} {g cb cc vb : Nat} {mb : Nat → Nat} {s : St}
/-- a key gets a value: the values' map at last says what the new values are -/
theorem PIn.up {k : ByteArray} {v : Vl} (h : PIn S w g s cb cc mb vb) (hU : Upd (fun j => j = vb) w w') (hk : hasK k s.L = true) (hm : MapF strE w' vb fun y => if y = k then (if v.k = 0 then none else some (.agg #[.int .i64 v.k, .int .i64 v.n, .string v.s])) else Dv s.L y) (hok : St.Ok { s with L := upK k v s.L }) :
    PIn S w' g { s with L := upK k v s.L } cb cc mb vb ∧ Upd S w w' := by
  obtain ⟨cs, h1, h2⟩ := h.row
  have hne : ∀ {b t cs}, Blk w b t cs → ¬ b = vb := fun hb e => h.vals.ne_blk hb e.symm
  refine ⟨⟨h.blk.upd hU (hne h.blk), ⟨cs, h1.upd hU (hne h1), h2⟩, fun q hq => ?_, h.inj, ?_, h.vne, h.inS, fun j hj => Nat.lt_of_lt_of_le (h.lt j hj) hU.size, hok⟩, hU.mono fun j _ hj => hj ▸ h.inS.2.2.1⟩
  · show MapF strE w' (mb q) (Dc (upK k v s.L) s.parts q)
    refine ((h.cl q hq).upd hU (h.vne q hq)).congr fun y => ?_
    unfold Dc
    rw [hasK_up]
  · refine hm.congr fun y => ?_
    show _ = Dv (upK k v s.L) y
    unfold Dv
    rw [valK_up]
    by_cases e : y = k
    · subst e; simp [hk]
    · have : ¬ k = y := fun h => e h.symm
      simp [e, this]
theorem up_ok1 (h : s.Ok) {k : ByteArray} {v : Vl} (hk : validK k = true) (hv : v.ok = true) : St.Ok { s with L := upK k v s.L } := by
  refine ⟨h.parts, h.room, up_asc h.asc, fun x hx => ?_, fun x hx => ?_, fun p hp => ?_⟩
  · rcases up_mem hx with ⟨e, _⟩ | hx
    · rw [e]; exact hk
    · exact h.key x hx
  · rcases up_mem hx with ⟨_, e⟩ | hx
    · rw [e]; exact hv
    · exact h.val x hx
  · show cntP s.parts p (upK k v s.L) ≤ s.room
    rw [cnt_up]; exact h.cnt p hp
theorem upAll_snoc {L : List Kv} (l : List Wr) (x : Wr) : upAll L (l ++ [x]) = upK x.key x.v (upAll L l) := by unfold upAll; rw [List.foldl_append]; rfl
theorem upAll_has {j : ByteArray} {L : List Kv} {ws : List Wr} : hasK j (upAll L ws) = hasK j L := has_keys upAll_keys
theorem applyS_yes {ws : List Wr} (h : applyE s ws = 0) : applyS s ws = { s with L := upAll s.L ws } := by unfold applyS; rw [if_pos h]
theorem applyS_no {ws : List Wr} (h : applyE s ws ≠ 0) : applyS s ws = s := by unfold applyS; rw [if_neg h]
set_option maxRecDepth 100000 in
set_option maxHeartbeats 4000000 in
theorem apply_any {Sk : Nat → Prop} {A : Option Addr} {c : Nat} (ws : List Wr) (h : PAt S w g s) (hr : Rd Sk w 5 A ws.length (wrCells ws)) (hd : ∀ b, Sk b → ¬ S b) (hs : ∀ x ∈ ws, x.key.size ≤ 9223372036854775806 ∧ x.v.s.size ≤ 9223372036854775806) (hn : ws.length ≤ 1000000) :
    Calls Tryd.prog 12 #[.pointer (some ⟨g, 0, none⟩), .slice A ws.length c] w fun e w' => e = .returned (.int .i64 (applyE s ws)) ∧ PAt S w' g (applyS s ws) ∧ Upd S w w' := by
  have hmay := hid (may_any (c := c) ws h hr hs hn)
  obtain ⟨cb, cc, mb, vb, h⟩ := h
  have HH := hid h
  have HR := hid hr
  have hN : (ws.length : Int) ≤ 1000000 := by omega
  clear h hr hs hn
  go_enter Tryd.func12, Tryd.ntmps12
  go_wp2_with fail
  refine hmay.out.mono ?_
  rintro e w2 ⟨rfl, hb20⟩
  have HB2 := hid hb20
  clear hmay hb20
  by_cases he0 : applyE s ws = 0
  rotate_left
  · have tt : (applyE s ws != 0) = true := by simpa using he0
    have hfin : Hid (PAt S w2 g (applyS s ws)) := hid (by rw [applyS_no he0]; exact ⟨_, _, _, _, HH.out.below HB2.out⟩)
    clear he0
    go_wp2_with fail
    go_ret
    exact ⟨rfl, hfin.out, .of_below HB2.out fun k hk h => by omega⟩
  have he := hid he0
  have HP := hid (HH.out.below HB2.out)
  have HR2 := hid (HR.out.below_all HB2.out)
  have hWS := hid HB2.out.size
  have HU : Hid (Upd S w w2) := hid (.of_below HB2.out fun k hk h => by omega)
  rw [he0]
  clear he0 HH HR HB2
  go_wp2_with fail
  go_loopw [18] (fun v wr => ∃ (k : Nat), v = .int .i64 k ∧ k ≤ ws.length ∧ PIn S wr g { s with L := upAll s.L (ws.take k) } cb cc mb vb ∧ Rd Sk wr 5 A ws.length (wrCells ws) ∧ Upd S w wr) (fun v _ => ws.length - (intOf v).toNat)
  case atStart => exact ⟨0, rfl, Nat.zero_le _, HP.out, HR2.out, HU.out⟩
  case round =>
    clear HP HR2 HU
    obtain ⟨k, rfl, hk, hp0, hr0, hu0⟩ := hrel
    have HP := hid hp0
    have HR := hid hr0
    have HU := hid hu0
    clear hp0 hr0 hu0
    by_cases hlt : k < ws.length
    · have i1 : (k : Int) < (ws.length : Int) := by omega
      obtain ⟨b, o, rfl, hSkb, hbl, c0, c1, c2, c3, c4⟩ := rd_wr HR.out hlt
      have hz := hid (apply_zero he.out _ (List.getElem_mem hlt))
      have htk := hid (take_snoc hlt)
      obtain ⟨x, hx⟩ : ∃ x, x = ws[k] := ⟨_, rfl⟩
      rw [← hx] at c0 c1 c2 c3 c4 hz htk
      clear hx
      go_upto_region 9 with fail
      have kB0 := Blk.new wr 62 #[.string x.key, .bool x.gone, .int .i64 x.v.k, .int .i64 x.v.n, .string x.v.s]
      have hB2 : Below wr.heap.size wr (wr.alloc (.cells #[.string x.key, .bool x.gone, .int .i64 x.v.k, .int .i64 x.v.n, .string x.v.s] 62)) := (Below.refl _ _).alloc (Nat.le_refl _) _
      have HP2 := hid (HP.out.below hB2)
      have HR2 := hid (HR.out.below_all hB2)
      have HU2 := hid (HU.out.trans (Upd.of_below (M := S) hB2 fun k hk h => by omega) fun _ _ h => h)
      have hvl := hid (HP.out.vals.lt)
      generalize wr.alloc (.cells #[.string x.key, .bool x.gone, .int .i64 x.v.k, .int .i64 x.v.n, .string x.v.s] 62) = w3 at *
      have KB := hid kB0
      have hvm : Hid (vb ≠ wr.heap.size) := hid (by have := hvl.out; omega)
      generalize wr.heap.size = m at *
      clear kB0 hB2 c0 c1 c2 c3 c4 hbl HP HR HU hvl
      have x0 : w3.cell? ⟨m, 0, none⟩ = some (.string x.key) := KB.out.cell 0
      have x2 : w3.cell? ⟨m, 2, none⟩ = some (.int .i64 x.v.k) := KB.out.cell 2
      have x3 : w3.cell? ⟨m, 3, none⟩ = some (.int .i64 x.v.n) := KB.out.cell 3
      have x4 : w3.cell? ⟨m, 4, none⟩ = some (.string x.v.s) := KB.out.cell 4
      have g2 : w3.cell? ⟨g, 2, none⟩ = some (.map (some vb)) := HP2.out.cells.2.2
      obtain ⟨w4, hmu0, hm40, hg40, _⟩ := (HP2.out.drewN 1).vals.update Tryd.underlying56 x.key (.agg #[.int .i64 x.v.k, .int .i64 x.v.n, .string x.v.s])
      have hmu : (Instr.mapUpdate 56 (.map (some vb)) (.string x.key) (.agg #[.int .i64 x.v.k, .int .i64 x.v.n, .string x.v.s])).run Tryd.prog w3.drew = .ok () w4 := hmu0
      have hu40 : Upd (fun j => j = vb) w3 w4 := (Upd.refl (fun j => j = vb) w3).drew.trans (upd_grown hg40 fun j hj => by injection hj with hj; exact hj.symm) fun _ _ h => h
      have hm4 := hid hm40
      have hu4 := hid hu40
      clear hm40 hg40 hu40 hmu0
      go_still_tail 8, (by kernel_rfl)
      change wpList _ _ _ _ _ w3.drew
      go_upto_region 10 with fail
      have x2 : w4.cell? ⟨m, 2, none⟩ = some (.int .i64 x.v.k) := (KB.out.upd hu4.out (Ne.symm hvm.out)).cell 2
      by_cases hz0 : x.v.k = 0
      · have tz : (x.v.k == 0) = true := by simpa using hz0
        have x0 : w4.cell? ⟨m, 0, none⟩ = some (.string x.key) := (KB.out.upd hu4.out (Ne.symm hvm.out)).cell 0
        have g2 : w4.cell? ⟨g, 2, none⟩ = some (.map (some vb)) := (HP2.out.blk.upd hu4.out fun e => HP2.out.vals.ne_blk HP2.out.blk e.symm).cell 2
        have hm4d : MapF strE w4.drew vb _ := hm4.out
        obtain ⟨w5, hdl0, hm50, hg50, _⟩ := hm4d.delete (kt := 9) Tryd.underlying56 0 x.key
        have hdl : (Builtin.delete_ #[56, 9] 0 #[.map (some vb), .string x.key]).run Tryd.prog w4.drew = .ok (.tuple #[]) w5 := hdl0
        have hu5 : Upd (fun j => j = vb) w3 w5 := hu4.out.drew.trans (upd_grown hg50 fun j hj => by injection hj with hj; exact hj.symm) fun _ _ h => h
        have hfin0 := HP2.out.up (k := x.key) (v := x.v) hu5 (by show hasK x.key (upAll s.L (ws.take k)) = true; rw [upAll_has]; exact hz.out.2.1) (hm50.congr fun y => by
          by_cases e : y = x.key
          · simp only [e, if_true, hz0]
          · simp only [e, if_false]) (up_ok1 HP2.out.ok hz.out.1 hz.out.2.2)
        have hfin := hid hfin0
        have HR5 := hid (HR2.out.upd hfin0.2 hd)
        have HU5 := hid (HU2.out.trans hfin0.2 fun _ _ h => h)
        clear hfin0 hu5 hm50 hg50 hdl0 hm4d hz0 hmu
        go_wp2_with fail
        go_still_tail 6, (by kernel_rfl)
        change wpList _ _ _ _ _ w4.drew
        go_wp2_with fail
        go_roundw
        case rel => exact ⟨k + 1, by go_num, hlt, by rw [htk.out, upAll_snoc]; exact hfin.out.1, HR5.out, HU5.out⟩
        case measure => simp [intOf]; omega
      · have tz : (x.v.k == 0) = false := by simpa using hz0
        have hfin0 := HP2.out.up (k := x.key) (v := x.v) hu4.out (by show hasK x.key (upAll s.L (ws.take k)) = true; rw [upAll_has]; exact hz.out.2.1) (hm4.out.congr fun y => by
          by_cases e : y = x.key
          · simp only [e, if_true, hz0, if_false]
          · simp only [e, if_false]) (up_ok1 HP2.out.ok hz.out.1 hz.out.2.2)
        have hfin := hid hfin0
        have HR5 := hid (HR2.out.upd hfin0.2 hd)
        have HU5 := hid (HU2.out.trans hfin0.2 fun _ _ h => h)
        clear hfin0 hz0 hmu
        go_wp2_with fail
        go_roundw
        case rel => exact ⟨k + 1, by go_num, hlt, by rw [htk.out, upAll_snoc]; exact hfin.out.1, HR5.out, HU5.out⟩
        case measure => simp [intOf]; omega
    · obtain rfl : k = ws.length := by omega
      have hfin : Hid (PAt S wr g (applyS s ws)) := hid (by
        rw [applyS_yes he.out]
        have := HP.out
        rw [List.take_length] at this
        exact ⟨_, _, _, _, this⟩)
      clear HP
      go_wp2_with fail
      go_ret
      exact ⟨by rw [he.out]; rfl, hfin.out, HU.out⟩
end
end Go.Proofs.YtnbbdjbjbjlcpaaDoor
