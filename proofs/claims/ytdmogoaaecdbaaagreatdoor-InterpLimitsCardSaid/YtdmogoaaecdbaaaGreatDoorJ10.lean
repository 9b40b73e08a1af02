/- Texts of the proof, joined: ILoad, IWrite, IArith. -/
import Derived.Test.YtdmogoaaecdbaaaGreatDoorJ09
import Derived.BigRegion
import Derived.StillTailTactics
import Derived.Test.YtdmogoaaecdbaaaGreatDoorJ08
namespace Go.Proofs.YtdmogoaaecdbaaaGreatDoor
open Go.RowKit
set_option linter.unusedVariables false
set_option linter.unusedSimpArgs false

theorem Rd.but {S S0 : Nat → Prop} {w w0 : World} {size n r : Nat} {A : Option Addr} {xs xs0 : List Value} (h : Rd S w size A n xs) (h0 : Rd S0 w0 size A n xs0) (hr : w0.heap.size ≤ r) : Rd (fun q => S q ∧ q ≠ r) w size A n xs := by
  refine ⟨h.1, fun hn => ?_⟩
  obtain ⟨b, o, e, hS, hlt, hc⟩ := h.2 hn
  obtain ⟨b', o', e', _, hlt', _⟩ := h0.2 hn
  rw [e] at e'
  injection e' with e'
  injection e' with e1 _
  exact ⟨b, o, e, ⟨hS, by omega⟩, hlt, hc⟩
section
variable {S S0 : Nat → Prop} {w w' w0 : World} {g r : Nat} {F : Fr} {m m0 : Mc} {a a0 : Ad}
/-- a block that is none of the run's is written -/
theorem MIn.side (h0 : MIn S0 w0 g F m0 a0) (h : MIn S w g F m a) (hU : Upd S0 w0 w) (hS2 : ∀ q, S q → S0 q ∨ w0.heap.size ≤ q) (hr : w0.heap.size ≤ r) (hn : ¬ S r) (hu : Upd (fun q => q = r) w w') : MIn S w' g F m a := by
  have hM : ∀ q, S q → ¬ q = r := fun q hq e => hn (e ▸ hq)
  have hk : ∀ q, S q → q < w.heap.size → w'.heap[q]? = w.heap[q]? := fun q hq hl => hu.block q hl (hM q hq)
  have rd : ∀ {size n : Nat} {A : Option Addr} {xs xs0 : List Value}, Rd (fun q => ¬ S q) w size A n xs → Rd (fun q => ¬ S0 q) w0 size A n xs0 → Rd (fun q => ¬ S q) w' size A n xs := fun h1 h2 => ((h1.but h2 hr).upd hu fun q hq e => hq.2 e).more fun q hq _ => hq.1
  refine ⟨h.blk.upd hu (hM _ h.inS.1), h.sblk.upd hu (hM _ h.inS.2.1), h.st.keep hk, h.steps.keep hk, h.out.keep hk, h.asked.keep hk, h.rm.upd hu (hM _ h.inS.2.2.1), h.wm.upd hu (hM _ h.inS.2.2.2), h.ne, h.inS, fun q hq => Nat.lt_of_lt_of_le (h.lt q hq) hu.size, ⟨rd h.code.c h0.code.c, rd h.code.i h0.code.i, h.code.t, h.code.l⟩, rd h.args h0.args, rd h.src h0.src, fun W hW => ?_⟩
  refine h0.env W ?_
  have h1 : Upd S0 w0 w' := hU.trans hu fun b hb e => absurd hb (by omega)
  exact h1.trans hW fun b hb hs => (hS2 b hs).resolve_right (by omega)
end
section
variable {S : Nat → Prop} {w w' : World} {g : Nat} {F : Fr} {m m' : Mc}
def LoadPost (S : Nat → Prop) (w : World) (g : Nat) (F : Fr) (m : Mc) (r : Rs (Vl × Mc)) (e : Ending) (w' : World) : Prop := match r with
  | .ok (v, m') => e = .returned (.agg #[.int .i64 v.k, .int .i64 v.n, .string v.s]) ∧ MGo S w g F m' w'
  | .error er => e = .panicked [{ v := .iface 92 (.agg #[.int .i64 er.1, .int .i64 er.2]), recovered := false }] ∧ MGo S w g F m w'
theorem nil_aheadI (b : Nat) (w : World) : (nilAhead 269 41 (.pointer (some ⟨b, 0, none⟩)) "Get").run Tryz.prog w = .ok (some false) w := by kernel_rfl
theorem method_getI (b : Nat) (w : World) : (method 269 41 (.pointer (some ⟨b, 0, none⟩)) "Get").run Tryz.prog w = .ok (24, .pointer (some ⟨b, 0, none⟩)) w := by kernel_rfl
set_option maxRecDepth 100000 in
set_option maxHeartbeats 4000000 in
theorem load_here (k : ByteArray) (h : MAt S w g F m) {x : Wr} (hx : getW k m.writes = some x) : Calls Tryz.prog 148 #[.pointer (some ⟨g, 0, none⟩), .string k] w (LoadPost S w g F m (m.load F.src k)) := by
  have hres : m.load F.src k = .ok (x.v, m) := by unfold Mc.load; rw [hx]
  rw [hres]
  obtain ⟨a, h, ha⟩ := h
  have hB0 : Below w.heap.size w (w.alloc (.cells #[.int .i64 0, .int .i64 0, .string ⟨#[]⟩] 55)) := (Below.refl _ _).alloc (Nat.le_refl _) _
  have kr := hid (Blk.new w 55 #[.int .i64 0, .int .i64 0, .string ⟨#[]⟩])
  have H := hid h
  have hB := hid hB0
  have hha := hid ha
  have hsz := hid (show (w.alloc (.cells #[.int .i64 0, .int .i64 0, .string ⟨#[]⟩] 55)).heap.size = w.heap.size + 1 by simp)
  have x11 : (w.alloc (.cells #[.int .i64 0, .int .i64 0, .string ⟨#[]⟩] 55)).cell? ⟨g, 11, none⟩ = some (.map (some a.wm)) := (h.blk.below_all hB0).cell 11
  have lw := h.lkW k hB0
  have e1 : Dwr m.writes k = some (wrV x) := by unfold Dwr; rw [hx]; rfl
  rw [e1] at lw
  replace lw : _ = Result.ok (Value.tuple #[.agg #[.string x.key, .bool x.gone, .int .i64 x.v.k, .int .i64 x.v.n, .string x.v.s], .bool true]) _ := lw
  clear e1 hx hres
  clear h hB0 ha
  go_enter Tryz.func148, Tryz.ntmps148
  go_upto_region 1 with fail
  generalize w.alloc (.cells #[.int .i64 0, .int .i64 0, .string ⟨#[]⟩] 55) = wa at *
  go_upto_region 2 with fail
  have hB1 := hid (hB.out.alloc hB.out.size (.cells #[.string x.key, .bool x.gone, .int .i64 x.v.k, .int .i64 x.v.n, .string x.v.s] 57))
  have kr1 := hid (kr.out.alloc (.cells #[.string x.key, .bool x.gone, .int .i64 x.v.k, .int .i64 x.v.n, .string x.v.s] 57))
  have kw := hid (Blk.new wa 57 #[.string x.key, .bool x.gone, .int .i64 x.v.k, .int .i64 x.v.n, .string x.v.s])
  have hs1 := hid (show (wa.alloc (.cells #[.string x.key, .bool x.gone, .int .i64 x.v.k, .int .i64 x.v.n, .string x.v.s] 57)).heap.size = w.heap.size + 2 by simp; have := hsz.out; omega)
  generalize wa.alloc (.cells #[.string x.key, .bool x.gone, .int .i64 x.v.k, .int .i64 x.v.n, .string x.v.s] 57) = w1 at *
  generalize hm1 : wa.heap.size = m1 at *
  have hm1' : Hid (m1 = w.heap.size + 1) := hid (by have := hsz.out; omega)
  clear hm1 x11 lw hsz kr hB
  have y2 : w1.cell? ⟨m1, 2, none⟩ = some (.int .i64 x.v.k) := kw.out.cell 2
  have y3 : w1.cell? ⟨m1, 3, none⟩ = some (.int .i64 x.v.n) := kw.out.cell 3
  have y4 : w1.cell? ⟨m1, 4, none⟩ = some (.string x.v.s) := kw.out.cell 4
  have z0 := kr1.out.cell 0
  have z1 := kr1.out.cell 1
  have z2 := kr1.out.cell 2
  simp only [List.getElem?_toArray, List.getElem?_cons_zero, List.getElem?_cons_succ] at z0 z1 z2
  have fz := fun q => kr1.out.frozen q
  go_wp2_with fail
  refine bodyPost_ret (v := .agg #[.int .i64 x.v.k, .int .i64 x.v.n, .string x.v.s]) ?_ rfl ?_
  · exact results_cell_row (P := Tryz.prog) rfl _ _ w.heap.size 55 _ (0, 0) _ rfl (show Blk _ _ _ #[.int .i64 x.v.k, .int .i64 x.v.n, .string x.v.s] from by simpa using ((kr1.out.set_ 0 _).set_ 1 _).set_ 2 _) Tryz.underlying55 rfl (by kernel_rfl)
  · skip
    refine ⟨rfl, ?_⟩
    exact (show MAt S w g F m from ⟨a, H.out, hha.out⟩).go (((hB1.out.setCell (p := ⟨w.heap.size, 0, none⟩) (Nat.le_refl _) _).setCell (p := ⟨w.heap.size, 1, none⟩) (Nat.le_refl _) _).setCell (p := ⟨w.heap.size, 2, none⟩) (Nat.le_refl _) _)
set_option maxRecDepth 100000 in
set_option maxHeartbeats 4000000 in
theorem load_full (k : ByteArray) (h : MAt S w g F m) (ho : m.Ok0) (hx : getW k m.writes = none) (hr : roomB m k = false) : Calls Tryz.prog 148 #[.pointer (some ⟨g, 0, none⟩), .string k] w (LoadPost S w g F m (m.load F.src k)) := by
  have hres : m.load F.src k = .error (78, 0) := by unfold Mc.load; rw [hx]; show (if roomB m k = true then _ else _) = _; rw [if_neg (by rw [hr]; decide)]
  rw [hres]
  have hoo := hid ho
  clear ho
  obtain ⟨a, h, ha⟩ := h
  have hB0 : Below w.heap.size w (w.alloc (.cells #[.int .i64 0, .int .i64 0, .string ⟨#[]⟩] 55)) := (Below.refl _ _).alloc (Nat.le_refl _) _
  have kr := hid (Blk.new w 55 #[.int .i64 0, .int .i64 0, .string ⟨#[]⟩])
  have H := hid h
  have hB := hid hB0
  have hha := hid ha
  have hsz := hid (show (w.alloc (.cells #[.int .i64 0, .int .i64 0, .string ⟨#[]⟩] 55)).heap.size = w.heap.size + 1 by simp)
  have x11 : (w.alloc (.cells #[.int .i64 0, .int .i64 0, .string ⟨#[]⟩] 55)).cell? ⟨g, 11, none⟩ = some (.map (some a.wm)) := (h.blk.below_all hB0).cell 11
  have lw := h.lkW k hB0
  have e1 : Dwr m.writes k = none := by unfold Dwr; rw [hx]; rfl
  rw [e1] at lw
  replace lw : _ = Result.ok (Value.tuple #[.agg #[.string ⟨#[]⟩, .bool false, .int .i64 0, .int .i64 0, .string ⟨#[]⟩], .bool false]) _ := lw
  clear e1
  clear hx hres
  clear h hB0 ha
  go_enter Tryz.func148, Tryz.ntmps148
  go_upto_region 1 with fail
  generalize w.alloc (.cells #[.int .i64 0, .int .i64 0, .string ⟨#[]⟩] 55) = wa at *
  go_upto_region 2 with fail
  have hB1 := hid (hB.out.alloc hB.out.size (.cells #[.string ⟨#[]⟩, .bool false, .int .i64 0, .int .i64 0, .string ⟨#[]⟩] 57))
  have kr1 := hid (kr.out.alloc (.cells #[.string ⟨#[]⟩, .bool false, .int .i64 0, .int .i64 0, .string ⟨#[]⟩] 57))
  have kw := hid (Blk.new wa 57 #[.string ⟨#[]⟩, .bool false, .int .i64 0, .int .i64 0, .string ⟨#[]⟩])
  have hs1 := hid (show (wa.alloc (.cells #[.string ⟨#[]⟩, .bool false, .int .i64 0, .int .i64 0, .string ⟨#[]⟩] 57)).heap.size = w.heap.size + 2 by simp; have := hsz.out; omega)
  generalize wa.alloc (.cells #[.string ⟨#[]⟩, .bool false, .int .i64 0, .int .i64 0, .string ⟨#[]⟩] 57) = w1 at *
  generalize hm1 : wa.heap.size = m1 at *
  have hm1' : Hid (m1 = w.heap.size + 1) := hid (by have := hsz.out; omega)
  clear hm1 x11 lw hsz kr hB
  have hrm := hid (room_any k (H.out.keep hB1.out) hha.out hoo.out)
  rw [hr] at hrm
  clear hr
  go_wp2_with fail
  refine hrm.out.mono ?_
  rintro e w2 ⟨rfl, hb⟩
  have hb := hid (hB1.out.trans (hb.mono hB1.out.size))
  show bodyPost _ _ _ _ _ _
  exact ⟨rfl, rfl, (show MAt S w g F m from ⟨a, H.out, hha.out⟩).go hb.out⟩
set_option maxRecDepth 100000 in
set_option maxHeartbeats 4000000 in
theorem load_ask (k : ByteArray) (h : MAt S w g F m) (ho : m.Ok0) (hx : getW k m.writes = none) (hr : roomB m k = true) (hs : ∀ x ∈ F.src, x.2.s.size ≤ 9223372036854775806) (hl : F.src.length ≤ 1000000) : Calls Tryz.prog 148 #[.pointer (some ⟨g, 0, none⟩), .string k] w (LoadPost S w g F m (m.load F.src k)) := by
  have hres : m.load F.src k = .ok (srcV F.src k, { m with reads := m.reads ++ [k] }) := by unfold Mc.load; rw [hx]; show (if roomB m k = true then _ else _) = _; rw [if_pos hr]
  rw [hres]
  have hoo := hid ho
  have hrz : Hid ((rawV F.src k).s.size ≤ 9223372036854775806) := hid (by
    unfold rawV
    cases hf : F.src.find? fun x => decide (x.1 = k) with
    | none => decide
    | some y => exact hs y (List.mem_of_find?_eq_some hf))
  have hsv := hid (srcV_raw F.src k)
  have hll := hid hl
  clear ho hs hl
  obtain ⟨a, h, ha⟩ := h
  have hB0 : Below w.heap.size w (w.alloc (.cells #[.int .i64 0, .int .i64 0, .string ⟨#[]⟩] 55)) := (Below.refl _ _).alloc (Nat.le_refl _) _
  have kr := hid (Blk.new w 55 #[.int .i64 0, .int .i64 0, .string ⟨#[]⟩])
  have H := hid h
  have hB := hid hB0
  have hha := hid ha
  have hsz := hid (show (w.alloc (.cells #[.int .i64 0, .int .i64 0, .string ⟨#[]⟩] 55)).heap.size = w.heap.size + 1 by simp)
  have x11 : (w.alloc (.cells #[.int .i64 0, .int .i64 0, .string ⟨#[]⟩] 55)).cell? ⟨g, 11, none⟩ = some (.map (some a.wm)) := (h.blk.below_all hB0).cell 11
  have lw := h.lkW k hB0
  have e1 : Dwr m.writes k = none := by unfold Dwr; rw [hx]; rfl
  rw [e1] at lw
  replace lw : _ = Result.ok (Value.tuple #[.agg #[.string ⟨#[]⟩, .bool false, .int .i64 0, .int .i64 0, .string ⟨#[]⟩], .bool false]) _ := lw
  clear e1
  clear hx hres
  clear h hB0 ha
  go_enter Tryz.func148, Tryz.ntmps148
  go_upto_region 1 with fail
  generalize w.alloc (.cells #[.int .i64 0, .int .i64 0, .string ⟨#[]⟩] 55) = wa at *
  go_upto_region 2 with fail
  have hB1 := hid (hB.out.alloc hB.out.size (.cells #[.string ⟨#[]⟩, .bool false, .int .i64 0, .int .i64 0, .string ⟨#[]⟩] 57))
  have kr1 := hid (kr.out.alloc (.cells #[.string ⟨#[]⟩, .bool false, .int .i64 0, .int .i64 0, .string ⟨#[]⟩] 57))
  have kw := hid (Blk.new wa 57 #[.string ⟨#[]⟩, .bool false, .int .i64 0, .int .i64 0, .string ⟨#[]⟩])
  have hs1 := hid (show (wa.alloc (.cells #[.string ⟨#[]⟩, .bool false, .int .i64 0, .int .i64 0, .string ⟨#[]⟩] 57)).heap.size = w.heap.size + 2 by simp; have := hsz.out; omega)
  generalize wa.alloc (.cells #[.string ⟨#[]⟩, .bool false, .int .i64 0, .int .i64 0, .string ⟨#[]⟩] 57) = w1 at *
  generalize hm1 : wa.heap.size = m1 at *
  have hm1' : Hid (m1 = w.heap.size + 1) := hid (by have := hsz.out; omega)
  clear hm1 x11 lw hsz kr hB
  have hrm := hid (room_any k (H.out.keep hB1.out) hha.out hoo.out)
  rw [hr] at hrm
  clear hr
  go_wp2_with fail
  refine hrm.out.mono ?_
  rintro e w2 ⟨rfl, hb⟩
  have hb2 := hid (hB1.out.trans (hb.mono hB1.out.size))
  have kr2 := hid (kr1.out.below_all hb)
  have hs2 : Hid (w.heap.size + 2 ≤ w2.heap.size) := hid (by have := hb.size; have := hs1.out; omega)
  clear hb hrm kr1 kw hB1 hs1
  have H2 := hid (H.out.keep hb2.out)
  have x10 : w2.cell? ⟨g, 10, none⟩ = some (.map (some a.rm)) := H2.out.blk.cell 10
  have lr := H.out.lkR k hb2.out
  have hcn : Hid (cntK k a.rs ≤ 1000000) := hid (by
    have h1 : cntK k a.rs ≤ a.rs.length := List.countP_le_length
    rw [hha.out] at h1 ⊢
    have := hoo.out.rn; have := hoo.out.fu
    omega)
  have i2 : IntKind.i64.wrap (((cntK k a.rs : Nat) : Int) + 1) = ((cntK k a.rs : Nat) : Int) + 1 := by rw [IntKind.wrap_i64]; have := hcn.out; omega
  obtain ⟨w3, hup0, hmp0, hgr0, hsz0⟩ := H2.out.rm.update Tryz.underlying94 k (.int .i64 (((cntK k a.rs : Nat) : Int) + 1))
  have hup : (Instr.mapUpdate 94 (.map (some a.rm)) (.string k) (.int .i64 (((cntK k a.rs : Nat) : Int) + 1))).run Tryz.prog w2 = .ok () w3 := hup0
  have hU3 : Hid (Upd (fun q => q = a.rm) w2 w3) := hid ((Upd.refl _ _).grown hgr0 fun q hq _ => by injection hq with hq; exact hq.symm)
  have H3 : Hid (MIn S w3 g F m { a with rs := a.rs ++ [k] }) := hid (H2.out.onRm hU3.out (fun q _ e => e) (fun q hq => hq) (fun q hq => .inl hq) (fun q hq => Nat.lt_of_lt_of_le (H2.out.lt q hq) hU3.out.size) (hmp0.congr fun y => by
    unfold Drd
    rw [memB_snoc]
    by_cases e : y = k
    · subst e
      rw [if_pos rfl]
      have : cntK y (a.rs ++ [y]) = cntK y a.rs + 1 := by unfold cntK; rw [List.countP_append]; simp
      simp [this]
    · rw [if_neg e]
      have e2 : ¬ k = y := fun h => e h.symm
      have : cntK y (a.rs ++ [k]) = cntK y a.rs := by unfold cntK; rw [List.countP_append]; simp [e2]
      simp [this, e2]))
  have hrr : Hid (¬ w.heap.size = a.rm) := hid (by have := H.out.lt _ H.out.inS.2.2.1; omega)
  have kr3 := hid (kr2.out.upd hU3.out hrr.out)
  have hs3 : Hid (w.heap.size + 2 ≤ w3.heap.size) := hid (by have := hs2.out; have := hU3.out.size; omega)
  have hUw3 : Hid (Upd S w w3) := hid ((Upd.of_below' hb2.out S).trans hU3.out fun b hb e => e ▸ H.out.inS.2.2.1)
  clear hup0 hmp0 hgr0 hsz0 hrr kr2 H2 hU3
  go_upto_region 6 with fail
  clear lr x10 hup i2
  have x4 : w3.cell? ⟨g, 4, none⟩ = some (.iface 41 (.pointer (some ⟨F.sb, 0, none⟩))) := H3.out.blk.cell 4
  have hnil := fun w => nil_aheadI F.sb w
  have hmet := fun w => method_getI F.sb w
  go_wp2_with fail
  refine (iget_any k H3.out (by have := hoo.out.rn; have := hoo.out.fu; omega) hll.out).mono ?_
  rintro e w4 ⟨rfl, S', a', hM0, hrs0, s10, s20, hU0⟩
  have hM := hid hM0
  have hrs := hid hrs0
  have s1 := hid s10
  have s2 := hid s20
  have hnr : Hid (¬ S w.heap.size) := hid fun e => by have := H.out.lt _ e; omega
  have kr4 := hid (kr3.out.upd hU0 hnr.out)
  have hU4 : Hid (Upd S w w4) := hid (hUw3.out.trans hU0 fun _ _ e => e)
  have hs4 : Hid (w.heap.size + 2 ≤ w4.heap.size) := hid (by have := hs3.out; have := hU0.size; omega)
  have hnr' : Hid (¬ S' w.heap.size) := hid fun e => by
    rcases s10 _ e with e | e
    · exact hnr.out e
    · have := hs3.out; omega
  have hS2 : Hid (∀ q, S' q → S q ∨ w.heap.size ≤ q) := hid fun q hq => (s10 q hq).imp id fun e => by have := hs3.out; omega
  clear hM0 hrs0 s10 s20 hU0 x4 hnil hmet kr3 hUw3 H3 s1
  generalize rawV F.src k = v at *
  go_upto_region 7 with fail
  have hb5 := hid ((Below.refl w4.heap.size w4).alloc (Nat.le_refl _) (.cells #[.int .i64 v.k, .int .i64 v.n, .string v.s] 55))
  have kv := hid (Blk.new w4 55 #[.int .i64 v.k, .int .i64 v.n, .string v.s])
  have kr5 := hid (kr4.out.alloc (.cells #[.int .i64 v.k, .int .i64 v.n, .string v.s] 55))
  generalize w4.alloc (.cells #[.int .i64 v.k, .int .i64 v.n, .string v.s] 55) = w5 at *
  generalize hm4 : w4.heap.size = m4 at *
  have hm4 := hid hm4
  have y0 := kv.out.cell 0
  have y1 := kv.out.cell 1
  have y2 := kv.out.cell 2
  simp only [List.getElem?_toArray, List.getElem?_cons_zero, List.getElem?_cons_succ] at y0 y1 y2
  go_wp2_with fail
  refine (valid_any v _ hrz.out).mono ?_
  rintro e w6 ⟨rfl, hb60⟩
  have hb6 : Hid (Below w4.heap.size w4 w6) := hid (by rw [hm4.out]; exact hb5.out.trans (hb60.mono (by have := hb5.out.size; rw [hm4.out] at this; exact this)))
  have kr6 := hid (kr5.out.below_all hb60)
  have kv6 := hid (kv.out.below_all hb60)
  have hU6 : Hid (Upd S w w6) := hid (hU4.out.trans (Upd.of_below' hb6.out (fun _ => False)) fun _ _ e => e.elim)
  have hfin : Hid (∀ u0 u1 u2 : Value, MGo S w g F { m with reads := m.reads ++ [k] } (((w6.setCell ⟨w.heap.size, 0, none⟩ u0).setCell ⟨w.heap.size, 1, none⟩ u1).setCell ⟨w.heap.size, 2, none⟩ u2)) := hid fun u0 u1 u2 => by
    have U2 : Upd (fun q => q = w.heap.size) w6 (((w6.setCell ⟨w.heap.size, 0, none⟩ u0).setCell ⟨w.heap.size, 1, none⟩ u1).setCell ⟨w.heap.size, 2, none⟩ u2) := (((Upd.refl (fun q => q = w.heap.size) w6).setCell (p := ⟨w.heap.size, 0, none⟩) (fun _ => rfl) _).setCell (p := ⟨w.heap.size, 1, none⟩) (fun _ => rfl) _).setCell (p := ⟨w.heap.size, 2, none⟩) (fun _ => rfl) _
    refine ⟨S', ⟨a', H.out.side (hM.out.keep hb6.out) hU6.out hS2.out (Nat.le_refl _) hnr'.out U2, by rw [hrs.out]; show a.rs ++ [k] = m.reads ++ [k]; rw [hha.out]⟩, hS2.out, s2.out, hU6.out.trans U2 fun b hb e => absurd hb (by omega)⟩
  clear hb60 kr5 kv hb5 y0 y1 y2 kr4 hU4
  have y0 := kv6.out.cell 0
  have y1 := kv6.out.cell 1
  have y2 := kv6.out.cell 2
  simp only [List.getElem?_toArray, List.getElem?_cons_zero, List.getElem?_cons_succ] at y0 y1 y2
  have z0 := kr6.out.cell 0
  have z1 := kr6.out.cell 1
  have z2 := kr6.out.cell 2
  simp only [List.getElem?_toArray, List.getElem?_cons_zero, List.getElem?_cons_succ] at z0 z1 z2
  have fz := fun q => kr6.out.frozen q
  cases hok : v.ok with
  | true =>
    have hsv2 : Hid (srcV F.src k = v) := hid (by rw [hsv.out, if_pos hok])
    clear hok
    go_wp2_with fail
    refine bodyPost_ret (v := .agg #[.int .i64 v.k, .int .i64 v.n, .string v.s]) ?_ rfl ?_
    · exact results_cell_row (P := Tryz.prog) rfl _ _ w.heap.size 55 _ (0, 0) _ rfl (show Blk _ _ _ #[.int .i64 v.k, .int .i64 v.n, .string v.s] from by simpa using ((kr6.out.set_ 0 _).set_ 1 _).set_ 2 _) Tryz.underlying55 rfl (by kernel_rfl)
    · show LoadPost S w g F m (.ok (srcV F.src k, _)) _ _; rw [hsv2.out]
      refine ⟨rfl, ?_⟩
      exact hfin.out _ _ _
  | false =>
    have hsv2 : Hid (srcV F.src k = vl0) := hid (by rw [hsv.out, if_neg (by rw [hok]; decide)])
    clear hok
    go_wp2_with fail
    refine bodyPost_ret (v := .agg #[.int .i64 0, .int .i64 0, .string ⟨#[]⟩]) ?_ rfl ?_
    · exact results_cell_row (P := Tryz.prog) rfl _ _ w.heap.size 55 _ (0, 0) _ rfl (show Blk _ _ _ #[.int .i64 0, .int .i64 0, .string ⟨#[]⟩] from by simpa using ((kr6.out.set_ 0 _).set_ 1 _).set_ 2 _) Tryz.underlying55 rfl (by kernel_rfl)
    · show LoadPost S w g F m (.ok (srcV F.src k, _)) _ _; rw [hsv2.out]
      refine ⟨rfl, ?_⟩
      exact hfin.out _ _ _
theorem load_any (k : ByteArray) (h : MAt S w g F m) (ho : m.Ok0) (hs : ∀ x ∈ F.src, x.2.s.size ≤ 9223372036854775806) (hl : F.src.length ≤ 1000000) : Calls Tryz.prog 148 #[.pointer (some ⟨g, 0, none⟩), .string k] w (LoadPost S w g F m (m.load F.src k)) := by
  cases hx : getW k m.writes with
  | some x => exact load_here k h hx
  | none =>
    cases hr : roomB m k with
    | true => exact load_ask k h ho hx hr hs hl
    | false => exact load_full k h ho hx hr
end
end Go.Proofs.YtdmogoaaecdbaaaGreatDoor

namespace Go.Proofs.YtdmogoaaecdbaaaGreatDoor
open Go.RowKit
set_option linter.unusedVariables false
set_option linter.unusedSimpArgs false

section
variable {S : Nat → Prop} {w w' : World} {g : Nat} {F : Fr} {m m' : Mc}
def WritePost (S : Nat → Prop) (w : World) (g : Nat) (F : Fr) (m : Mc) (r : Rs Mc) (e : Ending) (w' : World) : Prop := match r with
  | .ok m' => e = .returned (.tuple #[]) ∧ MGo S w g F m' w'
  | .error er => e = .panicked [{ v := .iface 92 (.agg #[.int .i64 er.1, .int .i64 er.2]), recovered := false }] ∧ MGo S w g F m w'
set_option maxRecDepth 100000 in
set_option maxHeartbeats 4000000 in
theorem write_full (x : Wr) (h : MAt S w g F m) (ho : m.Ok0) (hr : roomB m x.key = false) : Calls Tryz.prog 144 #[.pointer (some ⟨g, 0, none⟩), .agg #[.string x.key, .bool x.gone, .int .i64 x.v.k, .int .i64 x.v.n, .string x.v.s]] w (WritePost S w g F m (m.write x)) := by
  have hres : m.write x = .error (78, 0) := by unfold Mc.write; rw [if_pos hr]
  rw [hres]
  clear hres
  obtain ⟨a, h, ha⟩ := h
  have hB0 : Below w.heap.size w (w.alloc (.cells #[.string x.key, .bool x.gone, .int .i64 x.v.k, .int .i64 x.v.n, .string x.v.s] 57)) := (Below.refl _ _).alloc (Nat.le_refl _) _
  have kx := hid (Blk.new w 57 #[.string x.key, .bool x.gone, .int .i64 x.v.k, .int .i64 x.v.n, .string x.v.s])
  have H := hid h
  have hB := hid hB0
  have hha := hid ha
  have hoo := hid ho
  have hrm := hid (room_any x.key (h.keep hB0) ha ho)
  rw [hr, show roomEnd false = .panicked [{ v := .iface 92 (.agg #[.int .i64 78, .int .i64 0]), recovered := false }] from rfl] at hrm
  clear h hB0 ha hr ho
  go_enter Tryz.func144, Tryz.ntmps144
  go_upto_region 1 with fail
  generalize w.alloc (.cells #[.string x.key, .bool x.gone, .int .i64 x.v.k, .int .i64 x.v.n, .string x.v.s] 57) = w1 at *
  have x0 := kx.out.cell 0
  simp only [List.getElem?_toArray, List.getElem?_cons_zero] at x0
  go_wp2_with fail
  refine hrm.out.mono ?_
  rintro e w2 ⟨rfl, hb⟩
  have hb2 := hid (hB.out.trans (hb.mono hB.out.size))
  have kx2 := hid (kx.out.below_all hb)
  clear hb x0 kx hrm hB
  go_wp2_with fail
  exact ⟨rfl, rfl, (show MAt S w g F m from ⟨a, H.out, hha.out⟩).go hb2.out⟩
set_option maxRecDepth 100000 in
set_option maxHeartbeats 4000000 in
theorem write_again (x : Wr) (h : MAt S w g F m) (ho : m.Ok0) (hr : roomB m x.key = true) (hw : hasW x.key m.writes = true) : Calls Tryz.prog 144 #[.pointer (some ⟨g, 0, none⟩), .agg #[.string x.key, .bool x.gone, .int .i64 x.v.k, .int .i64 x.v.n, .string x.v.s]] w (WritePost S w g F m (m.write x)) := by
  have hres : m.write x = .ok { m with writes := putW x m.writes } := by unfold Mc.write; rw [if_neg (by rw [hr]; decide), if_neg (by rw [hw]; rintro ⟨h, _⟩; cases h)]
  rw [hres]
  obtain ⟨y, hy⟩ : ∃ y, getW x.key m.writes = some y := by
    cases hg : getW x.key m.writes with
    | some y => exact ⟨y, rfl⟩
    | none => rw [getW_none.1 hg] at hw; cases hw
  have e1 := hid (show Dwr m.writes x.key = some (wrV y) by unfold Dwr; rw [hy]; rfl)
  clear hy hw hres
  obtain ⟨a, h, ha⟩ := h
  have hB0 : Below w.heap.size w (w.alloc (.cells #[.string x.key, .bool x.gone, .int .i64 x.v.k, .int .i64 x.v.n, .string x.v.s] 57)) := (Below.refl _ _).alloc (Nat.le_refl _) _
  have kx := hid (Blk.new w 57 #[.string x.key, .bool x.gone, .int .i64 x.v.k, .int .i64 x.v.n, .string x.v.s])
  have H := hid h
  have hB := hid hB0
  have hha := hid ha
  have hoo := hid ho
  have hrm := hid (room_any x.key (h.keep hB0) ha ho)
  rw [hr, show roomEnd true = .returned (.tuple #[]) from rfl] at hrm
  clear h hB0 ha hr ho
  go_enter Tryz.func144, Tryz.ntmps144
  go_upto_region 1 with fail
  generalize w.alloc (.cells #[.string x.key, .bool x.gone, .int .i64 x.v.k, .int .i64 x.v.n, .string x.v.s] 57) = w1 at *
  have x0 := kx.out.cell 0
  simp only [List.getElem?_toArray, List.getElem?_cons_zero] at x0
  go_wp2_with fail
  refine hrm.out.mono ?_
  rintro e w2 ⟨rfl, hb⟩
  have hb2 := hid (hB.out.trans (hb.mono hB.out.size))
  have kx2 := hid (kx.out.below_all hb)
  clear hb x0 kx hrm hB
  go_upto_region 2 with fail
  have hX := hid (fun W (hW : Below w2.heap.size w2 W) => (show W.cell? ⟨g, 11, none⟩ = some (.map (some a.wm)) from (H.out.blk.below_all (hb2.out.trans (hW.mono hb2.out.size))).cell 11))
  have hL := hid (fun W (hW : Below w2.heap.size w2 W) => (show (Instr.lookup 95 (.map (some a.wm)) (.string x.key) true).run Tryz.prog W = .ok (.tuple #[.agg #[.string y.key, .bool y.gone, .int .i64 y.v.k, .int .i64 y.v.n, .string y.v.s], .bool true]) W from by
    have h9 := H.out.lkW x.key (hb2.out.trans (hW.mono hb2.out.size))
    rw [e1.out] at h9
    exact h9))
  refine wp_region_held_drew (S := fun w'' => Below w2.heap.size w2 w'') (by kernel_rfl) ?_ (fun hHeld => ?_)
  · exact (Below.refl _ _).drew
  have hd0 : Hid (Below w2.heap.size w2 w2.drew) := hid (Below.refl _ _).drew
  generalize World.drew w2 = wd at *
  refine wpAnyH_take (i := 0) (v := ?v1) rfl (by kernel_rfl) (by kernel_rfl) (by kernel_rfl) (fun _ _ _ h => h) (Or.inl ⟨by rfl, ?hy1⟩) (by assumption) ?rest1
  case hy1 => intro w' hSw; have x11 := hX.out w' hSw; have x0 := (kx2.out.below_all hSw).cell 0; have lw := hL.out w' hSw; (try dsimp only at hSw); go_simp; try with_reducible rfl
  (try simp only [Act.put, List.setIfInBounds_toArray, List.set_cons_zero, List.set_cons_succ, List.getElem_toArray, List.getElem_cons_zero, List.getElem_cons_succ])
  refine wpAnyH_take (i := 1) (v := ?v2) rfl (by kernel_rfl) (by kernel_rfl) (by kernel_rfl) (fun _ _ _ h => h) (Or.inl ⟨by rfl, ?hy2⟩) (by assumption) ?rest2
  case hy2 => intro w' hSw; have x11 := hX.out w' hSw; have x0 := (kx2.out.below_all hSw).cell 0; have lw := hL.out w' hSw; (try dsimp only at hSw); go_simp; try with_reducible rfl
  (try simp only [Act.put, List.setIfInBounds_toArray, List.set_cons_zero, List.set_cons_succ, List.getElem_toArray, List.getElem_cons_zero, List.getElem_cons_succ])
  refine wpAnyH_take (i := 2) (v := ?v3) rfl (by kernel_rfl) (by kernel_rfl) (by kernel_rfl) (fun _ _ _ h => h) (Or.inl ⟨by rfl, ?hy3⟩) (by assumption) ?rest3
  case hy3 => intro w' hSw; have x11 := hX.out w' hSw; have x0 := (kx2.out.below_all hSw).cell 0; have lw := hL.out w' hSw; (try dsimp only at hSw); go_simp; try with_reducible rfl
  (try simp only [Act.put, List.setIfInBounds_toArray, List.set_cons_zero, List.set_cons_succ, List.getElem_toArray, List.getElem_cons_zero, List.getElem_cons_succ])
  refine wpAnyH_take (i := 3) (v := ?v4) rfl (by kernel_rfl) (by kernel_rfl) (by kernel_rfl) (fun _ _ _ h => h) (Or.inl ⟨by rfl, ?hy4⟩) (by assumption) ?rest4
  case hy4 => intro w' hSw; have x11 := hX.out w' hSw; have x0 := (kx2.out.below_all hSw).cell 0; have lw := hL.out w' hSw; (try dsimp only at hSw); go_simp; try with_reducible rfl
  (try simp only [Act.put, List.setIfInBounds_toArray, List.set_cons_zero, List.set_cons_succ, List.getElem_toArray, List.getElem_cons_zero, List.getElem_cons_succ])
  refine wpAnyH_take (i := 4) (v := ?v5) rfl (by kernel_rfl) (by kernel_rfl) (by kernel_rfl) (fun _ _ _ h => h) (Or.inl ⟨by rfl, ?hy5⟩) (by assumption) ?rest5
  case hy5 => intro w' hSw; have x11 := hX.out w' hSw; have x0 := (kx2.out.below_all hSw).cell 0; have lw := hL.out w' hSw; (try dsimp only at hSw); go_simp; try with_reducible rfl
  (try simp only [Act.put, List.setIfInBounds_toArray, List.set_cons_zero, List.set_cons_succ, List.getElem_toArray, List.getElem_cons_zero, List.getElem_cons_succ])
  refine wpAnyH_take (i := 5) (v := ?v6) rfl (by kernel_rfl) (by kernel_rfl) (by kernel_rfl) (fun _ _ _ h => h) (Or.inl ⟨by rfl, ?hy6⟩) (by assumption) ?rest6
  case hy6 => intro w' hSw; have x11 := hX.out w' hSw; have x0 := (kx2.out.below_all hSw).cell 0; have lw := hL.out w' hSw; (try dsimp only at hSw); go_simp; try with_reducible rfl
  (try simp only [Act.put, List.setIfInBounds_toArray, List.set_cons_zero, List.set_cons_succ, List.getElem_toArray, List.getElem_cons_zero, List.getElem_cons_succ])
  refine wpAnyH_take (i := 6) (v := ?v7) rfl (by kernel_rfl) (by kernel_rfl) (by kernel_rfl) (fun _ _ _ h => h) (Or.inl ⟨by rfl, ?hy7⟩) (by assumption) ?rest7
  case hy7 => intro w' hSw; have x11 := hX.out w' hSw; have x0 := (kx2.out.below_all hSw).cell 0; have lw := hL.out w' hSw; (try dsimp only at hSw); go_simp; try with_reducible rfl
  (try simp only [Act.put, List.setIfInBounds_toArray, List.set_cons_zero, List.set_cons_succ, List.getElem_toArray, List.getElem_cons_zero, List.getElem_cons_succ])
  refine wpAnyH_take (i := 7) (v := ?v8) rfl (by kernel_rfl) (by kernel_rfl) (by kernel_rfl) (fun _ _ _ h => h) (Or.inl ⟨by rfl, ?hy8⟩) (by assumption) ?rest8
  case hy8 => intro w' hSw; have x11 := hX.out w' hSw; have x0 := (kx2.out.below_all hSw).cell 0; have lw := hL.out w' hSw; (try dsimp only at hSw); go_simp; try with_reducible rfl
  (try simp only [Act.put, List.setIfInBounds_toArray, List.set_cons_zero, List.set_cons_succ, List.getElem_toArray, List.getElem_cons_zero, List.getElem_cons_succ])
  refine wpAnyH_take (i := 8) (v := ?v9) rfl (by kernel_rfl) (by kernel_rfl) (by kernel_rfl) (fun _ _ _ h => h) (Or.inl ⟨by rfl, ?hy9⟩) (by assumption) ?rest9
  case hy9 => intro w' hSw; have x11 := hX.out w' hSw; have x0 := (kx2.out.below_all hSw).cell 0; have lw := hL.out w' hSw; (try dsimp only at hSw); go_simp; try with_reducible rfl
  (try simp only [Act.put, List.setIfInBounds_toArray, List.set_cons_zero, List.set_cons_succ, List.getElem_toArray, List.getElem_cons_zero, List.getElem_cons_succ])
  refine wpAnyH_take (i := 9) (v := ?v10) rfl (by kernel_rfl) (by kernel_rfl) (by kernel_rfl) (fun _ _ _ h => h) (Or.inl ⟨by rfl, ?hy10⟩) (by assumption) ?rest10
  case hy10 => intro w' hSw; have x11 := hX.out w' hSw; have x0 := (kx2.out.below_all hSw).cell 0; have lw := hL.out w' hSw; (try dsimp only at hSw); go_simp; try with_reducible rfl
  (try simp only [Act.put, List.setIfInBounds_toArray, List.set_cons_zero, List.set_cons_succ, List.getElem_toArray, List.getElem_cons_zero, List.getElem_cons_succ])
  refine wpAnyH_ready (rs := [10]) (by kernel_rfl) (by simp) ?_
  refine AllReadyH.cons rfl (fun K hK => ?_) AllReadyH.nil
  go_simp
  have hd1 := hid (hd0.out.alloc hd0.out.size (.cells #[.string ⟨#[]⟩, .bool false, .int .i64 0, .int .i64 0, .string ⟨#[]⟩] 57))
  have kz := hid (Blk.new wd 57 #[.string ⟨#[]⟩, .bool false, .int .i64 0, .int .i64 0, .string ⟨#[]⟩])
  have hdz := hid hd0.out.size
  generalize wd.alloc (.cells #[.string ⟨#[]⟩, .bool false, .int .i64 0, .int .i64 0, .string ⟨#[]⟩] 57) = we at *
  generalize wd.heap.size = me at *
  refine hK.out _ _ ?_ (fun hHeld => ?_)
  · exact hd1.out
  clear hK K
  (try simp only [Act.put, List.setIfInBounds_toArray, List.set_cons_zero, List.set_cons_succ, List.getElem_toArray, List.getElem_cons_zero, List.getElem_cons_succ])
  refine wpAnyH_ready (rs := [11]) (by kernel_rfl) (by simp) ?_
  refine AllReadyH.cons rfl (fun K hK => ?_) AllReadyH.nil
  have z0 := kz.out.cell 0
  have z1 := kz.out.cell 1
  have z2 := kz.out.cell 2
  have z3 := kz.out.cell 3
  have z4 := kz.out.cell 4
  simp only [List.getElem?_toArray, List.getElem?_cons_zero, List.getElem?_cons_succ] at z0 z1 z2 z3 z4
  have fz := fun q => kz.out.frozen q
  go_simp
  have hd2 : ∀ u0 u1 u2 u3 u4 : Value, Hid (Below w2.heap.size w2 (((((we.setCell ⟨me, 0, none⟩ u0).setCell ⟨me, 1, none⟩ u1).setCell ⟨me, 2, none⟩ u2).setCell ⟨me, 3, none⟩ u3).setCell ⟨me, 4, none⟩ u4)) := fun u0 u1 u2 u3 u4 => hid (((((hd1.out.setCell (p := ⟨me, 0, none⟩) hdz.out u0).setCell (p := ⟨me, 1, none⟩) hdz.out u1).setCell (p := ⟨me, 2, none⟩) hdz.out u2).setCell (p := ⟨me, 3, none⟩) hdz.out u3).setCell (p := ⟨me, 4, none⟩) hdz.out u4)
  obtain ⟨wf, hwf, hd3⟩ : ∃ wf, (((((we.setCell ⟨me, 0, none⟩ (.string y.key)).setCell ⟨me, 1, none⟩ (.bool y.gone)).setCell ⟨me, 2, none⟩ (.int .i64 y.v.k)).setCell ⟨me, 3, none⟩ (.int .i64 y.v.n)).setCell ⟨me, 4, none⟩ (.string y.v.s)) = wf ∧ Hid (Below w2.heap.size w2 wf) := ⟨_, rfl, hd2 _ _ _ _ _⟩
  rw [hwf]
  clear hwf hd2 z0 z1 z2 z3 z4 fz
  refine hK.out _ _ ?_ (fun hHeld => ?_)
  · exact hd3.out
  clear hK K
  (try simp only [Act.put, List.setIfInBounds_toArray, List.set_cons_zero, List.set_cons_succ, List.getElem_toArray, List.getElem_cons_zero, List.getElem_cons_succ])
  refine wpAnyH_take (i := 12) (v := ?v11) rfl (by kernel_rfl) (by kernel_rfl) (by kernel_rfl) (fun _ _ _ h => h) (Or.inl ⟨by rfl, ?hy11⟩) (by assumption) ?rest11
  case hy11 => intro w' hSw; (try dsimp only at hSw); go_simp; try with_reducible rfl
  (try simp only [Act.put, List.setIfInBounds_toArray, List.set_cons_zero, List.set_cons_succ, List.getElem_toArray, List.getElem_cons_zero, List.getElem_cons_succ])
  refine wpAnyH_done (by kernel_rfl) ?_ _
  go_wp2_with fail
  refine (needs_t _ _).mono ?_
  rintro e wq ⟨rfl, hwq⟩
  obtain rfl := hwq.symm
  have hw9 := hid (hb2.out.trans (hd3.out.mono hb2.out.size))
  have x11 : wf.cell? ⟨g, 11, none⟩ = some (.map (some a.wm)) := hX.out _ hd3.out
  have kx3 := hid (kx2.out.below_all hd3.out)
  have x0 := kx3.out.cell 0
  have x1 := kx3.out.cell 1
  have x2 := kx3.out.cell 2
  have x3 := kx3.out.cell 3
  have x4 := kx3.out.cell 4
  simp only [List.getElem?_toArray, List.getElem?_cons_zero, List.getElem?_cons_succ] at x0 x1 x2 x3 x4
  obtain ⟨w5, hup0, hmp0, hgr0, hsz0⟩ := ((H.out.wm.below hw9.out).below ((Below.refl wf.heap.size wf).drew)).update Tryz.underlying95 x.key (wrV x)
  have hup : (Instr.mapUpdate 95 (.map (some a.wm)) (.string x.key) (.agg #[.string x.key, .bool x.gone, .int .i64 x.v.k, .int .i64 x.v.n, .string x.v.s])).run Tryz.prog wf.drew = .ok () w5 := hup0
  have hU5 : Hid (Upd (fun q => q = a.wm) w w5) := hid ((Upd.of_below' hw9.out (fun q => q = a.wm)).drew.grown hgr0 fun q hq _ => by injection hq with hq; exact hq.symm)
  have hM5 : Hid (MIn S w5 g F { m with writes := putW x m.writes } a) := hid (H.out.onWm hU5.out (fun q _ e => e) (fun q hq => hq) (fun q hq => .inl hq) (fun q hq => Nat.lt_of_lt_of_le (H.out.lt q hq) hU5.out.size) (hmp0.congr fun y => by
    unfold Dwr
    rw [getW_put]
    split <;> rfl))
  have hS5 : Hid (Upd S w w5) := hid ⟨hU5.out.os, hU5.out.tape, hU5.out.output, hU5.out.size, fun k hk hS => hU5.out.block k hk fun e => hS (e ▸ H.out.inS.2.2.2)⟩
  clear hup0 hmp0 hgr0 hsz0 hU5
  go_upto_region 4 with fail
  go_still_tail 7, (by kernel_rfl)
  change wpList _ _ _ _ _ wf.drew
  go_wp2_with fail
  refine ⟨rfl, .tuple #[], by simp [results, Tryz.results144, go_sem], rfl, ?_⟩
  exact ⟨S, ⟨a, hM5.out, hha.out⟩, fun q hq => .inl hq, fun q hq => hq, hS5.out⟩
set_option maxRecDepth 100000 in
set_option maxHeartbeats 4000000 in
theorem write_fresh (x : Wr) (h : MAt S w g F m) (ho : m.Ok0) (hr : roomB m x.key = true) (hw : hasW x.key m.writes = false) : Calls Tryz.prog 144 #[.pointer (some ⟨g, 0, none⟩), .agg #[.string x.key, .bool x.gone, .int .i64 x.v.k, .int .i64 x.v.n, .string x.v.s]] w (WritePost S w g F m (m.write x)) := by
  have hres : m.write x = if 32 ≤ m.writes.length then .error (77, 0) else .ok { m with writes := putW x m.writes } := by
    unfold Mc.write
    rw [if_neg (by rw [hr]; decide)]
    by_cases h : 32 ≤ m.writes.length
    · rw [if_pos ⟨hw, h⟩, if_pos h]
    · rw [if_neg (fun e => h e.2), if_neg h]
  have e1 := hid (show Dwr m.writes x.key = none by unfold Dwr; rw [getW_none.2 hw]; rfl)
  clear hw
  by_cases hl : 32 ≤ m.writes.length
  · rw [hres, if_pos hl]
    have t1 : decide ((m.writes.length : Int) < 32) = false := decide_eq_false (by omega)
    have t1n : decide (m.writes.length < 32) = false := decide_eq_false (by omega)
    clear hl hres
    obtain ⟨a, h, ha⟩ := h
    have hB0 : Below w.heap.size w (w.alloc (.cells #[.string x.key, .bool x.gone, .int .i64 x.v.k, .int .i64 x.v.n, .string x.v.s] 57)) := (Below.refl _ _).alloc (Nat.le_refl _) _
    have kx := hid (Blk.new w 57 #[.string x.key, .bool x.gone, .int .i64 x.v.k, .int .i64 x.v.n, .string x.v.s])
    have H := hid h
    have hB := hid hB0
    have hha := hid ha
    have hoo := hid ho
    have hrm := hid (room_any x.key (h.keep hB0) ha ho)
    rw [hr, show roomEnd true = .returned (.tuple #[]) from rfl] at hrm
    clear h hB0 ha hr ho
    go_enter Tryz.func144, Tryz.ntmps144
    go_upto_region 1 with fail
    generalize w.alloc (.cells #[.string x.key, .bool x.gone, .int .i64 x.v.k, .int .i64 x.v.n, .string x.v.s] 57) = w1 at *
    have x0 := kx.out.cell 0
    simp only [List.getElem?_toArray, List.getElem?_cons_zero] at x0
    go_wp2_with fail
    refine hrm.out.mono ?_
    rintro e w2 ⟨rfl, hb⟩
    have hb2 := hid (hB.out.trans (hb.mono hB.out.size))
    have kx2 := hid (kx.out.below_all hb)
    clear hb x0 kx hrm hB
    go_upto_region 2 with fail
    have hX := hid (fun W (hW : Below w2.heap.size w2 W) => (show W.cell? ⟨g, 11, none⟩ = some (.map (some a.wm)) from (H.out.blk.below_all (hb2.out.trans (hW.mono hb2.out.size))).cell 11))
    have hL := hid (fun W (hW : Below w2.heap.size w2 W) => (show (Instr.lookup 95 (.map (some a.wm)) (.string x.key) true).run Tryz.prog W = .ok (.tuple #[.agg #[.string ⟨#[]⟩, .bool false, .int .i64 0, .int .i64 0, .string ⟨#[]⟩], .bool false]) W from by
      have h9 := H.out.lkW x.key (hb2.out.trans (hW.mono hb2.out.size))
      rw [e1.out] at h9
      exact h9))
    refine wp_region_held_drew (S := fun w'' => Below w2.heap.size w2 w'') (by kernel_rfl) ?_ (fun hHeld => ?_)
    · exact (Below.refl _ _).drew
    have hd0 : Hid (Below w2.heap.size w2 w2.drew) := hid (Below.refl _ _).drew
    generalize World.drew w2 = wd at *
    refine wpAnyH_take (i := 0) (v := ?v12) rfl (by kernel_rfl) (by kernel_rfl) (by kernel_rfl) (fun _ _ _ h => h) (Or.inl ⟨by rfl, ?hy12⟩) (by assumption) ?rest12
    case hy12 => intro w' hSw; have x11 := hX.out w' hSw; have x0 := (kx2.out.below_all hSw).cell 0; have lw := hL.out w' hSw; (try dsimp only at hSw); go_simp; try with_reducible rfl
    (try simp only [Act.put, List.setIfInBounds_toArray, List.set_cons_zero, List.set_cons_succ, List.getElem_toArray, List.getElem_cons_zero, List.getElem_cons_succ])
    refine wpAnyH_take (i := 1) (v := ?v13) rfl (by kernel_rfl) (by kernel_rfl) (by kernel_rfl) (fun _ _ _ h => h) (Or.inl ⟨by rfl, ?hy13⟩) (by assumption) ?rest13
    case hy13 => intro w' hSw; have x11 := hX.out w' hSw; have x0 := (kx2.out.below_all hSw).cell 0; have lw := hL.out w' hSw; (try dsimp only at hSw); go_simp; try with_reducible rfl
    (try simp only [Act.put, List.setIfInBounds_toArray, List.set_cons_zero, List.set_cons_succ, List.getElem_toArray, List.getElem_cons_zero, List.getElem_cons_succ])
    refine wpAnyH_take (i := 2) (v := ?v14) rfl (by kernel_rfl) (by kernel_rfl) (by kernel_rfl) (fun _ _ _ h => h) (Or.inl ⟨by rfl, ?hy14⟩) (by assumption) ?rest14
    case hy14 => intro w' hSw; have x11 := hX.out w' hSw; have x0 := (kx2.out.below_all hSw).cell 0; have lw := hL.out w' hSw; (try dsimp only at hSw); go_simp; try with_reducible rfl
    (try simp only [Act.put, List.setIfInBounds_toArray, List.set_cons_zero, List.set_cons_succ, List.getElem_toArray, List.getElem_cons_zero, List.getElem_cons_succ])
    refine wpAnyH_take (i := 3) (v := ?v15) rfl (by kernel_rfl) (by kernel_rfl) (by kernel_rfl) (fun _ _ _ h => h) (Or.inl ⟨by rfl, ?hy15⟩) (by assumption) ?rest15
    case hy15 => intro w' hSw; have x11 := hX.out w' hSw; have x0 := (kx2.out.below_all hSw).cell 0; have lw := hL.out w' hSw; (try dsimp only at hSw); go_simp; try with_reducible rfl
    (try simp only [Act.put, List.setIfInBounds_toArray, List.set_cons_zero, List.set_cons_succ, List.getElem_toArray, List.getElem_cons_zero, List.getElem_cons_succ])
    refine wpAnyH_take (i := 4) (v := ?v16) rfl (by kernel_rfl) (by kernel_rfl) (by kernel_rfl) (fun _ _ _ h => h) (Or.inl ⟨by rfl, ?hy16⟩) (by assumption) ?rest16
    case hy16 => intro w' hSw; have x11 := hX.out w' hSw; have x0 := (kx2.out.below_all hSw).cell 0; have lw := hL.out w' hSw; (try dsimp only at hSw); go_simp; try with_reducible rfl
    (try simp only [Act.put, List.setIfInBounds_toArray, List.set_cons_zero, List.set_cons_succ, List.getElem_toArray, List.getElem_cons_zero, List.getElem_cons_succ])
    refine wpAnyH_take (i := 5) (v := ?v17) rfl (by kernel_rfl) (by kernel_rfl) (by kernel_rfl) (fun _ _ _ h => h) (Or.inl ⟨by rfl, ?hy17⟩) (by assumption) ?rest17
    case hy17 => intro w' hSw; have x11 := hX.out w' hSw; have x0 := (kx2.out.below_all hSw).cell 0; have lw := hL.out w' hSw; (try dsimp only at hSw); go_simp; try with_reducible rfl
    (try simp only [Act.put, List.setIfInBounds_toArray, List.set_cons_zero, List.set_cons_succ, List.getElem_toArray, List.getElem_cons_zero, List.getElem_cons_succ])
    refine wpAnyH_take (i := 6) (v := ?v18) rfl (by kernel_rfl) (by kernel_rfl) (by kernel_rfl) (fun _ _ _ h => h) (Or.inl ⟨by rfl, ?hy18⟩) (by assumption) ?rest18
    case hy18 => intro w' hSw; have x11 := hX.out w' hSw; have x0 := (kx2.out.below_all hSw).cell 0; have lw := hL.out w' hSw; (try dsimp only at hSw); go_simp; try with_reducible rfl
    (try simp only [Act.put, List.setIfInBounds_toArray, List.set_cons_zero, List.set_cons_succ, List.getElem_toArray, List.getElem_cons_zero, List.getElem_cons_succ])
    refine wpAnyH_take (i := 7) (v := ?v19) rfl (by kernel_rfl) (by kernel_rfl) (by kernel_rfl) (fun _ _ _ h => h) (Or.inl ⟨by rfl, ?hy19⟩) (by assumption) ?rest19
    case hy19 => intro w' hSw; have x11 := hX.out w' hSw; have x0 := (kx2.out.below_all hSw).cell 0; have lw := hL.out w' hSw; (try dsimp only at hSw); go_simp; try with_reducible rfl
    (try simp only [Act.put, List.setIfInBounds_toArray, List.set_cons_zero, List.set_cons_succ, List.getElem_toArray, List.getElem_cons_zero, List.getElem_cons_succ])
    refine wpAnyH_take (i := 8) (v := ?v20) rfl (by kernel_rfl) (by kernel_rfl) (by kernel_rfl) (fun _ _ _ h => h) (Or.inl ⟨by rfl, ?hy20⟩) (by assumption) ?rest20
    case hy20 => intro w' hSw; have x11 := hX.out w' hSw; have x0 := (kx2.out.below_all hSw).cell 0; have lw := hL.out w' hSw; (try dsimp only at hSw); go_simp; try with_reducible rfl
    (try simp only [Act.put, List.setIfInBounds_toArray, List.set_cons_zero, List.set_cons_succ, List.getElem_toArray, List.getElem_cons_zero, List.getElem_cons_succ])
    refine wpAnyH_take (i := 9) (v := ?v21) rfl (by kernel_rfl) (by kernel_rfl) (by kernel_rfl) (fun _ _ _ h => h) (Or.inl ⟨by rfl, ?hy21⟩) (by assumption) ?rest21
    case hy21 => intro w' hSw; have x11 := hX.out w' hSw; have x0 := (kx2.out.below_all hSw).cell 0; have lw := hL.out w' hSw; (try dsimp only at hSw); go_simp; try with_reducible rfl
    (try simp only [Act.put, List.setIfInBounds_toArray, List.set_cons_zero, List.set_cons_succ, List.getElem_toArray, List.getElem_cons_zero, List.getElem_cons_succ])
    refine wpAnyH_ready (rs := [10]) (by kernel_rfl) (by simp) ?_
    refine AllReadyH.cons rfl (fun K hK => ?_) AllReadyH.nil
    go_simp
    have hd1 := hid (hd0.out.alloc hd0.out.size (.cells #[.string ⟨#[]⟩, .bool false, .int .i64 0, .int .i64 0, .string ⟨#[]⟩] 57))
    have kz := hid (Blk.new wd 57 #[.string ⟨#[]⟩, .bool false, .int .i64 0, .int .i64 0, .string ⟨#[]⟩])
    have hdz := hid hd0.out.size
    generalize wd.alloc (.cells #[.string ⟨#[]⟩, .bool false, .int .i64 0, .int .i64 0, .string ⟨#[]⟩] 57) = we at *
    generalize wd.heap.size = me at *
    refine hK.out _ _ ?_ (fun hHeld => ?_)
    · exact hd1.out
    clear hK K
    (try simp only [Act.put, List.setIfInBounds_toArray, List.set_cons_zero, List.set_cons_succ, List.getElem_toArray, List.getElem_cons_zero, List.getElem_cons_succ])
    refine wpAnyH_ready (rs := [11]) (by kernel_rfl) (by simp) ?_
    refine AllReadyH.cons rfl (fun K hK => ?_) AllReadyH.nil
    have z0 := kz.out.cell 0
    have z1 := kz.out.cell 1
    have z2 := kz.out.cell 2
    have z3 := kz.out.cell 3
    have z4 := kz.out.cell 4
    simp only [List.getElem?_toArray, List.getElem?_cons_zero, List.getElem?_cons_succ] at z0 z1 z2 z3 z4
    have fz := fun q => kz.out.frozen q
    go_simp
    have hd2 : ∀ u0 u1 u2 u3 u4 : Value, Hid (Below w2.heap.size w2 (((((we.setCell ⟨me, 0, none⟩ u0).setCell ⟨me, 1, none⟩ u1).setCell ⟨me, 2, none⟩ u2).setCell ⟨me, 3, none⟩ u3).setCell ⟨me, 4, none⟩ u4)) := fun u0 u1 u2 u3 u4 => hid (((((hd1.out.setCell (p := ⟨me, 0, none⟩) hdz.out u0).setCell (p := ⟨me, 1, none⟩) hdz.out u1).setCell (p := ⟨me, 2, none⟩) hdz.out u2).setCell (p := ⟨me, 3, none⟩) hdz.out u3).setCell (p := ⟨me, 4, none⟩) hdz.out u4)
    obtain ⟨wf, hwf, hd3⟩ : ∃ wf, (((((we.setCell ⟨me, 0, none⟩ (.string ⟨#[]⟩)).setCell ⟨me, 1, none⟩ (.bool false)).setCell ⟨me, 2, none⟩ (.int .i64 0)).setCell ⟨me, 3, none⟩ (.int .i64 0)).setCell ⟨me, 4, none⟩ (.string ⟨#[]⟩)) = wf ∧ Hid (Below w2.heap.size w2 wf) := ⟨_, rfl, hd2 _ _ _ _ _⟩
    rw [hwf]
    clear hwf hd2 z0 z1 z2 z3 z4 fz
    refine hK.out _ _ ?_ (fun hHeld => ?_)
    · exact hd3.out
    clear hK K
    (try simp only [Act.put, List.setIfInBounds_toArray, List.set_cons_zero, List.set_cons_succ, List.getElem_toArray, List.getElem_cons_zero, List.getElem_cons_succ])
    refine wpAnyH_take (i := 12) (v := ?v22) rfl (by kernel_rfl) (by kernel_rfl) (by kernel_rfl) (fun _ _ _ h => h) (Or.inl ⟨by rfl, ?hy22⟩) (by assumption) ?rest22
    case hy22 => intro w' hSw; (try dsimp only at hSw); go_simp; try with_reducible rfl
    (try simp only [Act.put, List.setIfInBounds_toArray, List.set_cons_zero, List.set_cons_succ, List.getElem_toArray, List.getElem_cons_zero, List.getElem_cons_succ])
    refine wpAnyH_done (by kernel_rfl) ?_ _
    have hln := fun ty => H.out.lenW hoo.out.wn ty (hb2.out.trans (hd3.out.mono hb2.out.size))
    have x11 : wf.cell? ⟨g, 11, none⟩ = some (.map (some a.wm)) := hX.out _ hd3.out
    go_wp2_with fail
    refine (needs_f _ _ (by decide)).mono ?_
    rintro e wq ⟨rfl, hwq⟩
    obtain rfl := hwq.symm
    go_wp2_with fail
    exact ⟨rfl, rfl, (show MAt S w g F m from ⟨a, H.out, hha.out⟩).go (hb2.out.trans (hd3.out.mono hb2.out.size))⟩
  · rw [hres, if_neg hl]
    have t1 : decide ((m.writes.length : Int) < 32) = true := decide_eq_true (by omega)
    have t1n : decide (m.writes.length < 32) = true := decide_eq_true (by omega)
    clear hl hres
    obtain ⟨a, h, ha⟩ := h
    have hB0 : Below w.heap.size w (w.alloc (.cells #[.string x.key, .bool x.gone, .int .i64 x.v.k, .int .i64 x.v.n, .string x.v.s] 57)) := (Below.refl _ _).alloc (Nat.le_refl _) _
    have kx := hid (Blk.new w 57 #[.string x.key, .bool x.gone, .int .i64 x.v.k, .int .i64 x.v.n, .string x.v.s])
    have H := hid h
    have hB := hid hB0
    have hha := hid ha
    have hoo := hid ho
    have hrm := hid (room_any x.key (h.keep hB0) ha ho)
    rw [hr, show roomEnd true = .returned (.tuple #[]) from rfl] at hrm
    clear h hB0 ha hr ho
    go_enter Tryz.func144, Tryz.ntmps144
    go_upto_region 1 with fail
    generalize w.alloc (.cells #[.string x.key, .bool x.gone, .int .i64 x.v.k, .int .i64 x.v.n, .string x.v.s] 57) = w1 at *
    have x0 := kx.out.cell 0
    simp only [List.getElem?_toArray, List.getElem?_cons_zero] at x0
    go_wp2_with fail
    refine hrm.out.mono ?_
    rintro e w2 ⟨rfl, hb⟩
    have hb2 := hid (hB.out.trans (hb.mono hB.out.size))
    have kx2 := hid (kx.out.below_all hb)
    clear hb x0 kx hrm hB
    go_upto_region 2 with fail
    have hX := hid (fun W (hW : Below w2.heap.size w2 W) => (show W.cell? ⟨g, 11, none⟩ = some (.map (some a.wm)) from (H.out.blk.below_all (hb2.out.trans (hW.mono hb2.out.size))).cell 11))
    have hL := hid (fun W (hW : Below w2.heap.size w2 W) => (show (Instr.lookup 95 (.map (some a.wm)) (.string x.key) true).run Tryz.prog W = .ok (.tuple #[.agg #[.string ⟨#[]⟩, .bool false, .int .i64 0, .int .i64 0, .string ⟨#[]⟩], .bool false]) W from by
      have h9 := H.out.lkW x.key (hb2.out.trans (hW.mono hb2.out.size))
      rw [e1.out] at h9
      exact h9))
    refine wp_region_held_drew (S := fun w'' => Below w2.heap.size w2 w'') (by kernel_rfl) ?_ (fun hHeld => ?_)
    · exact (Below.refl _ _).drew
    have hd0 : Hid (Below w2.heap.size w2 w2.drew) := hid (Below.refl _ _).drew
    generalize World.drew w2 = wd at *
    refine wpAnyH_take (i := 0) (v := ?v23) rfl (by kernel_rfl) (by kernel_rfl) (by kernel_rfl) (fun _ _ _ h => h) (Or.inl ⟨by rfl, ?hy23⟩) (by assumption) ?rest23
    case hy23 => intro w' hSw; have x11 := hX.out w' hSw; have x0 := (kx2.out.below_all hSw).cell 0; have lw := hL.out w' hSw; (try dsimp only at hSw); go_simp; try with_reducible rfl
    (try simp only [Act.put, List.setIfInBounds_toArray, List.set_cons_zero, List.set_cons_succ, List.getElem_toArray, List.getElem_cons_zero, List.getElem_cons_succ])
    refine wpAnyH_take (i := 1) (v := ?v24) rfl (by kernel_rfl) (by kernel_rfl) (by kernel_rfl) (fun _ _ _ h => h) (Or.inl ⟨by rfl, ?hy24⟩) (by assumption) ?rest24
    case hy24 => intro w' hSw; have x11 := hX.out w' hSw; have x0 := (kx2.out.below_all hSw).cell 0; have lw := hL.out w' hSw; (try dsimp only at hSw); go_simp; try with_reducible rfl
    (try simp only [Act.put, List.setIfInBounds_toArray, List.set_cons_zero, List.set_cons_succ, List.getElem_toArray, List.getElem_cons_zero, List.getElem_cons_succ])
    refine wpAnyH_take (i := 2) (v := ?v25) rfl (by kernel_rfl) (by kernel_rfl) (by kernel_rfl) (fun _ _ _ h => h) (Or.inl ⟨by rfl, ?hy25⟩) (by assumption) ?rest25
    case hy25 => intro w' hSw; have x11 := hX.out w' hSw; have x0 := (kx2.out.below_all hSw).cell 0; have lw := hL.out w' hSw; (try dsimp only at hSw); go_simp; try with_reducible rfl
    (try simp only [Act.put, List.setIfInBounds_toArray, List.set_cons_zero, List.set_cons_succ, List.getElem_toArray, List.getElem_cons_zero, List.getElem_cons_succ])
    refine wpAnyH_take (i := 3) (v := ?v26) rfl (by kernel_rfl) (by kernel_rfl) (by kernel_rfl) (fun _ _ _ h => h) (Or.inl ⟨by rfl, ?hy26⟩) (by assumption) ?rest26
    case hy26 => intro w' hSw; have x11 := hX.out w' hSw; have x0 := (kx2.out.below_all hSw).cell 0; have lw := hL.out w' hSw; (try dsimp only at hSw); go_simp; try with_reducible rfl
    (try simp only [Act.put, List.setIfInBounds_toArray, List.set_cons_zero, List.set_cons_succ, List.getElem_toArray, List.getElem_cons_zero, List.getElem_cons_succ])
    refine wpAnyH_take (i := 4) (v := ?v27) rfl (by kernel_rfl) (by kernel_rfl) (by kernel_rfl) (fun _ _ _ h => h) (Or.inl ⟨by rfl, ?hy27⟩) (by assumption) ?rest27
    case hy27 => intro w' hSw; have x11 := hX.out w' hSw; have x0 := (kx2.out.below_all hSw).cell 0; have lw := hL.out w' hSw; (try dsimp only at hSw); go_simp; try with_reducible rfl
    (try simp only [Act.put, List.setIfInBounds_toArray, List.set_cons_zero, List.set_cons_succ, List.getElem_toArray, List.getElem_cons_zero, List.getElem_cons_succ])
    refine wpAnyH_take (i := 5) (v := ?v28) rfl (by kernel_rfl) (by kernel_rfl) (by kernel_rfl) (fun _ _ _ h => h) (Or.inl ⟨by rfl, ?hy28⟩) (by assumption) ?rest28
    case hy28 => intro w' hSw; have x11 := hX.out w' hSw; have x0 := (kx2.out.below_all hSw).cell 0; have lw := hL.out w' hSw; (try dsimp only at hSw); go_simp; try with_reducible rfl
    (try simp only [Act.put, List.setIfInBounds_toArray, List.set_cons_zero, List.set_cons_succ, List.getElem_toArray, List.getElem_cons_zero, List.getElem_cons_succ])
    refine wpAnyH_take (i := 6) (v := ?v29) rfl (by kernel_rfl) (by kernel_rfl) (by kernel_rfl) (fun _ _ _ h => h) (Or.inl ⟨by rfl, ?hy29⟩) (by assumption) ?rest29
    case hy29 => intro w' hSw; have x11 := hX.out w' hSw; have x0 := (kx2.out.below_all hSw).cell 0; have lw := hL.out w' hSw; (try dsimp only at hSw); go_simp; try with_reducible rfl
    (try simp only [Act.put, List.setIfInBounds_toArray, List.set_cons_zero, List.set_cons_succ, List.getElem_toArray, List.getElem_cons_zero, List.getElem_cons_succ])
    refine wpAnyH_take (i := 7) (v := ?v30) rfl (by kernel_rfl) (by kernel_rfl) (by kernel_rfl) (fun _ _ _ h => h) (Or.inl ⟨by rfl, ?hy30⟩) (by assumption) ?rest30
    case hy30 => intro w' hSw; have x11 := hX.out w' hSw; have x0 := (kx2.out.below_all hSw).cell 0; have lw := hL.out w' hSw; (try dsimp only at hSw); go_simp; try with_reducible rfl
    (try simp only [Act.put, List.setIfInBounds_toArray, List.set_cons_zero, List.set_cons_succ, List.getElem_toArray, List.getElem_cons_zero, List.getElem_cons_succ])
    refine wpAnyH_take (i := 8) (v := ?v31) rfl (by kernel_rfl) (by kernel_rfl) (by kernel_rfl) (fun _ _ _ h => h) (Or.inl ⟨by rfl, ?hy31⟩) (by assumption) ?rest31
    case hy31 => intro w' hSw; have x11 := hX.out w' hSw; have x0 := (kx2.out.below_all hSw).cell 0; have lw := hL.out w' hSw; (try dsimp only at hSw); go_simp; try with_reducible rfl
    (try simp only [Act.put, List.setIfInBounds_toArray, List.set_cons_zero, List.set_cons_succ, List.getElem_toArray, List.getElem_cons_zero, List.getElem_cons_succ])
    refine wpAnyH_take (i := 9) (v := ?v32) rfl (by kernel_rfl) (by kernel_rfl) (by kernel_rfl) (fun _ _ _ h => h) (Or.inl ⟨by rfl, ?hy32⟩) (by assumption) ?rest32
    case hy32 => intro w' hSw; have x11 := hX.out w' hSw; have x0 := (kx2.out.below_all hSw).cell 0; have lw := hL.out w' hSw; (try dsimp only at hSw); go_simp; try with_reducible rfl
    (try simp only [Act.put, List.setIfInBounds_toArray, List.set_cons_zero, List.set_cons_succ, List.getElem_toArray, List.getElem_cons_zero, List.getElem_cons_succ])
    refine wpAnyH_ready (rs := [10]) (by kernel_rfl) (by simp) ?_
    refine AllReadyH.cons rfl (fun K hK => ?_) AllReadyH.nil
    go_simp
    have hd1 := hid (hd0.out.alloc hd0.out.size (.cells #[.string ⟨#[]⟩, .bool false, .int .i64 0, .int .i64 0, .string ⟨#[]⟩] 57))
    have kz := hid (Blk.new wd 57 #[.string ⟨#[]⟩, .bool false, .int .i64 0, .int .i64 0, .string ⟨#[]⟩])
    have hdz := hid hd0.out.size
    generalize wd.alloc (.cells #[.string ⟨#[]⟩, .bool false, .int .i64 0, .int .i64 0, .string ⟨#[]⟩] 57) = we at *
    generalize wd.heap.size = me at *
    refine hK.out _ _ ?_ (fun hHeld => ?_)
    · exact hd1.out
    clear hK K
    (try simp only [Act.put, List.setIfInBounds_toArray, List.set_cons_zero, List.set_cons_succ, List.getElem_toArray, List.getElem_cons_zero, List.getElem_cons_succ])
    refine wpAnyH_ready (rs := [11]) (by kernel_rfl) (by simp) ?_
    refine AllReadyH.cons rfl (fun K hK => ?_) AllReadyH.nil
    have z0 := kz.out.cell 0
    have z1 := kz.out.cell 1
    have z2 := kz.out.cell 2
    have z3 := kz.out.cell 3
    have z4 := kz.out.cell 4
    simp only [List.getElem?_toArray, List.getElem?_cons_zero, List.getElem?_cons_succ] at z0 z1 z2 z3 z4
    have fz := fun q => kz.out.frozen q
    go_simp
    have hd2 : ∀ u0 u1 u2 u3 u4 : Value, Hid (Below w2.heap.size w2 (((((we.setCell ⟨me, 0, none⟩ u0).setCell ⟨me, 1, none⟩ u1).setCell ⟨me, 2, none⟩ u2).setCell ⟨me, 3, none⟩ u3).setCell ⟨me, 4, none⟩ u4)) := fun u0 u1 u2 u3 u4 => hid (((((hd1.out.setCell (p := ⟨me, 0, none⟩) hdz.out u0).setCell (p := ⟨me, 1, none⟩) hdz.out u1).setCell (p := ⟨me, 2, none⟩) hdz.out u2).setCell (p := ⟨me, 3, none⟩) hdz.out u3).setCell (p := ⟨me, 4, none⟩) hdz.out u4)
    obtain ⟨wf, hwf, hd3⟩ : ∃ wf, (((((we.setCell ⟨me, 0, none⟩ (.string ⟨#[]⟩)).setCell ⟨me, 1, none⟩ (.bool false)).setCell ⟨me, 2, none⟩ (.int .i64 0)).setCell ⟨me, 3, none⟩ (.int .i64 0)).setCell ⟨me, 4, none⟩ (.string ⟨#[]⟩)) = wf ∧ Hid (Below w2.heap.size w2 wf) := ⟨_, rfl, hd2 _ _ _ _ _⟩
    rw [hwf]
    clear hwf hd2 z0 z1 z2 z3 z4 fz
    refine hK.out _ _ ?_ (fun hHeld => ?_)
    · exact hd3.out
    clear hK K
    (try simp only [Act.put, List.setIfInBounds_toArray, List.set_cons_zero, List.set_cons_succ, List.getElem_toArray, List.getElem_cons_zero, List.getElem_cons_succ])
    refine wpAnyH_take (i := 12) (v := ?v33) rfl (by kernel_rfl) (by kernel_rfl) (by kernel_rfl) (fun _ _ _ h => h) (Or.inl ⟨by rfl, ?hy33⟩) (by assumption) ?rest33
    case hy33 => intro w' hSw; (try dsimp only at hSw); go_simp; try with_reducible rfl
    (try simp only [Act.put, List.setIfInBounds_toArray, List.set_cons_zero, List.set_cons_succ, List.getElem_toArray, List.getElem_cons_zero, List.getElem_cons_succ])
    refine wpAnyH_done (by kernel_rfl) ?_ _
    have hln := fun ty => H.out.lenW hoo.out.wn ty (hb2.out.trans (hd3.out.mono hb2.out.size))
    have x11 : wf.cell? ⟨g, 11, none⟩ = some (.map (some a.wm)) := hX.out _ hd3.out
    go_wp2_with fail
    refine (needs_t _ _).mono ?_
    rintro e wq ⟨rfl, hwq⟩
    obtain rfl := hwq.symm
    have hw9 := hid (hb2.out.trans (hd3.out.mono hb2.out.size))
    have x11 : wf.cell? ⟨g, 11, none⟩ = some (.map (some a.wm)) := hX.out _ hd3.out
    have kx3 := hid (kx2.out.below_all hd3.out)
    have x0 := kx3.out.cell 0
    have x1 := kx3.out.cell 1
    have x2 := kx3.out.cell 2
    have x3 := kx3.out.cell 3
    have x4 := kx3.out.cell 4
    simp only [List.getElem?_toArray, List.getElem?_cons_zero, List.getElem?_cons_succ] at x0 x1 x2 x3 x4
    obtain ⟨w5, hup0, hmp0, hgr0, hsz0⟩ := ((H.out.wm.below hw9.out).below ((Below.refl wf.heap.size wf).drew)).update Tryz.underlying95 x.key (wrV x)
    have hup : (Instr.mapUpdate 95 (.map (some a.wm)) (.string x.key) (.agg #[.string x.key, .bool x.gone, .int .i64 x.v.k, .int .i64 x.v.n, .string x.v.s])).run Tryz.prog wf.drew = .ok () w5 := hup0
    have hU5 : Hid (Upd (fun q => q = a.wm) w w5) := hid ((Upd.of_below' hw9.out (fun q => q = a.wm)).drew.grown hgr0 fun q hq _ => by injection hq with hq; exact hq.symm)
    have hM5 : Hid (MIn S w5 g F { m with writes := putW x m.writes } a) := hid (H.out.onWm hU5.out (fun q _ e => e) (fun q hq => hq) (fun q hq => .inl hq) (fun q hq => Nat.lt_of_lt_of_le (H.out.lt q hq) hU5.out.size) (hmp0.congr fun y => by
      unfold Dwr
      rw [getW_put]
      split <;> rfl))
    have hS5 : Hid (Upd S w w5) := hid ⟨hU5.out.os, hU5.out.tape, hU5.out.output, hU5.out.size, fun k hk hS => hU5.out.block k hk fun e => hS (e ▸ H.out.inS.2.2.2)⟩
    clear hup0 hmp0 hgr0 hsz0 hU5
    go_upto_region 4 with fail
    go_still_tail 7, (by kernel_rfl)
    change wpList _ _ _ _ _ wf.drew
    go_wp2_with fail
    refine ⟨rfl, .tuple #[], by simp [results, Tryz.results144, go_sem], rfl, ?_⟩
    exact ⟨S, ⟨a, hM5.out, hha.out⟩, fun q hq => .inl hq, fun q hq => hq, hS5.out⟩
theorem write_any (x : Wr) (h : MAt S w g F m) (ho : m.Ok0) : Calls Tryz.prog 144 #[.pointer (some ⟨g, 0, none⟩), .agg #[.string x.key, .bool x.gone, .int .i64 x.v.k, .int .i64 x.v.n, .string x.v.s]] w (WritePost S w g F m (m.write x)) := by
  cases hr : roomB m x.key with
  | false => exact write_full x h ho hr
  | true =>
    cases hw : hasW x.key m.writes with
    | true => exact write_again x h ho hr hw
    | false => exact write_fresh x h ho hr hw
end
end Go.Proofs.YtdmogoaaecdbaaaGreatDoor

namespace Go.Proofs.YtdmogoaaecdbaaaGreatDoor
open Go.RowKit
set_option linter.unusedVariables false
set_option linter.unusedSimpArgs false

def ArEnd (r : Except Int Int) : Ending := match r with
  | .ok n => .returned (.agg #[.int .i64 1, .int .i64 n, .string ⟨#[]⟩])
  | .error x => .panicked [{ v := .iface 92 (.agg #[.int .i64 x, .int .i64 0]), recovered := false }]
theorem inumber_l (n : Int) (w : World) : Calls Tryz.prog 147 #[.int .i64 n, .bool true] w fun e w' => e = .returned (.agg #[.int .i64 1, .int .i64 n, .string ⟨#[]⟩]) ∧ Below w.heap.size w w' := inumber_t n w
section
variable {w : World}
set_option maxRecDepth 100000 in
set_option maxHeartbeats 4000000 in
theorem add_any (b a : Int) (hb : inR b = true) (ha : inR a = true) : Calls Tryz.prog 146 #[.int .i64 7, .int .i64 b, .int .i64 a] w fun e w' => e = ArEnd (arithP 7 b a) ∧ Below w.heap.size w w' := by
  rw [inR_iff] at hb ha
  obtain ⟨c, hc⟩ : ∃ c, Hid (c = IntKind.i64.wrap (b + a)) := ⟨_, hid rfl⟩
  have hw : IntKind.i64.wrap (b + a) = c := hc.out.symm
  have hcc := hid (show c = (b + a + 9223372036854775808) % 18446744073709551616 - 9223372036854775808 by rw [hc.out, IntKind.wrap_i64])
  have hbb := hid hb
  have haa := hid ha
  clear hb ha hc
  have hB0 : Below w.heap.size w (w.alloc (.cells #[.int .i64 0, .int .i64 0, .string ⟨#[]⟩] 55)) := (Below.refl _ _).alloc (Nat.le_refl _) _
  have hB := hid hB0
  have kb := hid (Blk.new w 55 #[.int .i64 0, .int .i64 0, .string ⟨#[]⟩])
  clear hB0
  by_cases cB : 0 ≤ b
  · by_cases cA : 0 ≤ a
    · by_cases cC : 0 ≤ c
      · have sB : decide (0 ≤ b) = true := decide_eq_true cB
        have sA : decide (0 ≤ a) = true := decide_eq_true cA
        have sC : decide (0 ≤ c) = true := decide_eq_true cC
        have cB := hid cB
        have cA := hid cA
        have cC := hid cC
        have hrr : Hid (Ending.returned (.agg #[.int .i64 1, .int .i64 c, .string ⟨#[]⟩]) = ArEnd (arithP 7 b a)) := hid (by
          have e1 : inR (b + a) = true := by rw [inR_iff]; have := cB.out; have := cA.out; have := cC.out; have := hcc.out; have := hbb.out; have := haa.out; omega
          have e2 : c = b + a := by rw [inR_iff] at e1; have := hcc.out; omega
          have e3 : arithP 7 b a = .ok (b + a) := if_pos e1
          rw [e3, e2]; rfl)
        go_enter Tryz.func146, Tryz.ntmps146
        go_upto_region 3 with fail
        generalize w.alloc (.cells #[.int .i64 0, .int .i64 0, .string ⟨#[]⟩] 55) = w1 at *
        go_wp2_with fail
        refine (inumber_l c _).mono ?_
        rintro e w2 ⟨rfl, hb⟩
        have hb2 := hid (hB.out.trans (hb.mono hB.out.size))
        have k2 := hid (kb.out.below_all hb)
        have z0 := k2.out.cell 0
        have z1 := k2.out.cell 1
        have z2 := k2.out.cell 2
        simp only [List.getElem?_toArray, List.getElem?_cons_zero, List.getElem?_cons_succ] at z0 z1 z2
        have fz := fun q => k2.out.frozen q
        clear hb
        go_wp2_with fail
        refine bodyPost_ret (v := .agg #[.int .i64 1, .int .i64 c, .string ⟨#[]⟩]) ?_ rfl ⟨hrr.out, ?_⟩
        · exact results_cell_row (P := Tryz.prog) rfl _ _ w.heap.size 55 _ (0, 0) _ rfl (show Blk _ _ _ #[.int .i64 1, .int .i64 c, .string ⟨#[]⟩] from by simpa using ((k2.out.set_ 0 _).set_ 1 _).set_ 2 _) Tryz.underlying55 rfl (by kernel_rfl)
        · exact ((hb2.out.setCell (p := ⟨w.heap.size, 0, none⟩) (Nat.le_refl _) _).setCell (p := ⟨w.heap.size, 1, none⟩) (Nat.le_refl _) _).setCell (p := ⟨w.heap.size, 2, none⟩) (Nat.le_refl _) _
      · have sB : decide (0 ≤ b) = true := decide_eq_true cB
        have sA : decide (0 ≤ a) = true := decide_eq_true cA
        have sC : decide (0 ≤ c) = false := decide_eq_false cC
        have cB := hid cB
        have cA := hid cA
        have cC := hid cC
        have hrr : Hid (Ending.panicked [{ v := .iface 92 (.agg #[.int .i64 70, .int .i64 0]), recovered := false }] = ArEnd (arithP 7 b a)) := hid (by
          have e1 : ¬ inR (b + a) = true := by rw [inR_iff]; have := cB.out; have := cA.out; have := cC.out; have := hcc.out; have := hbb.out; have := haa.out; omega
          have e3 : arithP 7 b a = .error 70 := if_neg e1
          rw [e3]; rfl)
        go_enter Tryz.func146, Tryz.ntmps146
        go_upto_region 3 with fail
        generalize w.alloc (.cells #[.int .i64 0, .int .i64 0, .string ⟨#[]⟩] 55) = w1 at *
        go_wp2_with fail
        refine (inumber_f c _).mono ?_
        rintro e w2 ⟨rfl, hb⟩
        have hb2 := hid (hB.out.trans (hb.mono hB.out.size))
        clear hb
        go_wp2_with fail
        exact ⟨rfl, hrr.out, hb2.out⟩
    · by_cases cC : 0 ≤ c
      · have sB : decide (0 ≤ b) = true := decide_eq_true cB
        have sA : decide (0 ≤ a) = false := decide_eq_false cA
        have sC : decide (0 ≤ c) = true := decide_eq_true cC
        have cB := hid cB
        have cA := hid cA
        have cC := hid cC
        have hrr : Hid (Ending.returned (.agg #[.int .i64 1, .int .i64 c, .string ⟨#[]⟩]) = ArEnd (arithP 7 b a)) := hid (by
          have e1 : inR (b + a) = true := by rw [inR_iff]; have := cB.out; have := cA.out; have := cC.out; have := hcc.out; have := hbb.out; have := haa.out; omega
          have e2 : c = b + a := by rw [inR_iff] at e1; have := hcc.out; omega
          have e3 : arithP 7 b a = .ok (b + a) := if_pos e1
          rw [e3, e2]; rfl)
        go_enter Tryz.func146, Tryz.ntmps146
        go_upto_region 3 with fail
        generalize w.alloc (.cells #[.int .i64 0, .int .i64 0, .string ⟨#[]⟩] 55) = w1 at *
        go_wp2_with fail
        refine (inumber_l c _).mono ?_
        rintro e w2 ⟨rfl, hb⟩
        have hb2 := hid (hB.out.trans (hb.mono hB.out.size))
        have k2 := hid (kb.out.below_all hb)
        have z0 := k2.out.cell 0
        have z1 := k2.out.cell 1
        have z2 := k2.out.cell 2
        simp only [List.getElem?_toArray, List.getElem?_cons_zero, List.getElem?_cons_succ] at z0 z1 z2
        have fz := fun q => k2.out.frozen q
        clear hb
        go_wp2_with fail
        refine bodyPost_ret (v := .agg #[.int .i64 1, .int .i64 c, .string ⟨#[]⟩]) ?_ rfl ⟨hrr.out, ?_⟩
        · exact results_cell_row (P := Tryz.prog) rfl _ _ w.heap.size 55 _ (0, 0) _ rfl (show Blk _ _ _ #[.int .i64 1, .int .i64 c, .string ⟨#[]⟩] from by simpa using ((k2.out.set_ 0 _).set_ 1 _).set_ 2 _) Tryz.underlying55 rfl (by kernel_rfl)
        · exact ((hb2.out.setCell (p := ⟨w.heap.size, 0, none⟩) (Nat.le_refl _) _).setCell (p := ⟨w.heap.size, 1, none⟩) (Nat.le_refl _) _).setCell (p := ⟨w.heap.size, 2, none⟩) (Nat.le_refl _) _
      · have sB : decide (0 ≤ b) = true := decide_eq_true cB
        have sA : decide (0 ≤ a) = false := decide_eq_false cA
        have sC : decide (0 ≤ c) = false := decide_eq_false cC
        have cB := hid cB
        have cA := hid cA
        have cC := hid cC
        have hrr : Hid (Ending.returned (.agg #[.int .i64 1, .int .i64 c, .string ⟨#[]⟩]) = ArEnd (arithP 7 b a)) := hid (by
          have e1 : inR (b + a) = true := by rw [inR_iff]; have := cB.out; have := cA.out; have := cC.out; have := hcc.out; have := hbb.out; have := haa.out; omega
          have e2 : c = b + a := by rw [inR_iff] at e1; have := hcc.out; omega
          have e3 : arithP 7 b a = .ok (b + a) := if_pos e1
          rw [e3, e2]; rfl)
        go_enter Tryz.func146, Tryz.ntmps146
        go_upto_region 3 with fail
        generalize w.alloc (.cells #[.int .i64 0, .int .i64 0, .string ⟨#[]⟩] 55) = w1 at *
        go_wp2_with fail
        refine (inumber_l c _).mono ?_
        rintro e w2 ⟨rfl, hb⟩
        have hb2 := hid (hB.out.trans (hb.mono hB.out.size))
        have k2 := hid (kb.out.below_all hb)
        have z0 := k2.out.cell 0
        have z1 := k2.out.cell 1
        have z2 := k2.out.cell 2
        simp only [List.getElem?_toArray, List.getElem?_cons_zero, List.getElem?_cons_succ] at z0 z1 z2
        have fz := fun q => k2.out.frozen q
        clear hb
        go_wp2_with fail
        refine bodyPost_ret (v := .agg #[.int .i64 1, .int .i64 c, .string ⟨#[]⟩]) ?_ rfl ⟨hrr.out, ?_⟩
        · exact results_cell_row (P := Tryz.prog) rfl _ _ w.heap.size 55 _ (0, 0) _ rfl (show Blk _ _ _ #[.int .i64 1, .int .i64 c, .string ⟨#[]⟩] from by simpa using ((k2.out.set_ 0 _).set_ 1 _).set_ 2 _) Tryz.underlying55 rfl (by kernel_rfl)
        · exact ((hb2.out.setCell (p := ⟨w.heap.size, 0, none⟩) (Nat.le_refl _) _).setCell (p := ⟨w.heap.size, 1, none⟩) (Nat.le_refl _) _).setCell (p := ⟨w.heap.size, 2, none⟩) (Nat.le_refl _) _
  · by_cases cA : 0 ≤ a
    · by_cases cC : 0 ≤ c
      · have sB : decide (0 ≤ b) = false := decide_eq_false cB
        have sA : decide (0 ≤ a) = true := decide_eq_true cA
        have sC : decide (0 ≤ c) = true := decide_eq_true cC
        have cB := hid cB
        have cA := hid cA
        have cC := hid cC
        have hrr : Hid (Ending.returned (.agg #[.int .i64 1, .int .i64 c, .string ⟨#[]⟩]) = ArEnd (arithP 7 b a)) := hid (by
          have e1 : inR (b + a) = true := by rw [inR_iff]; have := cB.out; have := cA.out; have := cC.out; have := hcc.out; have := hbb.out; have := haa.out; omega
          have e2 : c = b + a := by rw [inR_iff] at e1; have := hcc.out; omega
          have e3 : arithP 7 b a = .ok (b + a) := if_pos e1
          rw [e3, e2]; rfl)
        go_enter Tryz.func146, Tryz.ntmps146
        go_upto_region 3 with fail
        generalize w.alloc (.cells #[.int .i64 0, .int .i64 0, .string ⟨#[]⟩] 55) = w1 at *
        go_wp2_with fail
        refine (inumber_l c _).mono ?_
        rintro e w2 ⟨rfl, hb⟩
        have hb2 := hid (hB.out.trans (hb.mono hB.out.size))
        have k2 := hid (kb.out.below_all hb)
        have z0 := k2.out.cell 0
        have z1 := k2.out.cell 1
        have z2 := k2.out.cell 2
        simp only [List.getElem?_toArray, List.getElem?_cons_zero, List.getElem?_cons_succ] at z0 z1 z2
        have fz := fun q => k2.out.frozen q
        clear hb
        go_wp2_with fail
        refine bodyPost_ret (v := .agg #[.int .i64 1, .int .i64 c, .string ⟨#[]⟩]) ?_ rfl ⟨hrr.out, ?_⟩
        · exact results_cell_row (P := Tryz.prog) rfl _ _ w.heap.size 55 _ (0, 0) _ rfl (show Blk _ _ _ #[.int .i64 1, .int .i64 c, .string ⟨#[]⟩] from by simpa using ((k2.out.set_ 0 _).set_ 1 _).set_ 2 _) Tryz.underlying55 rfl (by kernel_rfl)
        · exact ((hb2.out.setCell (p := ⟨w.heap.size, 0, none⟩) (Nat.le_refl _) _).setCell (p := ⟨w.heap.size, 1, none⟩) (Nat.le_refl _) _).setCell (p := ⟨w.heap.size, 2, none⟩) (Nat.le_refl _) _
      · have sB : decide (0 ≤ b) = false := decide_eq_false cB
        have sA : decide (0 ≤ a) = true := decide_eq_true cA
        have sC : decide (0 ≤ c) = false := decide_eq_false cC
        have cB := hid cB
        have cA := hid cA
        have cC := hid cC
        have hrr : Hid (Ending.returned (.agg #[.int .i64 1, .int .i64 c, .string ⟨#[]⟩]) = ArEnd (arithP 7 b a)) := hid (by
          have e1 : inR (b + a) = true := by rw [inR_iff]; have := cB.out; have := cA.out; have := cC.out; have := hcc.out; have := hbb.out; have := haa.out; omega
          have e2 : c = b + a := by rw [inR_iff] at e1; have := hcc.out; omega
          have e3 : arithP 7 b a = .ok (b + a) := if_pos e1
          rw [e3, e2]; rfl)
        go_enter Tryz.func146, Tryz.ntmps146
        go_upto_region 3 with fail
        generalize w.alloc (.cells #[.int .i64 0, .int .i64 0, .string ⟨#[]⟩] 55) = w1 at *
        go_wp2_with fail
        refine (inumber_l c _).mono ?_
        rintro e w2 ⟨rfl, hb⟩
        have hb2 := hid (hB.out.trans (hb.mono hB.out.size))
        have k2 := hid (kb.out.below_all hb)
        have z0 := k2.out.cell 0
        have z1 := k2.out.cell 1
        have z2 := k2.out.cell 2
        simp only [List.getElem?_toArray, List.getElem?_cons_zero, List.getElem?_cons_succ] at z0 z1 z2
        have fz := fun q => k2.out.frozen q
        clear hb
        go_wp2_with fail
        refine bodyPost_ret (v := .agg #[.int .i64 1, .int .i64 c, .string ⟨#[]⟩]) ?_ rfl ⟨hrr.out, ?_⟩
        · exact results_cell_row (P := Tryz.prog) rfl _ _ w.heap.size 55 _ (0, 0) _ rfl (show Blk _ _ _ #[.int .i64 1, .int .i64 c, .string ⟨#[]⟩] from by simpa using ((k2.out.set_ 0 _).set_ 1 _).set_ 2 _) Tryz.underlying55 rfl (by kernel_rfl)
        · exact ((hb2.out.setCell (p := ⟨w.heap.size, 0, none⟩) (Nat.le_refl _) _).setCell (p := ⟨w.heap.size, 1, none⟩) (Nat.le_refl _) _).setCell (p := ⟨w.heap.size, 2, none⟩) (Nat.le_refl _) _
    · by_cases cC : 0 ≤ c
      · have sB : decide (0 ≤ b) = false := decide_eq_false cB
        have sA : decide (0 ≤ a) = false := decide_eq_false cA
        have sC : decide (0 ≤ c) = true := decide_eq_true cC
        have cB := hid cB
        have cA := hid cA
        have cC := hid cC
        have hrr : Hid (Ending.panicked [{ v := .iface 92 (.agg #[.int .i64 70, .int .i64 0]), recovered := false }] = ArEnd (arithP 7 b a)) := hid (by
          have e1 : ¬ inR (b + a) = true := by rw [inR_iff]; have := cB.out; have := cA.out; have := cC.out; have := hcc.out; have := hbb.out; have := haa.out; omega
          have e3 : arithP 7 b a = .error 70 := if_neg e1
          rw [e3]; rfl)
        go_enter Tryz.func146, Tryz.ntmps146
        go_upto_region 3 with fail
        generalize w.alloc (.cells #[.int .i64 0, .int .i64 0, .string ⟨#[]⟩] 55) = w1 at *
        go_wp2_with fail
        refine (inumber_f c _).mono ?_
        rintro e w2 ⟨rfl, hb⟩
        have hb2 := hid (hB.out.trans (hb.mono hB.out.size))
        clear hb
        go_wp2_with fail
        exact ⟨rfl, hrr.out, hb2.out⟩
      · have sB : decide (0 ≤ b) = false := decide_eq_false cB
        have sA : decide (0 ≤ a) = false := decide_eq_false cA
        have sC : decide (0 ≤ c) = false := decide_eq_false cC
        have cB := hid cB
        have cA := hid cA
        have cC := hid cC
        have hrr : Hid (Ending.returned (.agg #[.int .i64 1, .int .i64 c, .string ⟨#[]⟩]) = ArEnd (arithP 7 b a)) := hid (by
          have e1 : inR (b + a) = true := by rw [inR_iff]; have := cB.out; have := cA.out; have := cC.out; have := hcc.out; have := hbb.out; have := haa.out; omega
          have e2 : c = b + a := by rw [inR_iff] at e1; have := hcc.out; omega
          have e3 : arithP 7 b a = .ok (b + a) := if_pos e1
          rw [e3, e2]; rfl)
        go_enter Tryz.func146, Tryz.ntmps146
        go_upto_region 3 with fail
        generalize w.alloc (.cells #[.int .i64 0, .int .i64 0, .string ⟨#[]⟩] 55) = w1 at *
        go_wp2_with fail
        refine (inumber_l c _).mono ?_
        rintro e w2 ⟨rfl, hb⟩
        have hb2 := hid (hB.out.trans (hb.mono hB.out.size))
        have k2 := hid (kb.out.below_all hb)
        have z0 := k2.out.cell 0
        have z1 := k2.out.cell 1
        have z2 := k2.out.cell 2
        simp only [List.getElem?_toArray, List.getElem?_cons_zero, List.getElem?_cons_succ] at z0 z1 z2
        have fz := fun q => k2.out.frozen q
        clear hb
        go_wp2_with fail
        refine bodyPost_ret (v := .agg #[.int .i64 1, .int .i64 c, .string ⟨#[]⟩]) ?_ rfl ⟨hrr.out, ?_⟩
        · exact results_cell_row (P := Tryz.prog) rfl _ _ w.heap.size 55 _ (0, 0) _ rfl (show Blk _ _ _ #[.int .i64 1, .int .i64 c, .string ⟨#[]⟩] from by simpa using ((k2.out.set_ 0 _).set_ 1 _).set_ 2 _) Tryz.underlying55 rfl (by kernel_rfl)
        · exact ((hb2.out.setCell (p := ⟨w.heap.size, 0, none⟩) (Nat.le_refl _) _).setCell (p := ⟨w.heap.size, 1, none⟩) (Nat.le_refl _) _).setCell (p := ⟨w.heap.size, 2, none⟩) (Nat.le_refl _) _
set_option maxRecDepth 100000 in
set_option maxHeartbeats 4000000 in
theorem sub_any (b a : Int) (hb : inR b = true) (ha : inR a = true) : Calls Tryz.prog 146 #[.int .i64 8, .int .i64 b, .int .i64 a] w fun e w' => e = ArEnd (arithP 8 b a) ∧ Below w.heap.size w w' := by
  rw [inR_iff] at hb ha
  obtain ⟨c, hc⟩ : ∃ c, Hid (c = IntKind.i64.wrap (b - a)) := ⟨_, hid rfl⟩
  have hw : IntKind.i64.wrap (b - a) = c := hc.out.symm
  have hcc := hid (show c = (b - a + 9223372036854775808) % 18446744073709551616 - 9223372036854775808 by rw [hc.out, IntKind.wrap_i64])
  have hbb := hid hb
  have haa := hid ha
  clear hb ha hc
  have hB0 : Below w.heap.size w (w.alloc (.cells #[.int .i64 0, .int .i64 0, .string ⟨#[]⟩] 55)) := (Below.refl _ _).alloc (Nat.le_refl _) _
  have hB := hid hB0
  have kb := hid (Blk.new w 55 #[.int .i64 0, .int .i64 0, .string ⟨#[]⟩])
  clear hB0
  by_cases cB : 0 ≤ b
  · by_cases cA : 0 ≤ a
    · by_cases cC : 0 ≤ c
      · have sB : decide (0 ≤ b) = true := decide_eq_true cB
        have sA : decide (0 ≤ a) = true := decide_eq_true cA
        have sC : decide (0 ≤ c) = true := decide_eq_true cC
        have cB := hid cB
        have cA := hid cA
        have cC := hid cC
        have hrr : Hid (Ending.returned (.agg #[.int .i64 1, .int .i64 c, .string ⟨#[]⟩]) = ArEnd (arithP 8 b a)) := hid (by
          have e1 : inR (b - a) = true := by rw [inR_iff]; have := cB.out; have := cA.out; have := cC.out; have := hcc.out; have := hbb.out; have := haa.out; omega
          have e2 : c = b - a := by rw [inR_iff] at e1; have := hcc.out; omega
          have e3 : arithP 8 b a = .ok (b - a) := if_pos e1
          rw [e3, e2]; rfl)
        go_enter Tryz.func146, Tryz.ntmps146
        go_upto_region 6 with fail
        generalize w.alloc (.cells #[.int .i64 0, .int .i64 0, .string ⟨#[]⟩] 55) = w1 at *
        go_wp2_with fail
        refine (inumber_l c _).mono ?_
        rintro e w2 ⟨rfl, hb⟩
        have hb2 := hid (hB.out.trans (hb.mono hB.out.size))
        have k2 := hid (kb.out.below_all hb)
        have z0 := k2.out.cell 0
        have z1 := k2.out.cell 1
        have z2 := k2.out.cell 2
        simp only [List.getElem?_toArray, List.getElem?_cons_zero, List.getElem?_cons_succ] at z0 z1 z2
        have fz := fun q => k2.out.frozen q
        clear hb
        go_wp2_with fail
        refine bodyPost_ret (v := .agg #[.int .i64 1, .int .i64 c, .string ⟨#[]⟩]) ?_ rfl ⟨hrr.out, ?_⟩
        · exact results_cell_row (P := Tryz.prog) rfl _ _ w.heap.size 55 _ (0, 0) _ rfl (show Blk _ _ _ #[.int .i64 1, .int .i64 c, .string ⟨#[]⟩] from by simpa using ((k2.out.set_ 0 _).set_ 1 _).set_ 2 _) Tryz.underlying55 rfl (by kernel_rfl)
        · exact ((hb2.out.setCell (p := ⟨w.heap.size, 0, none⟩) (Nat.le_refl _) _).setCell (p := ⟨w.heap.size, 1, none⟩) (Nat.le_refl _) _).setCell (p := ⟨w.heap.size, 2, none⟩) (Nat.le_refl _) _
      · have sB : decide (0 ≤ b) = true := decide_eq_true cB
        have sA : decide (0 ≤ a) = true := decide_eq_true cA
        have sC : decide (0 ≤ c) = false := decide_eq_false cC
        have cB := hid cB
        have cA := hid cA
        have cC := hid cC
        have hrr : Hid (Ending.returned (.agg #[.int .i64 1, .int .i64 c, .string ⟨#[]⟩]) = ArEnd (arithP 8 b a)) := hid (by
          have e1 : inR (b - a) = true := by rw [inR_iff]; have := cB.out; have := cA.out; have := cC.out; have := hcc.out; have := hbb.out; have := haa.out; omega
          have e2 : c = b - a := by rw [inR_iff] at e1; have := hcc.out; omega
          have e3 : arithP 8 b a = .ok (b - a) := if_pos e1
          rw [e3, e2]; rfl)
        go_enter Tryz.func146, Tryz.ntmps146
        go_upto_region 6 with fail
        generalize w.alloc (.cells #[.int .i64 0, .int .i64 0, .string ⟨#[]⟩] 55) = w1 at *
        go_wp2_with fail
        refine (inumber_l c _).mono ?_
        rintro e w2 ⟨rfl, hb⟩
        have hb2 := hid (hB.out.trans (hb.mono hB.out.size))
        have k2 := hid (kb.out.below_all hb)
        have z0 := k2.out.cell 0
        have z1 := k2.out.cell 1
        have z2 := k2.out.cell 2
        simp only [List.getElem?_toArray, List.getElem?_cons_zero, List.getElem?_cons_succ] at z0 z1 z2
        have fz := fun q => k2.out.frozen q
        clear hb
        go_wp2_with fail
        refine bodyPost_ret (v := .agg #[.int .i64 1, .int .i64 c, .string ⟨#[]⟩]) ?_ rfl ⟨hrr.out, ?_⟩
        · exact results_cell_row (P := Tryz.prog) rfl _ _ w.heap.size 55 _ (0, 0) _ rfl (show Blk _ _ _ #[.int .i64 1, .int .i64 c, .string ⟨#[]⟩] from by simpa using ((k2.out.set_ 0 _).set_ 1 _).set_ 2 _) Tryz.underlying55 rfl (by kernel_rfl)
        · exact ((hb2.out.setCell (p := ⟨w.heap.size, 0, none⟩) (Nat.le_refl _) _).setCell (p := ⟨w.heap.size, 1, none⟩) (Nat.le_refl _) _).setCell (p := ⟨w.heap.size, 2, none⟩) (Nat.le_refl _) _
    · by_cases cC : 0 ≤ c
      · have sB : decide (0 ≤ b) = true := decide_eq_true cB
        have sA : decide (0 ≤ a) = false := decide_eq_false cA
        have sC : decide (0 ≤ c) = true := decide_eq_true cC
        have cB := hid cB
        have cA := hid cA
        have cC := hid cC
        have hrr : Hid (Ending.returned (.agg #[.int .i64 1, .int .i64 c, .string ⟨#[]⟩]) = ArEnd (arithP 8 b a)) := hid (by
          have e1 : inR (b - a) = true := by rw [inR_iff]; have := cB.out; have := cA.out; have := cC.out; have := hcc.out; have := hbb.out; have := haa.out; omega
          have e2 : c = b - a := by rw [inR_iff] at e1; have := hcc.out; omega
          have e3 : arithP 8 b a = .ok (b - a) := if_pos e1
          rw [e3, e2]; rfl)
        go_enter Tryz.func146, Tryz.ntmps146
        go_upto_region 6 with fail
        generalize w.alloc (.cells #[.int .i64 0, .int .i64 0, .string ⟨#[]⟩] 55) = w1 at *
        go_wp2_with fail
        refine (inumber_l c _).mono ?_
        rintro e w2 ⟨rfl, hb⟩
        have hb2 := hid (hB.out.trans (hb.mono hB.out.size))
        have k2 := hid (kb.out.below_all hb)
        have z0 := k2.out.cell 0
        have z1 := k2.out.cell 1
        have z2 := k2.out.cell 2
        simp only [List.getElem?_toArray, List.getElem?_cons_zero, List.getElem?_cons_succ] at z0 z1 z2
        have fz := fun q => k2.out.frozen q
        clear hb
        go_wp2_with fail
        refine bodyPost_ret (v := .agg #[.int .i64 1, .int .i64 c, .string ⟨#[]⟩]) ?_ rfl ⟨hrr.out, ?_⟩
        · exact results_cell_row (P := Tryz.prog) rfl _ _ w.heap.size 55 _ (0, 0) _ rfl (show Blk _ _ _ #[.int .i64 1, .int .i64 c, .string ⟨#[]⟩] from by simpa using ((k2.out.set_ 0 _).set_ 1 _).set_ 2 _) Tryz.underlying55 rfl (by kernel_rfl)
        · exact ((hb2.out.setCell (p := ⟨w.heap.size, 0, none⟩) (Nat.le_refl _) _).setCell (p := ⟨w.heap.size, 1, none⟩) (Nat.le_refl _) _).setCell (p := ⟨w.heap.size, 2, none⟩) (Nat.le_refl _) _
      · have sB : decide (0 ≤ b) = true := decide_eq_true cB
        have sA : decide (0 ≤ a) = false := decide_eq_false cA
        have sC : decide (0 ≤ c) = false := decide_eq_false cC
        have cB := hid cB
        have cA := hid cA
        have cC := hid cC
        have hrr : Hid (Ending.panicked [{ v := .iface 92 (.agg #[.int .i64 70, .int .i64 0]), recovered := false }] = ArEnd (arithP 8 b a)) := hid (by
          have e1 : ¬ inR (b - a) = true := by rw [inR_iff]; have := cB.out; have := cA.out; have := cC.out; have := hcc.out; have := hbb.out; have := haa.out; omega
          have e3 : arithP 8 b a = .error 70 := if_neg e1
          rw [e3]; rfl)
        go_enter Tryz.func146, Tryz.ntmps146
        go_upto_region 6 with fail
        generalize w.alloc (.cells #[.int .i64 0, .int .i64 0, .string ⟨#[]⟩] 55) = w1 at *
        go_wp2_with fail
        refine (inumber_f c _).mono ?_
        rintro e w2 ⟨rfl, hb⟩
        have hb2 := hid (hB.out.trans (hb.mono hB.out.size))
        clear hb
        go_wp2_with fail
        exact ⟨rfl, hrr.out, hb2.out⟩
  · by_cases cA : 0 ≤ a
    · by_cases cC : 0 ≤ c
      · have sB : decide (0 ≤ b) = false := decide_eq_false cB
        have sA : decide (0 ≤ a) = true := decide_eq_true cA
        have sC : decide (0 ≤ c) = true := decide_eq_true cC
        have cB := hid cB
        have cA := hid cA
        have cC := hid cC
        have hrr : Hid (Ending.panicked [{ v := .iface 92 (.agg #[.int .i64 70, .int .i64 0]), recovered := false }] = ArEnd (arithP 8 b a)) := hid (by
          have e1 : ¬ inR (b - a) = true := by rw [inR_iff]; have := cB.out; have := cA.out; have := cC.out; have := hcc.out; have := hbb.out; have := haa.out; omega
          have e3 : arithP 8 b a = .error 70 := if_neg e1
          rw [e3]; rfl)
        go_enter Tryz.func146, Tryz.ntmps146
        go_upto_region 6 with fail
        generalize w.alloc (.cells #[.int .i64 0, .int .i64 0, .string ⟨#[]⟩] 55) = w1 at *
        go_wp2_with fail
        refine (inumber_f c _).mono ?_
        rintro e w2 ⟨rfl, hb⟩
        have hb2 := hid (hB.out.trans (hb.mono hB.out.size))
        clear hb
        go_wp2_with fail
        exact ⟨rfl, hrr.out, hb2.out⟩
      · have sB : decide (0 ≤ b) = false := decide_eq_false cB
        have sA : decide (0 ≤ a) = true := decide_eq_true cA
        have sC : decide (0 ≤ c) = false := decide_eq_false cC
        have cB := hid cB
        have cA := hid cA
        have cC := hid cC
        have hrr : Hid (Ending.returned (.agg #[.int .i64 1, .int .i64 c, .string ⟨#[]⟩]) = ArEnd (arithP 8 b a)) := hid (by
          have e1 : inR (b - a) = true := by rw [inR_iff]; have := cB.out; have := cA.out; have := cC.out; have := hcc.out; have := hbb.out; have := haa.out; omega
          have e2 : c = b - a := by rw [inR_iff] at e1; have := hcc.out; omega
          have e3 : arithP 8 b a = .ok (b - a) := if_pos e1
          rw [e3, e2]; rfl)
        go_enter Tryz.func146, Tryz.ntmps146
        go_upto_region 6 with fail
        generalize w.alloc (.cells #[.int .i64 0, .int .i64 0, .string ⟨#[]⟩] 55) = w1 at *
        go_wp2_with fail
        refine (inumber_l c _).mono ?_
        rintro e w2 ⟨rfl, hb⟩
        have hb2 := hid (hB.out.trans (hb.mono hB.out.size))
        have k2 := hid (kb.out.below_all hb)
        have z0 := k2.out.cell 0
        have z1 := k2.out.cell 1
        have z2 := k2.out.cell 2
        simp only [List.getElem?_toArray, List.getElem?_cons_zero, List.getElem?_cons_succ] at z0 z1 z2
        have fz := fun q => k2.out.frozen q
        clear hb
        go_wp2_with fail
        refine bodyPost_ret (v := .agg #[.int .i64 1, .int .i64 c, .string ⟨#[]⟩]) ?_ rfl ⟨hrr.out, ?_⟩
        · exact results_cell_row (P := Tryz.prog) rfl _ _ w.heap.size 55 _ (0, 0) _ rfl (show Blk _ _ _ #[.int .i64 1, .int .i64 c, .string ⟨#[]⟩] from by simpa using ((k2.out.set_ 0 _).set_ 1 _).set_ 2 _) Tryz.underlying55 rfl (by kernel_rfl)
        · exact ((hb2.out.setCell (p := ⟨w.heap.size, 0, none⟩) (Nat.le_refl _) _).setCell (p := ⟨w.heap.size, 1, none⟩) (Nat.le_refl _) _).setCell (p := ⟨w.heap.size, 2, none⟩) (Nat.le_refl _) _
    · by_cases cC : 0 ≤ c
      · have sB : decide (0 ≤ b) = false := decide_eq_false cB
        have sA : decide (0 ≤ a) = false := decide_eq_false cA
        have sC : decide (0 ≤ c) = true := decide_eq_true cC
        have cB := hid cB
        have cA := hid cA
        have cC := hid cC
        have hrr : Hid (Ending.returned (.agg #[.int .i64 1, .int .i64 c, .string ⟨#[]⟩]) = ArEnd (arithP 8 b a)) := hid (by
          have e1 : inR (b - a) = true := by rw [inR_iff]; have := cB.out; have := cA.out; have := cC.out; have := hcc.out; have := hbb.out; have := haa.out; omega
          have e2 : c = b - a := by rw [inR_iff] at e1; have := hcc.out; omega
          have e3 : arithP 8 b a = .ok (b - a) := if_pos e1
          rw [e3, e2]; rfl)
        go_enter Tryz.func146, Tryz.ntmps146
        go_upto_region 6 with fail
        generalize w.alloc (.cells #[.int .i64 0, .int .i64 0, .string ⟨#[]⟩] 55) = w1 at *
        go_wp2_with fail
        refine (inumber_l c _).mono ?_
        rintro e w2 ⟨rfl, hb⟩
        have hb2 := hid (hB.out.trans (hb.mono hB.out.size))
        have k2 := hid (kb.out.below_all hb)
        have z0 := k2.out.cell 0
        have z1 := k2.out.cell 1
        have z2 := k2.out.cell 2
        simp only [List.getElem?_toArray, List.getElem?_cons_zero, List.getElem?_cons_succ] at z0 z1 z2
        have fz := fun q => k2.out.frozen q
        clear hb
        go_wp2_with fail
        refine bodyPost_ret (v := .agg #[.int .i64 1, .int .i64 c, .string ⟨#[]⟩]) ?_ rfl ⟨hrr.out, ?_⟩
        · exact results_cell_row (P := Tryz.prog) rfl _ _ w.heap.size 55 _ (0, 0) _ rfl (show Blk _ _ _ #[.int .i64 1, .int .i64 c, .string ⟨#[]⟩] from by simpa using ((k2.out.set_ 0 _).set_ 1 _).set_ 2 _) Tryz.underlying55 rfl (by kernel_rfl)
        · exact ((hb2.out.setCell (p := ⟨w.heap.size, 0, none⟩) (Nat.le_refl _) _).setCell (p := ⟨w.heap.size, 1, none⟩) (Nat.le_refl _) _).setCell (p := ⟨w.heap.size, 2, none⟩) (Nat.le_refl _) _
      · have sB : decide (0 ≤ b) = false := decide_eq_false cB
        have sA : decide (0 ≤ a) = false := decide_eq_false cA
        have sC : decide (0 ≤ c) = false := decide_eq_false cC
        have cB := hid cB
        have cA := hid cA
        have cC := hid cC
        have hrr : Hid (Ending.returned (.agg #[.int .i64 1, .int .i64 c, .string ⟨#[]⟩]) = ArEnd (arithP 8 b a)) := hid (by
          have e1 : inR (b - a) = true := by rw [inR_iff]; have := cB.out; have := cA.out; have := cC.out; have := hcc.out; have := hbb.out; have := haa.out; omega
          have e2 : c = b - a := by rw [inR_iff] at e1; have := hcc.out; omega
          have e3 : arithP 8 b a = .ok (b - a) := if_pos e1
          rw [e3, e2]; rfl)
        go_enter Tryz.func146, Tryz.ntmps146
        go_upto_region 6 with fail
        generalize w.alloc (.cells #[.int .i64 0, .int .i64 0, .string ⟨#[]⟩] 55) = w1 at *
        go_wp2_with fail
        refine (inumber_l c _).mono ?_
        rintro e w2 ⟨rfl, hb⟩
        have hb2 := hid (hB.out.trans (hb.mono hB.out.size))
        have k2 := hid (kb.out.below_all hb)
        have z0 := k2.out.cell 0
        have z1 := k2.out.cell 1
        have z2 := k2.out.cell 2
        simp only [List.getElem?_toArray, List.getElem?_cons_zero, List.getElem?_cons_succ] at z0 z1 z2
        have fz := fun q => k2.out.frozen q
        clear hb
        go_wp2_with fail
        refine bodyPost_ret (v := .agg #[.int .i64 1, .int .i64 c, .string ⟨#[]⟩]) ?_ rfl ⟨hrr.out, ?_⟩
        · exact results_cell_row (P := Tryz.prog) rfl _ _ w.heap.size 55 _ (0, 0) _ rfl (show Blk _ _ _ #[.int .i64 1, .int .i64 c, .string ⟨#[]⟩] from by simpa using ((k2.out.set_ 0 _).set_ 1 _).set_ 2 _) Tryz.underlying55 rfl (by kernel_rfl)
        · exact ((hb2.out.setCell (p := ⟨w.heap.size, 0, none⟩) (Nat.le_refl _) _).setCell (p := ⟨w.heap.size, 1, none⟩) (Nat.le_refl _) _).setCell (p := ⟨w.heap.size, 2, none⟩) (Nat.le_refl _) _
set_option maxRecDepth 100000 in
set_option maxHeartbeats 4000000 in
theorem mul_any (b a : Int) (hb : inR b = true) (ha : inR a = true) : Calls Tryz.prog 146 #[.int .i64 9, .int .i64 b, .int .i64 a] w fun e w' => e = ArEnd (arithP 9 b a) ∧ Below w.heap.size w w' := by
  rw [inR_iff] at hb ha
  have hpr := hid (fun w => product_any b a w (inR_iff.2 hb) (inR_iff.2 ha))
  have hB0 : Below w.heap.size w (w.alloc (.cells #[.int .i64 0, .int .i64 0, .string ⟨#[]⟩] 55)) := (Below.refl _ _).alloc (Nat.le_refl _) _
  have hB := hid hB0
  have kb := hid (Blk.new w 55 #[.int .i64 0, .int .i64 0, .string ⟨#[]⟩])
  clear hB0
  clear hb ha
  have hres : arithP 9 b a = if inR (b * a) = true then .ok (b * a) else .error 70 := rfl
  cases hi : inR (b * a) with
  | true =>
    have hrr : Hid (Ending.returned (.agg #[.int .i64 1, .int .i64 (b * a), .string ⟨#[]⟩]) = ArEnd (arithP 9 b a)) := hid (by rw [hres, if_pos hi]; rfl)
    rw [hi] at hpr
    clear hres hi
    go_enter Tryz.func146, Tryz.ntmps146
    go_upto_region 9 with fail
    generalize w.alloc (.cells #[.int .i64 0, .int .i64 0, .string ⟨#[]⟩] 55) = w1 at *
    go_wp2_with fail
    refine (hpr.out _).mono ?_
    rintro e wq ⟨⟨x, rfl, hx⟩, hwq⟩
    obtain rfl := hwq.symm
    have hx := hx (by trivial)
    subst hx
    go_wp2_with fail
    refine (inumber_l _ _).mono ?_
    rintro e w2 ⟨rfl, hb⟩
    have hb2 := hid (hB.out.trans (hb.mono hB.out.size))
    have k2 := hid (kb.out.below_all hb)
    have z0 := k2.out.cell 0
    have z1 := k2.out.cell 1
    have z2 := k2.out.cell 2
    simp only [List.getElem?_toArray, List.getElem?_cons_zero, List.getElem?_cons_succ] at z0 z1 z2
    have fz := fun q => k2.out.frozen q
    clear hb
    go_wp2_with fail
    refine bodyPost_ret (v := .agg #[.int .i64 1, .int .i64 (b * a), .string ⟨#[]⟩]) ?_ rfl ⟨hrr.out, ?_⟩
    · exact results_cell_row (P := Tryz.prog) rfl _ _ w.heap.size 55 _ (0, 0) _ rfl (show Blk _ _ _ #[.int .i64 1, .int .i64 (b * a), .string ⟨#[]⟩] from by simpa using ((k2.out.set_ 0 _).set_ 1 _).set_ 2 _) Tryz.underlying55 rfl (by kernel_rfl)
    · exact ((hb2.out.setCell (p := ⟨w.heap.size, 0, none⟩) (Nat.le_refl _) _).setCell (p := ⟨w.heap.size, 1, none⟩) (Nat.le_refl _) _).setCell (p := ⟨w.heap.size, 2, none⟩) (Nat.le_refl _) _
  | false =>
    have hrr : Hid (Ending.panicked [{ v := .iface 92 (.agg #[.int .i64 70, .int .i64 0]), recovered := false }] = ArEnd (arithP 9 b a)) := hid (by rw [hres, if_neg (by rw [hi]; decide)]; rfl)
    rw [hi] at hpr
    clear hres hi
    go_enter Tryz.func146, Tryz.ntmps146
    go_upto_region 9 with fail
    generalize w.alloc (.cells #[.int .i64 0, .int .i64 0, .string ⟨#[]⟩] 55) = w1 at *
    go_wp2_with fail
    refine (hpr.out _).mono ?_
    rintro e wq ⟨⟨x, rfl, hx⟩, hwq⟩
    obtain rfl := hwq.symm
    clear hx
    go_wp2_with fail
    refine (inumber_f _ _).mono ?_
    rintro e w2 ⟨rfl, hb⟩
    have hb2 := hid (hB.out.trans (hb.mono hB.out.size))
    clear hb
    go_wp2_with fail
    exact ⟨rfl, hrr.out, hb2.out⟩
set_option maxRecDepth 100000 in
set_option maxHeartbeats 4000000 in
theorem zero10 (b a : Int) (hb : inR b = true) (ha : inR a = true) (h0 : a = 0) : Calls Tryz.prog 146 #[.int .i64 10, .int .i64 b, .int .i64 a] w fun e w' => e = ArEnd (arithP 10 b a) ∧ Below w.heap.size w w' := by
  rw [inR_iff] at hb ha
  subst h0
  have hrr : Hid (Ending.panicked [{ v := .iface 92 (.agg #[.int .i64 71, .int .i64 0]), recovered := false }] = ArEnd (arithP 10 b 0)) := hid rfl
  have hB0 : Below w.heap.size w (w.alloc (.cells #[.int .i64 0, .int .i64 0, .string ⟨#[]⟩] 55)) := (Below.refl _ _).alloc (Nat.le_refl _) _
  have hB := hid hB0
  have kb := hid (Blk.new w 55 #[.int .i64 0, .int .i64 0, .string ⟨#[]⟩])
  clear hB0
  clear hb ha
  go_enter Tryz.func146, Tryz.ntmps146
  go_upto_region 10 with fail
  generalize w.alloc (.cells #[.int .i64 0, .int .i64 0, .string ⟨#[]⟩] 55) = w1 at *
  go_wp2_with fail
  refine (needs_f _ _ (by decide)).mono ?_
  rintro e wq ⟨rfl, hwq⟩
  obtain rfl := hwq.symm
  go_wp2_with fail
  exact ⟨rfl, hrr.out, hB.out⟩
set_option maxRecDepth 100000 in
set_option maxHeartbeats 4000000 in
theorem zero11 (b a : Int) (hb : inR b = true) (ha : inR a = true) (h0 : a = 0) : Calls Tryz.prog 146 #[.int .i64 11, .int .i64 b, .int .i64 a] w fun e w' => e = ArEnd (arithP 11 b a) ∧ Below w.heap.size w w' := by
  rw [inR_iff] at hb ha
  subst h0
  have hrr : Hid (Ending.panicked [{ v := .iface 92 (.agg #[.int .i64 71, .int .i64 0]), recovered := false }] = ArEnd (arithP 11 b 0)) := hid rfl
  have hB0 : Below w.heap.size w (w.alloc (.cells #[.int .i64 0, .int .i64 0, .string ⟨#[]⟩] 55)) := (Below.refl _ _).alloc (Nat.le_refl _) _
  have hB := hid hB0
  have kb := hid (Blk.new w 55 #[.int .i64 0, .int .i64 0, .string ⟨#[]⟩])
  clear hB0
  clear hb ha
  go_enter Tryz.func146, Tryz.ntmps146
  go_upto_region 10 with fail
  generalize w.alloc (.cells #[.int .i64 0, .int .i64 0, .string ⟨#[]⟩] 55) = w1 at *
  go_wp2_with fail
  refine (needs_f _ _ (by decide)).mono ?_
  rintro e wq ⟨rfl, hwq⟩
  obtain rfl := hwq.symm
  go_wp2_with fail
  exact ⟨rfl, hrr.out, hB.out⟩
set_option maxRecDepth 100000 in
set_option maxHeartbeats 4000000 in
theorem mod_any (b a : Int) (hb : inR b = true) (ha : inR a = true) (h0 : a ≠ 0) : Calls Tryz.prog 146 #[.int .i64 11, .int .i64 b, .int .i64 a] w fun e w' => e = ArEnd (arithP 11 b a) ∧ Below w.heap.size w w' := by
  rw [inR_iff] at hb ha
  have t0 : (a != 0) = true := by simpa using h0
  have t0e : (a == 0) = false := by simpa using h0
  have hres : arithP 11 b a = .ok (b.tmod a) := by
    unfold arithP
    rw [if_neg (by decide), if_neg (by decide), if_neg (by decide), if_neg h0, if_pos rfl]
  have hrr : Hid (Ending.returned (.agg #[.int .i64 1, .int .i64 (b.tmod a), .string ⟨#[]⟩]) = ArEnd (arithP 11 b a)) := hid (by rw [hres]; rfl)
  have hB0 : Below w.heap.size w (w.alloc (.cells #[.int .i64 0, .int .i64 0, .string ⟨#[]⟩] 55)) := (Below.refl _ _).alloc (Nat.le_refl _) _
  have hB := hid hB0
  have kb := hid (Blk.new w 55 #[.int .i64 0, .int .i64 0, .string ⟨#[]⟩])
  clear hB0
  clear hb ha hres
  have h0 := h0
  go_enter Tryz.func146, Tryz.ntmps146
  go_upto_region 10 with fail
  generalize w.alloc (.cells #[.int .i64 0, .int .i64 0, .string ⟨#[]⟩] 55) = w1 at *
  go_wp2_with fail
  refine (needs_t _ _).mono ?_
  rintro e wq ⟨rfl, hwq⟩
  obtain rfl := hwq.symm
  go_wp2_with fail
  refine (of_any _ _).mono ?_
  rintro e w2 ⟨rfl, hb⟩
  have hb2 := hid (hB.out.trans (hb.mono hB.out.size))
  have k2 := hid (kb.out.below_all hb)
  have z0 := k2.out.cell 0
  have z1 := k2.out.cell 1
  have z2 := k2.out.cell 2
  simp only [List.getElem?_toArray, List.getElem?_cons_zero, List.getElem?_cons_succ] at z0 z1 z2
  have fz := fun q => k2.out.frozen q
  clear hb
  go_wp2_with fail
  refine bodyPost_ret (v := .agg #[.int .i64 1, .int .i64 (b.tmod a), .string ⟨#[]⟩]) ?_ rfl ⟨hrr.out, ?_⟩
  · exact results_cell_row (P := Tryz.prog) rfl _ _ w.heap.size 55 _ (0, 0) _ rfl (show Blk _ _ _ #[.int .i64 1, .int .i64 (b.tmod a), .string ⟨#[]⟩] from by simpa using ((k2.out.set_ 0 _).set_ 1 _).set_ 2 _) Tryz.underlying55 rfl (by kernel_rfl)
  · exact ((hb2.out.setCell (p := ⟨w.heap.size, 0, none⟩) (Nat.le_refl _) _).setCell (p := ⟨w.heap.size, 1, none⟩) (Nat.le_refl _) _).setCell (p := ⟨w.heap.size, 2, none⟩) (Nat.le_refl _) _
set_option maxRecDepth 100000 in
set_option maxHeartbeats 4000000 in
theorem div_any (b a : Int) (hb : inR b = true) (ha : inR a = true) (h0 : a ≠ 0) : Calls Tryz.prog 146 #[.int .i64 10, .int .i64 b, .int .i64 a] w fun e w' => e = ArEnd (arithP 10 b a) ∧ Below w.heap.size w w' := by
  rw [inR_iff] at hb ha
  have t0 : (a != 0) = true := by simpa using h0
  have t0e : (a == 0) = false := by simpa using h0
  have hres : arithP 10 b a = if b = minI ∧ a = -1 then .error 70 else .ok (b.tdiv a) := by
    unfold arithP
    rw [if_neg (by decide), if_neg (by decide), if_neg (by decide), if_neg h0, if_neg (by decide)]
  by_cases hm : b = minI ∧ a = -1
  · have hrr : Hid (Ending.panicked [{ v := .iface 92 (.agg #[.int .i64 70, .int .i64 0]), recovered := false }] = ArEnd (arithP 10 b a)) := hid (by rw [hres, if_pos hm]; rfl)
    obtain ⟨rfl, rfl⟩ := hm
    unfold minI at *
    clear hres hb ha
    have hB0 : Below w.heap.size w (w.alloc (.cells #[.int .i64 0, .int .i64 0, .string ⟨#[]⟩] 55)) := (Below.refl _ _).alloc (Nat.le_refl _) _
    have hB := hid hB0
    have kb := hid (Blk.new w 55 #[.int .i64 0, .int .i64 0, .string ⟨#[]⟩])
    clear hB0
    go_enter Tryz.func146, Tryz.ntmps146
    go_upto_region 10 with fail
    generalize w.alloc (.cells #[.int .i64 0, .int .i64 0, .string ⟨#[]⟩] 55) = w1 at *
    go_wp2_with fail
    refine (needs_t _ _).mono ?_
    rintro e wq ⟨rfl, hwq⟩
    obtain rfl := hwq.symm
    go_wp2_with fail
    refine (inumber_f _ _).mono ?_
    rintro e w2 ⟨rfl, hb⟩
    have hb2 := hid (hB.out.trans (hb.mono hB.out.size))
    clear hb
    go_wp2_with fail
    exact ⟨rfl, hrr.out, hb2.out⟩
  · have hin : inR (b.tdiv a) = true := arith_rng (op := 10) (inR_iff.2 hb) (inR_iff.2 ha) (by rw [hres, if_neg hm])
    have hrr : Hid (Ending.returned (.agg #[.int .i64 1, .int .i64 (b.tdiv a), .string ⟨#[]⟩]) = ArEnd (arithP 10 b a)) := hid (by rw [hres, if_neg hm]; rfl)
    rw [inR_iff] at hin
    have hw : IntKind.i64.wrap (b.tdiv a) = b.tdiv a := by rw [IntKind.wrap_i64]; omega
    have hw2 : wrap64 (b.tdiv a) = b.tdiv a := by rw [← IntWalk.i64_left]; exact hw
    unfold minI at hm
    clear hres hb ha hin
    have hB0 : Below w.heap.size w (w.alloc (.cells #[.int .i64 0, .int .i64 0, .string ⟨#[]⟩] 55)) := (Below.refl _ _).alloc (Nat.le_refl _) _
    have hB := hid hB0
    have kb := hid (Blk.new w 55 #[.int .i64 0, .int .i64 0, .string ⟨#[]⟩])
    clear hB0
    by_cases hbm : b = -9223372036854775808
    · have t1 : (b != -9223372036854775808) = false := by rw [hbm]; rfl
      have t2 : (a != -1) = true := by simpa using fun e => hm ⟨hbm, e⟩
      clear hm hbm
      go_enter Tryz.func146, Tryz.ntmps146
      go_upto_region 10 with fail
      generalize w.alloc (.cells #[.int .i64 0, .int .i64 0, .string ⟨#[]⟩] 55) = w1 at *
      go_wp2_with fail
      refine (needs_t _ _).mono ?_
      rintro e wq ⟨rfl, hwq⟩
      obtain rfl := hwq.symm
      go_wp2_with fail
      refine (inumber_l _ _).mono ?_
      rintro e w2 ⟨rfl, hb⟩
      have hb2 := hid (hB.out.trans (hb.mono hB.out.size))
      have k2 := hid (kb.out.below_all hb)
      have z0 := k2.out.cell 0
      have z1 := k2.out.cell 1
      have z2 := k2.out.cell 2
      simp only [List.getElem?_toArray, List.getElem?_cons_zero, List.getElem?_cons_succ] at z0 z1 z2
      have fz := fun q => k2.out.frozen q
      clear hb
      go_wp2_with fail
      refine bodyPost_ret (v := .agg #[.int .i64 1, .int .i64 (b.tdiv a), .string ⟨#[]⟩]) ?_ rfl ⟨hrr.out, ?_⟩
      · exact results_cell_row (P := Tryz.prog) rfl _ _ w.heap.size 55 _ (0, 0) _ rfl (show Blk _ _ _ #[.int .i64 1, .int .i64 (b.tdiv a), .string ⟨#[]⟩] from by simpa using ((k2.out.set_ 0 _).set_ 1 _).set_ 2 _) Tryz.underlying55 rfl (by kernel_rfl)
      · exact ((hb2.out.setCell (p := ⟨w.heap.size, 0, none⟩) (Nat.le_refl _) _).setCell (p := ⟨w.heap.size, 1, none⟩) (Nat.le_refl _) _).setCell (p := ⟨w.heap.size, 2, none⟩) (Nat.le_refl _) _
    · have t1 : (b != -9223372036854775808) = true := by simpa using hbm
      clear hm hbm
      go_enter Tryz.func146, Tryz.ntmps146
      go_upto_region 10 with fail
      generalize w.alloc (.cells #[.int .i64 0, .int .i64 0, .string ⟨#[]⟩] 55) = w1 at *
      go_wp2_with fail
      refine (needs_t _ _).mono ?_
      rintro e wq ⟨rfl, hwq⟩
      obtain rfl := hwq.symm
      go_wp2_with fail
      refine (inumber_l _ _).mono ?_
      rintro e w2 ⟨rfl, hb⟩
      have hb2 := hid (hB.out.trans (hb.mono hB.out.size))
      have k2 := hid (kb.out.below_all hb)
      have z0 := k2.out.cell 0
      have z1 := k2.out.cell 1
      have z2 := k2.out.cell 2
      simp only [List.getElem?_toArray, List.getElem?_cons_zero, List.getElem?_cons_succ] at z0 z1 z2
      have fz := fun q => k2.out.frozen q
      clear hb
      go_wp2_with fail
      refine bodyPost_ret (v := .agg #[.int .i64 1, .int .i64 (b.tdiv a), .string ⟨#[]⟩]) ?_ rfl ⟨hrr.out, ?_⟩
      · exact results_cell_row (P := Tryz.prog) rfl _ _ w.heap.size 55 _ (0, 0) _ rfl (show Blk _ _ _ #[.int .i64 1, .int .i64 (b.tdiv a), .string ⟨#[]⟩] from by simpa using ((k2.out.set_ 0 _).set_ 1 _).set_ 2 _) Tryz.underlying55 rfl (by kernel_rfl)
      · exact ((hb2.out.setCell (p := ⟨w.heap.size, 0, none⟩) (Nat.le_refl _) _).setCell (p := ⟨w.heap.size, 1, none⟩) (Nat.le_refl _) _).setCell (p := ⟨w.heap.size, 2, none⟩) (Nat.le_refl _) _
theorem arith_any (op b a : Int) (ho : 7 ≤ op ∧ op ≤ 11) (hb : inR b = true) (ha : inR a = true) : Calls Tryz.prog 146 #[.int .i64 op, .int .i64 b, .int .i64 a] w fun e w' => e = ArEnd (arithP op b a) ∧ Below w.heap.size w w' := by
  by_cases h7 : op = 7
  · subst h7; exact add_any b a hb ha
  by_cases h8 : op = 8
  · subst h8; exact sub_any b a hb ha
  by_cases h9 : op = 9
  · subst h9; exact mul_any b a hb ha
  by_cases h0 : a = 0
  · by_cases h10 : op = 10
    · subst h10; exact zero10 b a hb ha h0
    · obtain rfl : op = 11 := by omega
      exact zero11 b a hb ha h0
  · by_cases h10 : op = 10
    · subst h10; exact div_any b a hb ha h0
    · obtain rfl : op = 11 := by omega
      exact mod_any b a hb ha h0
end
end Go.Proofs.YtdmogoaaecdbaaaGreatDoor

