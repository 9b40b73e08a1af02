/- quorum: Chosen. -/
import Derived.Test.YtbgopicpdpkccaaGChos
import Derived.Test.YtbgopicpdpkccaaGGet
import Derived.Test.YtbgopicpdpkccaaGEntry
namespace Go.Proofs.Ytbgopicpdpkccaa
open Go.RowKit
set_option linter.unusedVariables false
set_option linter.unusedSimpArgs false

def balV (x : Bal) : Value := .agg #[.int .i64 x.rd, .int .i64 x.nd]
theorem bal_eq (a b : Bal) (w : World) : (Op.equal 35 (balV a) (balV b)).run Try.prog w = .ok (decide (a = b)) w := run_eqBal a b w
theorem bal_check (em : Bool) (a : Bal) (w : World) : (Instr.checkKey em 10000 35 (balV a)).run Try.prog w = .ok () w := by
  kernel_rfl
def balE : KeyEnc Try.prog 35 Bal where
  enc := balV
  desc := _
  under := Try.underlying35
  eq := bal_eq
  check := bal_check
  now := fun a b => .inl rfl
  bits := fun a => by
    unfold balV
    rw [show (10000 : Nat) = 9998 + 1 + 1 from rfl]
    simp [Instr.sameBits]
section
variable {S : Nat → Prop} {w : World} {g : Nat} {G : Gr}
set_option maxRecDepth 100000 in
set_option maxHeartbeats 4000000 in
theorem chosen_any (s : Int) (h : GAt S w g G) (hn : G.nds.length ≤ 9) : Calls Try.prog 23 #[.pointer (some ⟨g, 0, none⟩), .int .i64 s] w fun e w' => e = .returned (.tuple #[.string (G.chosen s).text, .bool (decide (0 < (G.chosen s).bal.rd))]) ∧ Below w.heap.size w w' := by
  have hfd : ∀ (x : Sl) (bp : Option Addr) w', (Instr.field 74 (.agg #[.int .i64 x.rd, .int .i64 x.prom.rd, .int .i64 x.prom.nd, .int .i64 x.accd.bal.rd, .int .i64 x.accd.bal.nd, .string x.accd.text, .bool x.is, .string x.text, .pointer bp]) 2).run Try.prog w' = .ok (.agg #[.int .i64 x.accd.bal.rd, .int .i64 x.accd.bal.nd, .string x.accd.text]) w' := fun _ _ _ => by kernel_rfl
  have hmm := @run_makeMap Try.prog
  have hn9 := hid hn
  have hq := hid h
  clear h hn
  go_enter Try.func23, Try.ntmps23
  go_upto_region 5 with fail
  have hb0 : Below w.heap.size w ((w.alloc (.map #[] 0)).alloc (.cells #[.int .i64 0, .int .i64 0, .string ⟨#[]⟩] 71)) := below_two _ _
  have hm0 : MapIs balE ((w.alloc (.map #[] 0)).alloc (.cells #[.int .i64 0, .int .i64 0, .string ⟨#[]⟩] 71)) w.heap.size [] := (MapIs.new w).alloc _
  have kv0 : Blk ((w.alloc (.map #[] 0)).alloc (.cells #[.int .i64 0, .int .i64 0, .string ⟨#[]⟩] 71)) (w.heap.size + 1) 71 #[.int .i64 0, .int .i64 0, .string ⟨#[]⟩] := Blk.new' _ _ _ (by simp)
  generalize (w.alloc (.map #[] 0)).alloc (.cells #[.int .i64 0, .int .i64 0, .string ⟨#[]⟩] 71) = w1 at *
  obtain ⟨An, cn, Am, cm, a, q1⟩ := hq.out.below hb0
  have d0 : w1.cell? ⟨g, 0, none⟩ = some (.slice An G.nds.length cn) := q1.cells.1
  have HB0 := hid hb0
  have HM0 := hid hm0
  have KV0 := hid kv0
  clear q1 hb0 hm0 kv0 hmm
  go_wp2_with fail
  go_loopw [19] (fun v wr => ∃ k : Nat, v = .int .i64 k ∧ k ≤ G.nds.length ∧ MapIs balE wr w.heap.size ((G.tally s k).1.map fun p => (p.1, Value.int .i64 p.2)) ∧ Blk wr (w.heap.size + 1) 71 #[.int .i64 (G.tally s k).2.bal.rd, .int .i64 (G.tally s k).2.bal.nd, .string (G.tally s k).2.text] ∧ Below w.heap.size w wr) (fun v _ => G.nds.length - (intOf v).toNat)
  case atStart => exact ⟨0, rfl, Nat.zero_le _, HM0.out, KV0.out, HB0.out⟩
  case round =>
    clear HM0 KV0 HB0 d0
    obtain ⟨k, rfl, hk, hm0, kv0, hb0⟩ := hrel
    have hm := hid hm0
    have kv := hid kv0
    have hB := hid hb0
    clear hm0 kv0 hb0
    by_cases hlt : k < G.nds.length
    · have i1 : (k : Int) < (G.nds.length : Int) := by omega
      have hst0 := state_any (k : Int) s (hq.out.below hB.out)
      have e0 : G.st k s = G.at_ k s := by unfold Gr.st; rw [if_pos (by omega), Int.toNat_natCast]
      rw [e0] at hst0
      have hst := hid hst0
      have htb := hid (tally_bound G s (G.at_ k s).accd.bal k)
      have htl : Hid (G.tally s (k + 1) = (setA (G.at_ k s).accd.bal ((getA (G.at_ k s).accd.bal (G.tally s k).1).getD 0 + 1) (G.tally s k).1, if 0 < (G.at_ k s).accd.bal.rd ∧ (getA (G.at_ k s).accd.bal (G.tally s k).1).getD 0 + 1 = ((G.nds.length / 2 + 1 : Nat) : Int) ∧ 0 < cmpB (G.at_ k s).accd.bal (G.tally s k).2.bal then (G.at_ k s).accd else (G.tally s k).2)) := hid rfl
      generalize G.at_ k s = x at *
      generalize hT : G.tally s k = T at *
      clear e0 hst0
      go_wp2_with fail
      refine hst.out.mono ?_
      rintro e w2 ⟨bp, rfl, hb2⟩
      go_upto_region 9 with fail
      have kx := Blk.new w2 71 #[.int .i64 x.accd.bal.rd, .int .i64 x.accd.bal.nd, .string x.accd.text]
      have hb3 : Below wr.heap.size wr (w2.alloc (.cells #[.int .i64 x.accd.bal.rd, .int .i64 x.accd.bal.nd, .string x.accd.text] 71)) := hb2.alloc hb2.size _
      have hz2 := hb2.size
      generalize w2.alloc (.cells #[.int .i64 x.accd.bal.rd, .int .i64 x.accd.bal.nd, .string x.accd.text] 71) = w3 at *
      have hm3 := hm.out.below hb3
      have kv3 := kv.out.below_all hb3
      have hB3 := hB.out.trans (hb3.mono hB.out.size)
      have y0 : w3.cell? ⟨w2.heap.size, 0, none⟩ = some (.int .i64 x.accd.bal.rd) := kx.cell 0
      have y1 : w3.cell? ⟨w2.heap.size, 1, none⟩ = some (.int .i64 x.accd.bal.nd) := kx.cell 1
      obtain ⟨cc, hcc⟩ : ∃ cc, (getA x.accd.bal T.1).getD 0 = cc := ⟨_, rfl⟩
      rw [hcc] at htb htl
      have look : ∀ (W' : World) (l : List (Bal × Int)), MapIs balE W' w.heap.size (l.map fun p => (p.1, Value.int .i64 p.2)) → (Instr.lookup 88 (.map (some w.heap.size)) (.agg #[.int .i64 x.accd.bal.rd, .int .i64 x.accd.bal.nd]) false).run Try.prog W' = .ok (.int .i64 ((getA x.accd.bal l).getD 0)) W' := fun W' l h => by
        have := h.lookup Try.underlying88 zero_int x.accd.bal
        rw [getK_map] at this
        rw [show ((getA x.accd.bal l).map (Value.int .i64)).getD (.int .i64 0) = .int .i64 ((getA x.accd.bal l).getD 0) from by cases getA x.accd.bal l <;> rfl] at this
        exact this
      have Look := hid look
      have hlk := look w3.drew T.1 (hm3.keep rfl)
      rw [hcc] at hlk
      have hzero : ∀ w, (zeroValue 3).run Try.prog w = .ok (.int .i64 0) w := zero_int
      obtain ⟨v0, st, W4, hent0, hea, hm4, hv00, hg4, hz4⟩ := (hm3.keep (w' := w3.drew) rfl).entry Try.underlying88 hzero x.accd.bal
      have hent : (Instr.mapEntry 88 (.map (some w.heap.size)) (.agg #[.int .i64 x.accd.bal.rd, .int .i64 x.accd.bal.nd])).run Try.prog w3.drew = .ok (.tuple #[v0, .int .i64 st]) W4 := hent0
      obtain ⟨W5, hsto, hm5, hg5, hz5⟩ := hea.store 88 (.int .i64 (cc + 1))
      have hc1 : 0 ≤ cc := htb.out.1
      have hc2 : cc ≤ 9 := by have := htb.out.2; have := hn9.out; omega
      have y0d : w3.drew.cell? ⟨w2.heap.size, 0, none⟩ = some (.int .i64 x.accd.bal.rd) := y0
      have y1d : w3.drew.cell? ⟨w2.heap.size, 1, none⟩ = some (.int .i64 x.accd.bal.nd) := y1
      have hv0 : v0 = .int .i64 cc := by
        rw [hv00, getK_map, ← hcc]
        cases getA x.accd.bal T.1 <;> rfl
      clear hv00
      subst hv0
      rw [setK_map] at hm4
      have hlk4 := look W4 _ hm4
      rw [getA_set, if_pos rfl] at hlk4
      have hlk4 : (Instr.lookup 88 (.map (some w.heap.size)) (.agg #[.int .i64 x.accd.bal.rd, .int .i64 x.accd.bal.nd]) false).run Try.prog W4 = .ok (.int .i64 cc) W4 := hlk4
      have hwr : IntKind.i64.wrap (cc + 1) = cc + 1 := by rw [IntKind.wrap_i64]; omega
      clear look
      go_region
      have hu5 : Upd (fun k => k = w.heap.size) w3 W5 := (((Upd.of_below' (Below.refl _ w3).drew (fun k => k = w.heap.size))).grown hg4 fun k hk _ => by injection hk with hk; exact hk.symm).grown hg5 fun k hk _ => by injection hk with hk; exact hk.symm
      have hmlt := hm3.lt
      have kx5 := kx.upd hu5 (by have := hB.out.size; have := kv.out.lt; omega)
      have kv5 := kv3.upd hu5 (by omega)
      have hB5 := hB3.trans (hu5.below hB3.size fun k hk e => by omega)
      rw [setK_map] at hm5
      have hq5 := hq.out.below hB5
      obtain ⟨An5, cn5, Am5, cm5, a5, q5⟩ := hq5
      have d5 : W5.cell? ⟨g, 0, none⟩ = some (.slice An5 G.nds.length cn5) := q5.cells.1
      have z0 : W5.cell? ⟨w2.heap.size, 0, none⟩ = some (.int .i64 x.accd.bal.rd) := kx5.cell 0
      have z1 : W5.cell? ⟨w2.heap.size, 1, none⟩ = some (.int .i64 x.accd.bal.nd) := kx5.cell 1
      have b0 : W5.cell? ⟨w.heap.size + 1, 0, none⟩ = some (.int .i64 T.2.bal.rd) := kv5.cell 0
      have b1 : W5.cell? ⟨w.heap.size + 1, 1, none⟩ = some (.int .i64 T.2.bal.nd) := kv5.cell 1
      have look5 : ∀ W', W'.heap[w.heap.size]? = W5.heap[w.heap.size]? → (Instr.lookup 88 (.map (some w.heap.size)) (.agg #[.int .i64 x.accd.bal.rd, .int .i64 x.accd.bal.nd]) false).run Try.prog W' = .ok (.int .i64 (cc + 1)) W' := fun W' h => by
        have := Look.out W' _ (hm5.keep h)
        rw [getA_set, if_pos rfl] at this
        exact this
      have stay : Hid (∀ W', Below W5.heap.size W5 W' → ¬ (0 < x.accd.bal.rd ∧ cc + 1 = ((G.nds.length / 2 + 1 : Nat) : Int) ∧ 0 < cmpB x.accd.bal T.2.bal) → MapIs balE W' w.heap.size ((G.tally s (k + 1)).1.map fun p => (p.1, Value.int .i64 p.2)) ∧ Blk W' (w.heap.size + 1) 71 #[.int .i64 (G.tally s (k + 1)).2.bal.rd, .int .i64 (G.tally s (k + 1)).2.bal.nd, .string (G.tally s (k + 1)).2.text] ∧ Below w.heap.size w W') := hid fun W' hb hno => by
        rw [htl.out]
        simp only
        rw [if_neg hno]
        exact ⟨hm5.below hb, kv5.below_all hb, hB5.trans (hb.mono hB5.size)⟩
      have KX := hid kx5
      have KV := hid kv5
      have HM := hid hm5
      have HB5 := hid hB5
      have Look5 := hid look5
      have hne1 : w2.heap.size ≠ w.heap.size + 1 := by have := kv.out.lt; omega
      have hne2 : w.heap.size + 1 < W5.heap.size := kv5.lt
      clear hu5 kx5 kv5 kx kv3 hm5 hB5 q5 hm3 hm4 hlk hlk4 hent0 hent hea hsto hg4 hg5 hz4 hz5 y0 y1 y0d y1d look5 hB3 hb2 hb3 hzero
      have hk9 : (k : Int) < 9 := by have := hn9.out; omega
      have hnn : (G.nds.length : Int) ≤ 9 := by have := hn9.out; omega
      have hw1 : IntKind.i64.wrap ((G.nds.length : Int) / 2) = (G.nds.length : Int) / 2 := by rw [IntKind.wrap_i64]; omega
      have hw2 : IntKind.i64.wrap ((G.nds.length : Int) / 2 + 1) = (G.nds.length : Int) / 2 + 1 := by rw [IntKind.wrap_i64]; omega
      by_cases hp : 0 < x.accd.bal.rd
      · have t1 : decide (0 < x.accd.bal.rd) = true := decide_eq_true hp
        by_cases hmaj : cc + 1 = (G.nds.length : Int) / 2 + 1
        · have t2 : (cc + 1 == (G.nds.length : Int) / 2 + 1) = true := by simp [hmaj]
          have t2a : (cc == (G.nds.length : Int) / 2) = true := by
            have : cc = (G.nds.length : Int) / 2 := by omega
            simpa using this
          have t2b : decide (cc = (G.nds.length : Int) / 2) = true := decide_eq_true (by omega)
          have t2c : decide (cc + 1 = (G.nds.length : Int) / 2 + 1) = true := decide_eq_true hmaj
          have hmaj2 : Hid (cc + 1 = ((G.nds.length / 2 + 1 : Nat) : Int)) := hid (by omega)
          have keepS : Hid (∀ w' : World, Below W5.heap.size W5 w' → w'.cell? ⟨w2.heap.size, 0, none⟩ = some (.int .i64 x.accd.bal.rd) ∧ w'.cell? ⟨w2.heap.size, 1, none⟩ = some (.int .i64 x.accd.bal.nd) ∧ w'.cell? ⟨w.heap.size + 1, 0, none⟩ = some (.int .i64 T.2.bal.rd) ∧ w'.cell? ⟨w.heap.size + 1, 1, none⟩ = some (.int .i64 T.2.bal.nd) ∧ w'.cell? ⟨g, 0, none⟩ = some (.slice An5 G.nds.length cn5) ∧ (Instr.lookup 88 (.map (some w.heap.size)) (.agg #[.int .i64 x.accd.bal.rd, .int .i64 x.accd.bal.nd]) false).run Try.prog w' = .ok (.int .i64 (cc + 1)) w') := hid fun w' h => by
            have hk := KX.out.below_all h
            have hv := KV.out.below_all h
            have hgl : g < W5.heap.size := by
              have := (hq.out.below HB5.out).lt
              exact this.1 _ this.2
            exact ⟨hk.cell 0, hk.cell 1, hv.cell 0, hv.cell 1, (World.cell?_of_block (w := W5) (a := ⟨g, 0, none⟩) (h.block g hgl)).trans d5, Look5.out w' (h.block _ HM.out.lt)⟩
          have hbX : Hid (Below W5.heap.size W5 W5.drew) := hid (Below.refl _ _).drew
          clear hmaj
          by_cases hgt : 0 < cmpB x.accd.bal T.2.bal
          · have t3 : decide (0 < cmpB x.accd.bal T.2.bal) = true := decide_eq_true hgt
            have htk : Hid ((G.tally s (k + 1)).1 = setA x.accd.bal (cc + 1) T.1 ∧ (G.tally s (k + 1)).2 = x.accd) := hid ⟨by rw [htl.out], by rw [htl.out]; exact if_pos ⟨hp, hmaj2.out, hgt⟩⟩
            clear hgt
            go_upto_region 10 with fail
            go_region_held3 (fun w' => w'.cell? ⟨w2.heap.size, 0, none⟩ = some (.int .i64 x.accd.bal.rd) ∧ w'.cell? ⟨w2.heap.size, 1, none⟩ = some (.int .i64 x.accd.bal.nd) ∧ w'.cell? ⟨w.heap.size + 1, 0, none⟩ = some (.int .i64 T.2.bal.rd) ∧ w'.cell? ⟨w.heap.size + 1, 1, none⟩ = some (.int .i64 T.2.bal.nd) ∧ w'.cell? ⟨g, 0, none⟩ = some (.slice An5 G.nds.length cn5) ∧ (Instr.lookup 88 (.map (some w.heap.size)) (.agg #[.int .i64 x.accd.bal.rd, .int .i64 x.accd.bal.nd]) false).run Try.prog w' = .ok (.int .i64 (cc + 1)) w')
              (first | exact keepS.out _ hbX.out | exact keepS.out _ (Below.refl _ _) | exact keepS.out _ (Below.refl _ _).drew)
              ((go_at_call 41; refine (compare_any x.accd.bal T.2.bal _).mono ?_; rintro e wb ⟨rfl, hbb⟩
                have hbX := hid (hbX.out.trans (hbb.mono hbX.out.size))
                clear hbb))
            have kxb := KX.out.below_all hbX.out
            have kvb := KV.out.below_all hbX.out
            have hmb := HM.out.below hbX.out
            have hBb := HB5.out.trans (hbX.out.mono HB5.out.size)
            have x0 : wb.cell? ⟨w2.heap.size, 0, none⟩ = some (.int .i64 x.accd.bal.rd) := kxb.cell 0
            have x1 : wb.cell? ⟨w2.heap.size, 1, none⟩ = some (.int .i64 x.accd.bal.nd) := kxb.cell 1
            have x2 : wb.cell? ⟨w2.heap.size, 2, none⟩ = some (.string x.accd.text) := kxb.cell 2
            have qz := fun j => kvb.frozen j
            have y0 : wb.cell? ⟨w.heap.size + 1, 0, none⟩ = some (.int .i64 T.2.bal.rd) := kvb.cell 0
            have y1 : wb.cell? ⟨w.heap.size + 1, 1, none⟩ = some (.int .i64 T.2.bal.nd) := kvb.cell 1
            have y2 : wb.cell? ⟨w.heap.size + 1, 2, none⟩ = some (.string T.2.text) := kvb.cell 2
            have hfin : Hid (MapIs balE (((wb.setCell ⟨w.heap.size + 1, 0, none⟩ (.int .i64 x.accd.bal.rd)).setCell ⟨w.heap.size + 1, 1, none⟩ (.int .i64 x.accd.bal.nd)).setCell ⟨w.heap.size + 1, 2, none⟩ (.string x.accd.text)) w.heap.size ((G.tally s (k + 1)).1.map fun p => (p.1, Value.int .i64 p.2)) ∧ Blk (((wb.setCell ⟨w.heap.size + 1, 0, none⟩ (.int .i64 x.accd.bal.rd)).setCell ⟨w.heap.size + 1, 1, none⟩ (.int .i64 x.accd.bal.nd)).setCell ⟨w.heap.size + 1, 2, none⟩ (.string x.accd.text)) (w.heap.size + 1) 71 #[.int .i64 (G.tally s (k + 1)).2.bal.rd, .int .i64 (G.tally s (k + 1)).2.bal.nd, .string (G.tally s (k + 1)).2.text] ∧ Below w.heap.size w (((wb.setCell ⟨w.heap.size + 1, 0, none⟩ (.int .i64 x.accd.bal.rd)).setCell ⟨w.heap.size + 1, 1, none⟩ (.int .i64 x.accd.bal.nd)).setCell ⟨w.heap.size + 1, 2, none⟩ (.string x.accd.text))) := hid (by
              rw [htk.out.1, htk.out.2]
              have hmn : w.heap.size ≠ w.heap.size + 1 := by omega
              refine ⟨((hmb.setCell ⟨w.heap.size + 1, 0, none⟩ _ hmn).setCell ⟨w.heap.size + 1, 1, none⟩ _ hmn).setCell ⟨w.heap.size + 1, 2, none⟩ _ hmn, ((kvb.set_ 0 _).set_ 1 _).set_ 2 _, ?_⟩
              exact ((hBb.setCell (p := ⟨w.heap.size + 1, 0, none⟩) (Nat.le_succ _) _).setCell (p := ⟨w.heap.size + 1, 1, none⟩) (Nat.le_succ _) _).setCell (p := ⟨w.heap.size + 1, 2, none⟩) (Nat.le_succ _) _)
            clear kxb kvb hmb hBb
            go_wp2_with fail
            go_roundw
            case rel => exact ⟨k + 1, by go_num, by omega, hfin.out⟩
            case measure => simp [intOf]; omega
          · have t3 : decide (0 < cmpB x.accd.bal T.2.bal) = false := decide_eq_false hgt
            have hno : Hid (∀ W', Below W5.heap.size W5 W' → MapIs balE W' w.heap.size ((G.tally s (k + 1)).1.map fun p => (p.1, Value.int .i64 p.2)) ∧ Blk W' (w.heap.size + 1) 71 #[.int .i64 (G.tally s (k + 1)).2.bal.rd, .int .i64 (G.tally s (k + 1)).2.bal.nd, .string (G.tally s (k + 1)).2.text] ∧ Below w.heap.size w W') := hid fun W' hb => stay.out W' hb fun h => hgt h.2.2
            clear hgt
            go_upto_region 10 with fail
            go_region_held3 (fun w' => w'.cell? ⟨w2.heap.size, 0, none⟩ = some (.int .i64 x.accd.bal.rd) ∧ w'.cell? ⟨w2.heap.size, 1, none⟩ = some (.int .i64 x.accd.bal.nd) ∧ w'.cell? ⟨w.heap.size + 1, 0, none⟩ = some (.int .i64 T.2.bal.rd) ∧ w'.cell? ⟨w.heap.size + 1, 1, none⟩ = some (.int .i64 T.2.bal.nd) ∧ w'.cell? ⟨g, 0, none⟩ = some (.slice An5 G.nds.length cn5) ∧ (Instr.lookup 88 (.map (some w.heap.size)) (.agg #[.int .i64 x.accd.bal.rd, .int .i64 x.accd.bal.nd]) false).run Try.prog w' = .ok (.int .i64 (cc + 1)) w')
              (first | exact keepS.out _ hbX.out | exact keepS.out _ (Below.refl _ _) | exact keepS.out _ (Below.refl _ _).drew)
              ((go_at_call 41; refine (compare_any x.accd.bal T.2.bal _).mono ?_; rintro e wb ⟨rfl, hbb⟩
                have hbX := hid (hbX.out.trans (hbb.mono hbX.out.size))
                clear hbb))
            go_wp2_with fail
            go_roundw
            case rel => exact ⟨k + 1, by go_num, by omega, hno.out _ hbX.out⟩
            case measure => simp [intOf]; omega
        · have t2 : (cc + 1 == (G.nds.length : Int) / 2 + 1) = false := by simpa using hmaj
          have t2a : (cc == (G.nds.length : Int) / 2) = false := by
            have : ¬ cc = (G.nds.length : Int) / 2 := by omega
            simpa using this
          have t2b : decide (cc = (G.nds.length : Int) / 2) = false := decide_eq_false (by omega)
          have t2c : decide (cc + 1 = (G.nds.length : Int) / 2 + 1) = false := decide_eq_false hmaj
          have hno : Hid (∀ W', Below W5.heap.size W5 W' → MapIs balE W' w.heap.size ((G.tally s (k + 1)).1.map fun p => (p.1, Value.int .i64 p.2)) ∧ Blk W' (w.heap.size + 1) 71 #[.int .i64 (G.tally s (k + 1)).2.bal.rd, .int .i64 (G.tally s (k + 1)).2.bal.nd, .string (G.tally s (k + 1)).2.text] ∧ Below w.heap.size w W') := hid fun W' hb => stay.out W' hb fun h => hmaj (by have := h.2.1; omega)
          have hl0 := fun n => Look5.out (W5.drewN n) rfl
          clear hmaj
          go_upto_region 10 with fail
          go_quiet (fail)
          go_wp2_with fail
          go_roundw
          case rel => exact ⟨k + 1, by go_num, by omega, hno.out _ (below_drewN (Below.refl _ _) _)⟩
          case measure => simp [intOf]; omega
      · have t1 : decide (0 < x.accd.bal.rd) = false := decide_eq_false hp
        have hno : Hid (∀ W', Below W5.heap.size W5 W' → MapIs balE W' w.heap.size ((G.tally s (k + 1)).1.map fun p => (p.1, Value.int .i64 p.2)) ∧ Blk W' (w.heap.size + 1) 71 #[.int .i64 (G.tally s (k + 1)).2.bal.rd, .int .i64 (G.tally s (k + 1)).2.bal.nd, .string (G.tally s (k + 1)).2.text] ∧ Below w.heap.size w W') := hid fun W' hb => stay.out W' hb fun h => hp h.1
        clear hp
        go_upto_region 10 with fail
        go_quiet (fail)
        go_wp2_with fail
        go_roundw
        case rel => exact ⟨k + 1, by go_num, by omega, hno.out _ (below_drewN (Below.refl _ _) _)⟩
        case measure => simp [intOf]; omega
    · obtain rfl : k = G.nds.length := by omega
      have kf := kv.out
      have b0 : wr.cell? ⟨w.heap.size + 1, 0, none⟩ = some (.int .i64 (G.tally s G.nds.length).2.bal.rd) := kf.cell 0
      have b2 : wr.cell? ⟨w.heap.size + 1, 2, none⟩ = some (.string (G.tally s G.nds.length).2.text) := kf.cell 2
      have hch : Hid ((G.tally s G.nds.length).2 = G.chosen s) := hid rfl
      clear kf
      generalize (G.tally s G.nds.length).2 = V at *
      go_upto_region 13 with fail
      go_quiet (fail)
      go_wp2_with fail
      go_ret2
      exact ⟨by rw [hch.out]; rfl, below_drewN hB.out _⟩
end

end Go.Proofs.Ytbgopicpdpkccaa
