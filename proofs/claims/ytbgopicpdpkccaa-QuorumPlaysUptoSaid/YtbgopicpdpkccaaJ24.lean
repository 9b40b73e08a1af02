/- Texts of the proof, joined: GRDel. -/
import Derived.Test.YtbgopicpdpkccaaJ23
import Derived.Test.YtbgopicpdpkccaaJ18
namespace Go.Proofs.Ytbgopicpdpkccaa
open Go.RowKit
set_option linter.unusedVariables false
set_option linter.unusedSimpArgs false

theorem touch_few (G : Gr) (i j : Nat) (s : Int) (hi : i < G.nds.length) : ((G.touch i s).nd j).sl.length ≤ (G.nd j).sl.length + 1 := by
  unfold Gr.touch
  cases hg : getA s (G.nd i).sl with
  | some y => exact Nat.le_succ _
  | none =>
    show ((G.setSl i s sl0).nd j).sl.length ≤ _
    unfold Gr.setSl
    rw [Gr.nd_set _ _ _ _ hi]
    by_cases e : j = i
    · subst e
      rw [if_pos rfl]
      show (setA s sl0 (G.nd j).sl).length ≤ _
      rw [setA_none hg]
      simp
    · rw [if_neg e]; exact Nat.le_succ _
theorem RSl.at_ {S : Nat → Prop} {w : World} {r : Nat} {An : Option Addr} {cn : Nat} {Am : Option Addr} {cm : Nat} {G : Gr} {i : Nat} {s : Int} {b : Nat} {x : Sl} (h : RSl S w r An cn Am cm G i s b x) : RAt S w r (G.setSl i s x) := by
  obtain ⟨a, h, _⟩ := h
  exact ⟨_, _, _, _, _, h⟩
section
variable {S : Nat → Prop} {w w' : World} {r : Nat} {G : Gr}
set_option maxRecDepth 100000 in
set_option maxHeartbeats 4000000 in
theorem rdeliver_1 (k : Nat) (m : Ml) (i : Nat) (h : RAt S w r G) (hk : k < G.mail.length) (hm : G.mail[k] = m) (hi00 : m.dst = (i : Int)) (hi : i < G.nds.length) (hs : 0 ≤ m.slot ∧ m.slot ≤ 1000) (hN : G.nds.length ≤ 9) (hl : G.mail.length ≤ 100000) (hf : ∀ j, (G.nd j).sl.length ≤ 900) (hK : m.kind = 1) (hup : (G.nd i).up = true) : Calls Try.prog 45 #[.pointer (some ⟨r, 0, none⟩), .int .i64 k] w fun e w' => e = .returned (.bool true) ∧ ∃ G', G.Deliver k m G' ∧ RGo S w r G' w' := by
  have hB1 : Below w.heap.size w (w.alloc (.cells #[.int .i64 1, .int .i64 m.fr, .int .i64 m.dst, .int .i64 m.slot, .int .i64 m.bal.rd, .int .i64 m.bal.nd, .int .i64 m.had.rd, .int .i64 m.had.nd, .string m.text] 78)) := (Below.refl _ _).alloc (Nat.le_refl _) _
  have kb1 := Blk.new w 78 #[.int .i64 1, .int .i64 m.fr, .int .i64 m.dst, .int .i64 m.slot, .int .i64 m.bal.rd, .int .i64 m.bal.nd, .int .i64 m.had.rd, .int .i64 m.had.nd, .string m.text]
  have hRA := h.below hB1
  obtain ⟨An, cn, Am, cm, a, q⟩ := h
  have hSlt := q.lt
  obtain ⟨c0, c1⟩ := q.cells
  obtain ⟨gr, cur, rfl, hgr⟩ := own_formS q.mrow.1 (by omega)
  have m0 : w.cell? ⟨gr, k * 9, none⟩ = some (.int .i64 1) := by
    rw [q.mrow.1.cellAt _ (by omega)]
    exact (mcells_at _ k 0 hk (by omega)).trans (by rw [hm, Ml.cells, hK]; rfl)
  have m1 : w.cell? ⟨gr, k * 9 + 1, none⟩ = some (.int .i64 m.fr) := by
    rw [q.mrow.1.cellAt _ (by omega)]
    exact (mcells_at _ k 1 hk (by omega)).trans (by rw [hm]; rfl)
  have m2 : w.cell? ⟨gr, k * 9 + 2, none⟩ = some (.int .i64 m.dst) := by
    rw [q.mrow.1.cellAt _ (by omega)]
    exact (mcells_at _ k 2 hk (by omega)).trans (by rw [hm]; rfl)
  have m3 : w.cell? ⟨gr, k * 9 + 3, none⟩ = some (.int .i64 m.slot) := by
    rw [q.mrow.1.cellAt _ (by omega)]
    exact (mcells_at _ k 3 hk (by omega)).trans (by rw [hm]; rfl)
  have m4 : w.cell? ⟨gr, k * 9 + 4, none⟩ = some (.int .i64 m.bal.rd) := by
    rw [q.mrow.1.cellAt _ (by omega)]
    exact (mcells_at _ k 4 hk (by omega)).trans (by rw [hm]; rfl)
  have m5 : w.cell? ⟨gr, k * 9 + 5, none⟩ = some (.int .i64 m.bal.nd) := by
    rw [q.mrow.1.cellAt _ (by omega)]
    exact (mcells_at _ k 5 hk (by omega)).trans (by rw [hm]; rfl)
  have m6 : w.cell? ⟨gr, k * 9 + 6, none⟩ = some (.int .i64 m.had.rd) := by
    rw [q.mrow.1.cellAt _ (by omega)]
    exact (mcells_at _ k 6 hk (by omega)).trans (by rw [hm]; rfl)
  have m7 : w.cell? ⟨gr, k * 9 + 7, none⟩ = some (.int .i64 m.had.nd) := by
    rw [q.mrow.1.cellAt _ (by omega)]
    exact (mcells_at _ k 7 hk (by omega)).trans (by rw [hm]; rfl)
  have m8 : w.cell? ⟨gr, k * 9 + 8, none⟩ = some (.string m.text) := by
    rw [q.mrow.1.cellAt _ (by omega)]
    exact (mcells_at _ k 8 hk (by omega)).trans (by rw [hm]; rfl)
  have t1 : decide ((k : Int) < 0) = false := by simp
  have t2 : decide ((G.mail.length : Int) ≤ (k : Int)) = false := decide_eq_false (by omega)
  have t3 : decide (G.mail.length ≤ k) = false := decide_eq_false (by omega)
  have i1 : (k : Int) < (G.mail.length : Int) := by omega
  have hgn : G.drop (k : Int) = G.gone k := by unfold Gr.drop; rw [if_pos ⟨by omega, by omega⟩, Int.toNat_natCast]
  have hdr0 := rdrop_ex (k : Int) hRA hl
  rw [hgn] at hdr0
  have hdr := hid hdr0
  have HM := hid hm; have HI := hid hi00; have HF := hid hf; have HK := hid hK; have HHi := hid hi; have HUP := hid hup
  clear q hdr0 hgn hRA hm hgr hi00 hf hK hup
  go_enter Try.func45, Try.ntmps45
  go_upto_region 4 with fail
  clear m0 m1 m2 m3 m4 m5 m6 m7 m8 c0 c1
  generalize (w.alloc (.cells #[.int .i64 1, .int .i64 m.fr, .int .i64 m.dst, .int .i64 m.slot, .int .i64 m.bal.rd, .int .i64 m.bal.nd, .int .i64 m.had.rd, .int .i64 m.had.nd, .string m.text] 78)) = w1 at *
  have hz1 := kb1.lt
  go_wp2_with fail
  refine hdr.out.mono ?_
  rintro e w2 ⟨rfl, S2, h2, hS2, hu2⟩
  have hS2w : ¬ S2 w.heap.size := fun h => by
    rcases hS2 _ h with h | h
    · exact absurd (hSlt _ h) (Nat.lt_irrefl _)
    · omega
  have kb2 := kb1.upd hu2 fun h => absurd (hSlt _ h) (Nat.lt_irrefl _)
  obtain ⟨An2, cn2, Am2, cm2, a2, q2⟩ := h2
  obtain ⟨G1, hG1⟩ : ∃ G1, G1 = G.gone k := ⟨_, rfl⟩
  rw [← hG1] at q2
  have hlen0 : G1.nds.length = G.nds.length := by rw [hG1]; rfl
  have hnd0 : ∀ j, G1.nd j = G.nd j := fun j => by rw [hG1]; rfl
  have hGG := hid hG1
  have hi1 : i < G1.nds.length := by omega
  have i3 : (i : Int) < (G1.nds.length : Int) := by omega
  have i0 : (0 : Int) ≤ (i : Int) := by omega
  obtain ⟨b0, o0, rfl, hbl, xp⟩ := q2.ptr hi1
  obtain ⟨c0, c1⟩ := q2.cells
  obtain ⟨n1, n2, n3, n4⟩ := q2.nd i hi1
  have xu : w2.cell? ⟨a2.nb i, 0, none⟩ = some (.bool true) := by have := n1.cell 0; rwa [hnd0, HUP.out] at this
  have x2 : w2.cell? ⟨w.heap.size, 2, none⟩ = some (.int .i64 (i : Int)) := by rw [← HI.out]; exact kb2.cell 2
  have hsl := hid (fun (n : Nat) => rslot_any i m.slot (q2.below (below_drewN (Below.refl _ w2) n)) hi1 (by rw [hnd0]; have := HF.out i; omega))
  have hkb := hid (fun (n : Nat) => kb2.below_all (below_drewN (Below.refl _ w2) n))
  have hU2 : Hid (Upd S w w2) := hid ((Upd.of_below' hB1 S).trans hu2 fun _ _ h => h)
  have hz24 := hid hu2.size
  have hz1' := hid hz1
  have hLN := hid (show (∀ j, G1.nd j = G.nd j) ∧ G1.nds.length = G.nds.length from ⟨hnd0, hlen0⟩)
  have xu' : ∀ n, (w2.drewN n).cell? ⟨a2.nb i, 0, none⟩ = some (.bool true) := fun _ => xu
  have x3' : ∀ n, (w2.drewN n).cell? ⟨w.heap.size, 3, none⟩ = some (.int .i64 m.slot) := fun _ => kb2.cell 3
  have HS2 := hid hS2; have hS2w' := hid hS2w
  clear q2 n1 n2 n3 n4 hlen0 hnd0 hG1 kb1 kb2 hu2 hB1 hdr hS2 hS2w t1 t2 t3 i1
  go_wp2_with fail
  go_quiet (fail)
  have xu4 := xu' nq
  have x34 := x3' nq
  have hU3 := hid (hU2.out.drewN nq)
  have hsl3 := hid (hsl.out nq)
  have hkb3 := hid (hkb.out nq)
  have hz23 : (w2.drewN nq).heap.size = w2.heap.size := rfl
  clear xu xu' x3' x2 xp c0 c1 hU2 hsl hkb
  generalize w2.drewN nq = w3 at *
  go_wp2_with fail
  refine hsl3.out.mono ?_
  rintro e w5 ⟨b, q, rfl, S5, a5, q5, hS5, hu5, hA5, hnb5, hsq⟩
  have hat : (G1.touch i m.slot).at_ i m.slot = G1.at_ i m.slot := Gr.at_touch _ _ _ _ _ (by rw [hLN.out.2]; exact HHi.out)
  rw [hat] at hsq
  have hfinal : Hid (∀ G', (G1.touch i m.slot).Handle i m.slot (G1.at_ i m.slot) m G' → G.Deliver k m G') := hid (fun G' hP => by
    unfold Gr.Deliver
    rw [if_pos (by rw [HI.out, Int.toNat_natCast]; exact HUP.out), HI.out, Int.toNat_natCast, ← hGG.out]
    exact hP)
  have hL2 : Hid ((G1.touch i m.slot).nds.length = G.nds.length) := hid (by rw [Gr.touch_len, hLN.out.2])
  have hst : Hid (G1.at_ i m.slot = G.at_ i m.slot) := hid (by rw [hGG.out]; rfl)
  have hTL : Hid (∀ j, ((G1.touch i m.slot).nd j).sl.length ≤ 1000) := hid (fun j => by
    have h1 := touch_few G1 i j m.slot (by rw [hLN.out.2]; exact HHi.out)
    rw [hLN.out.1] at h1
    have := HF.out j
    omega)
  have hTS : Hid (∀ n t, (G1.touch i m.slot).st n t = G.st n t) := hid (fun n t => by
    unfold Gr.st
    rw [Gr.touch_len, hLN.out.2]
    rw [Gr.at_touch _ _ _ _ _ (by rw [hLN.out.2]; exact HHi.out), hGG.out]
    rfl)
  generalize G1.touch i m.slot = G2 at *
  generalize G1.at_ i m.slot = x at *
  have HI2 : Hid (i < G2.nds.length) := hid (by rw [hL2.out]; exact HHi.out)
  have HO : Hid (Once (G2.nd i).sl) := hid (q5.nd i HI2.out).2.2.2
  have HQ := hid hsq
  have KB : Hid (Blk w5 w.heap.size 78 #[.int .i64 1, .int .i64 m.fr, .int .i64 m.dst, .int .i64 m.slot, .int .i64 m.bal.rd, .int .i64 m.bal.nd, .int .i64 m.had.rd, .int .i64 m.had.nd, .string m.text]) := hid (hkb3.out.upd hu5 hS2w'.out)
  have hS5 : Hid (∀ k, S5 k → S k ∨ w.heap.size + 1 ≤ k) := hid (fun k hk => by
    have h1 := hz1'.out
    have h2 := hz24.out
    rcases hS5 k hk with h | h
    · exact (HS2.out k h).imp id (by omega)
    · exact .inr (by omega))
  have HU : Hid (Upd S w w5) := hid (hU3.out.trans hu5 fun k hk h => by
    rcases HS2.out k h with h | h
    · exact h
    · have := hz1'.out; omega)
  have hSw : ¬ S5 w.heap.size := fun h => by
    rcases hS5.out _ h with h | h
    · exact absurd (hSlt _ h) (Nat.lt_irrefl _)
    · omega
  have hend : Hid (∀ (w6 : World) G' w', Blk w6 w.heap.size 78 #[.int .i64 1, .int .i64 m.fr, .int .i64 m.dst, .int .i64 m.slot, .int .i64 m.bal.rd, .int .i64 m.bal.nd, .int .i64 m.had.rd, .int .i64 m.had.nd, .string m.text] → Upd S w w6 → RGo S5 w6 r G' w' → G2.Handle i m.slot x m G' → ∃ G', G.Deliver k m G' ∧ RGo S w r G' w') := hid (fun w6 G' w' hkb hu6 hgo hH => ⟨G', hfinal.out _ hH, RGo.then ⟨S5, fun k hk => (hS5.out k hk).imp id (by omega), hu6, hgo⟩⟩)
  have L0 : Hid (RSl S5 w5 r (some ⟨b0, o0, none⟩) cn2 Am2 cm2 G2 i m.slot b x) := hid ⟨a5, by rw [Gr.set_same HI2.out (HO.out.get (List.mem_of_getElem? hsq))]; exact q5, hA5⟩
  have hq5 := hid q5; have hA5' := hid hA5
  have hSb : S5 b := by
    obtain ⟨_, _, _, _, h, _⟩ := L0.out.cells HI2.out HO.out HQ.out
    exact h
  clear xu4 x34 hsl3 hkb3 hU3 hu5 hsq hat hnb5 HS2 hz23 q5 hA5
  obtain ⟨z, hz, hc, ⟨cs, hbk⟩, _, _⟩ := L0.out.cells HI2.out HO.out HQ.out
  have s1 : w5.cell? ⟨b, q * 15 + 1, none⟩ = some (.int .i64 x.rd) := hc 1 (by omega)
  have e0 : w5.cell? ⟨w.heap.size, 0, none⟩ = some (.int .i64 1) := KB.out.cell 0
  have e1 : w5.cell? ⟨w.heap.size, 1, none⟩ = some (.int .i64 m.fr) := KB.out.cell 1
  have e2 : w5.cell? ⟨w.heap.size, 2, none⟩ = some (.int .i64 m.dst) := KB.out.cell 2
  have e3 : w5.cell? ⟨w.heap.size, 3, none⟩ = some (.int .i64 m.slot) := KB.out.cell 3
  have e4 : w5.cell? ⟨w.heap.size, 4, none⟩ = some (.int .i64 m.bal.rd) := KB.out.cell 4
  have e5 : w5.cell? ⟨w.heap.size, 5, none⟩ = some (.int .i64 m.bal.nd) := KB.out.cell 5
  have e6 : w5.cell? ⟨w.heap.size, 6, none⟩ = some (.int .i64 m.had.rd) := KB.out.cell 6
  have e7 : w5.cell? ⟨w.heap.size, 7, none⟩ = some (.int .i64 m.had.nd) := KB.out.cell 7
  have e8 : w5.cell? ⟨w.heap.size, 8, none⟩ = some (.string m.text) := KB.out.cell 8
  have ff : ∀ n j, (w5.drewN n).frozen? ⟨b, j, none⟩ = false := fun _ j => hbk.frozen j
  have s1' : ∀ n, (w5.drewN n).cell? ⟨b, q * 15 + 1, none⟩ = some (.int .i64 x.rd) := fun _ => s1
  have e4' : ∀ n, (w5.drewN n).cell? ⟨w.heap.size, 4, none⟩ = some (.int .i64 m.bal.rd) := fun _ => e4
  clear hz hc hbk
  obtain ⟨bb, tt⟩ : ∃ bb, decide (x.rd < m.bal.rd) = bb := ⟨_, rfl⟩
  have TT := hid tt
  go_wp2_with fail
  go_quiet (fail)
  have hb := hid (below_drewN (Below.refl w5.heap.size w5) nq)
  have L0' := hid (L0.out.far (M := Nil) (.of_below' hb.out _) fun _ _ => id)
  have KB' := hid (KB.out.below_all hb.out)
  have HU' := hid (HU.out.drewN nq)
  have f1 := s1' nq
  have f4 := e4' nq
  have fz := ff nq
  clear s1 s1' e0 e1 e2 e3 e4 e5 e6 e7 e8 e4' ff L0 KB HU hq5 hb
  generalize w5.drewN nq = w6 at *
  go_upto_if 63 with fail
  go_cut [] (fun wx => RSl S5 wx r (some ⟨b0, o0, none⟩) cn2 Am2 cm2 G2 i m.slot b { x with rd := maxI x.rd m.bal.rd } ∧ Blk wx w.heap.size 78 #[.int .i64 1, .int .i64 m.fr, .int .i64 m.dst, .int .i64 m.slot, .int .i64 m.bal.rd, .int .i64 m.bal.nd, .int .i64 m.had.rd, .int .i64 m.had.nd, .string m.text] ∧ Upd S w wx)
  case first =>
    cases bb with
    | true =>
      have hmx : Hid (maxI x.rd m.bal.rd = m.bal.rd) := hid (by unfold maxI; rw [if_pos (of_decide_eq_true TT.out)])
      have hmove : Hid (RSl S5 (w6.setCell ⟨b, q * 15 + 1, none⟩ (.int .i64 m.bal.rd)) r (some ⟨b0, o0, none⟩) cn2 Am2 cm2 G2 i m.slot b { x with rd := maxI x.rd m.bal.rd } ∧ Blk (w6.setCell ⟨b, q * 15 + 1, none⟩ (.int .i64 m.bal.rd)) w.heap.size 78 #[.int .i64 1, .int .i64 m.fr, .int .i64 m.dst, .int .i64 m.slot, .int .i64 m.bal.rd, .int .i64 m.bal.nd, .int .i64 m.had.rd, .int .i64 m.had.nd, .string m.text] ∧ Upd S w (w6.setCell ⟨b, q * 15 + 1, none⟩ (.int .i64 m.bal.rd))) := hid (by
        have hu : Upd (fun k => k = b) w6 (w6.setCell ⟨b, q * 15 + 1, none⟩ (.int .i64 m.bal.rd)) := (Upd.refl (fun k => k = b) w6).setCell (p := ⟨b, q * 15 + 1, none⟩) (fun _ => rfl) _
        refine ⟨?_, KB'.out.upd hu fun e => hSw (by rw [e]; exact hSb), HU'.out.setCell (p := ⟨b, q * 15 + 1, none⟩) (fun h => ?_) _⟩
        · rw [hmx.out]
          exact L0'.out.put HI2.out HO.out HQ.out hu (by simp) fun z hz => ⟨z, fun A B n c hr hA => own_seg (f := 1) hr hA (by simp [rcells]) (.int .i64 m.bal.rd), fun d hd => hz d hd, fun hs k hk => ⟨hs, hk⟩⟩
        · rcases hS5.out _ hSb with h1 | h1
          · exact h1
          · have h : b < w.heap.size := h
            omega)
      go_wp2_with fail
      go_meet
      exact hmove.out
    | false =>
      have hmx : Hid (maxI x.rd m.bal.rd = x.rd) := hid (by unfold maxI; rw [if_neg (of_decide_eq_false TT.out)])
      go_wp2_with fail
      go_meet
      exact ⟨by rw [hmx.out]; exact L0'.out, KB'.out, HU'.out⟩
  case rest =>
    obtain ⟨L1, K1, U1⟩ := hcut
    have L := hid L1; have KW := hid K1; have UW := hid U1
    clear L1 K1 U1 L0' KB' HU' f1 f4 fz
    obtain ⟨z, hz, hc, ⟨cs, hbk⟩, _, _⟩ := L.out.cells HI2.out HO.out HQ.out
    have s2 : wc.cell? ⟨b, q * 15 + 2, none⟩ = some (.int .i64 x.prom.rd) := hc 2 (by omega)
    have s3 : wc.cell? ⟨b, q * 15 + 3, none⟩ = some (.int .i64 x.prom.nd) := hc 3 (by omega)
    have s4 : wc.cell? ⟨b, q * 15 + 4, none⟩ = some (.int .i64 x.accd.bal.rd) := hc 4 (by omega)
    have s5 : wc.cell? ⟨b, q * 15 + 5, none⟩ = some (.int .i64 x.accd.bal.nd) := hc 5 (by omega)
    have s6 : wc.cell? ⟨b, q * 15 + 6, none⟩ = some (.string x.accd.text) := hc 6 (by omega)
    have s7 : wc.cell? ⟨b, q * 15 + 7, none⟩ = some (.bool x.is) := hc 7 (by omega)
    have s8 : wc.cell? ⟨b, q * 15 + 8, none⟩ = some (.string x.text) := hc 8 (by omega)
    have e0 : wc.cell? ⟨w.heap.size, 0, none⟩ = some (.int .i64 1) := KW.out.cell 0
    have e1 : wc.cell? ⟨w.heap.size, 1, none⟩ = some (.int .i64 m.fr) := KW.out.cell 1
    have e2 : wc.cell? ⟨w.heap.size, 2, none⟩ = some (.int .i64 m.dst) := KW.out.cell 2
    have e3 : wc.cell? ⟨w.heap.size, 3, none⟩ = some (.int .i64 m.slot) := KW.out.cell 3
    have e4 : wc.cell? ⟨w.heap.size, 4, none⟩ = some (.int .i64 m.bal.rd) := KW.out.cell 4
    have e5 : wc.cell? ⟨w.heap.size, 5, none⟩ = some (.int .i64 m.bal.nd) := KW.out.cell 5
    have e6 : wc.cell? ⟨w.heap.size, 6, none⟩ = some (.int .i64 m.had.rd) := KW.out.cell 6
    have e7 : wc.cell? ⟨w.heap.size, 7, none⟩ = some (.int .i64 m.had.nd) := KW.out.cell 7
    have e8 : wc.cell? ⟨w.heap.size, 8, none⟩ = some (.string m.text) := KW.out.cell 8
    have ff : ∀ j, wc.frozen? ⟨b, j, none⟩ = false := fun j => hbk.frozen j
    clear hz hc hbk
    go_upto_region 13 with fail
    by_cases hlt : Bal.lt m.bal x.prom
    · have t3 : decide (Bal.lt m.bal x.prom) = true := decide_eq_true hlt
      have hH : Hid (G2.Handle i m.slot x m (G2.setSl i m.slot { x with rd := maxI x.rd m.bal.rd })) := hid (by
        unfold Gr.Handle
        rw [if_pos HK.out]
        unfold Gr.prepare
        rw [if_neg ((lt_cmp _ _).1 hlt)])
      clear hlt
      go_still_tail 6, (by kernel_rfl)
      change wpList _ _ _ _ _ wc.drew
      go_wp2_with fail
      refine (below_any m.bal x.prom _).mono ?_
      rintro e w7 ⟨rfl, hb70⟩
      have hb7 := hid ((Below.refl wc.heap.size wc).drew.trans hb70)
      clear hb70
      go_wp2_with fail
      go_ret
      exact ⟨rfl, hend.out wc _ _ KW.out UW.out (RGo.of_below L.out.at_ hb7.out) hH.out⟩
    · have t3 : decide (Bal.lt m.bal x.prom) = false := decide_eq_false hlt
      have hH : Hid (G2.Handle i m.slot x m ((G2.setSl i m.slot { x with rd := maxI x.rd m.bal.rd, prom := m.bal }).send ⟨2, m.dst, m.bal.nd, m.slot, m.bal, x.accd.bal, x.accd.text⟩)) := hid (by
        unfold Gr.Handle
        rw [if_pos HK.out]
        unfold Gr.prepare
        rw [if_pos (by have h1 := (lt_cmp m.bal x.prom).2; exact Classical.not_not.1 fun h => hlt (h1 h))])
      clear hlt
      go_still_tail 6, (by kernel_rfl)
      change wpList _ _ _ _ _ wc.drew
      go_wp2_with fail
      refine (below_any m.bal x.prom _).mono ?_
      rintro e w7 ⟨rfl, hb70⟩
      have hb7 := hid ((Below.refl wc.heap.size wc).drew.trans hb70)
      clear hb70
      have L7 := hid (L.out.far (M := Nil) (.of_below' hb7.out _) fun _ _ => id)
      have K7 := hid (KW.out.below_all hb7.out)
      have U7 := hid (UW.out.trans (Upd.of_below' hb7.out S) fun _ _ h => h)
      clear s2 s3 s4 s5 s6 s7 s8 e0 e1 e2 e3 e4 e5 e6 e7 e8 ff L KW UW hb7
      obtain ⟨z, hz, hc, ⟨cs, hbk⟩, _, _⟩ := L7.out.cells HI2.out HO.out HQ.out
      have s2 : w7.cell? ⟨b, q * 15 + 2, none⟩ = some (.int .i64 x.prom.rd) := hc 2 (by omega)
      have s3 : w7.cell? ⟨b, q * 15 + 3, none⟩ = some (.int .i64 x.prom.nd) := hc 3 (by omega)
      have s4 : w7.cell? ⟨b, q * 15 + 4, none⟩ = some (.int .i64 x.accd.bal.rd) := hc 4 (by omega)
      have s5 : w7.cell? ⟨b, q * 15 + 5, none⟩ = some (.int .i64 x.accd.bal.nd) := hc 5 (by omega)
      have s6 : w7.cell? ⟨b, q * 15 + 6, none⟩ = some (.string x.accd.text) := hc 6 (by omega)
      have s7 : w7.cell? ⟨b, q * 15 + 7, none⟩ = some (.bool x.is) := hc 7 (by omega)
      have s8 : w7.cell? ⟨b, q * 15 + 8, none⟩ = some (.string x.text) := hc 8 (by omega)
      have e0 : w7.cell? ⟨w.heap.size, 0, none⟩ = some (.int .i64 1) := K7.out.cell 0
      have e1 : w7.cell? ⟨w.heap.size, 1, none⟩ = some (.int .i64 m.fr) := K7.out.cell 1
      have e2 : w7.cell? ⟨w.heap.size, 2, none⟩ = some (.int .i64 m.dst) := K7.out.cell 2
      have e3 : w7.cell? ⟨w.heap.size, 3, none⟩ = some (.int .i64 m.slot) := K7.out.cell 3
      have e4 : w7.cell? ⟨w.heap.size, 4, none⟩ = some (.int .i64 m.bal.rd) := K7.out.cell 4
      have e5 : w7.cell? ⟨w.heap.size, 5, none⟩ = some (.int .i64 m.bal.nd) := K7.out.cell 5
      have e6 : w7.cell? ⟨w.heap.size, 6, none⟩ = some (.int .i64 m.had.rd) := K7.out.cell 6
      have e7 : w7.cell? ⟨w.heap.size, 7, none⟩ = some (.int .i64 m.had.nd) := K7.out.cell 7
      have e8 : w7.cell? ⟨w.heap.size, 8, none⟩ = some (.string m.text) := K7.out.cell 8
      have ff : ∀ j, w7.frozen? ⟨b, j, none⟩ = false := fun j => hbk.frozen j
      clear hz hc hbk
      have hbS : b < w.heap.size → S b := fun h => by
        rcases hS5.out _ hSb with h1 | h1
        · exact h1
        · omega
      have hu8 : Upd (fun k => k = b) w7 ((w7.setCell ⟨b, q * 15 + 2, none⟩ (.int .i64 m.bal.rd)).setCell ⟨b, q * 15 + 3, none⟩ (.int .i64 m.bal.nd)) := (((Upd.refl (fun k => k = b) w7).setCell (p := ⟨b, q * 15 + 2, none⟩) (fun _ => rfl) (.int .i64 m.bal.rd)).setCell (p := ⟨b, q * 15 + 3, none⟩) (fun _ => rfl) (.int .i64 m.bal.nd))
      have L8 : Hid (RSl S5 ((w7.setCell ⟨b, q * 15 + 2, none⟩ (.int .i64 m.bal.rd)).setCell ⟨b, q * 15 + 3, none⟩ (.int .i64 m.bal.nd)) r (some ⟨b0, o0, none⟩) cn2 Am2 cm2 G2 i m.slot b { x with rd := maxI x.rd m.bal.rd, prom := m.bal }) := hid (L7.out.put HI2.out HO.out HQ.out hu8 (by simp) fun z hz => ⟨z, fun A B n c hr hA => (own_seg (f := 3) (own_seg (f := 2) hr hA (by simp [rcells]) (.int .i64 m.bal.rd)) hA (by simp [rcells]) (.int .i64 m.bal.nd)), fun d hd => hz d hd, fun hs k hk => ⟨hs, hk⟩⟩)
      have K8 : Hid (Blk ((w7.setCell ⟨b, q * 15 + 2, none⟩ (.int .i64 m.bal.rd)).setCell ⟨b, q * 15 + 3, none⟩ (.int .i64 m.bal.nd)) w.heap.size 78 #[.int .i64 1, .int .i64 m.fr, .int .i64 m.dst, .int .i64 m.slot, .int .i64 m.bal.rd, .int .i64 m.bal.nd, .int .i64 m.had.rd, .int .i64 m.had.nd, .string m.text]) := hid (K7.out.upd hu8 fun e => hSw (by rw [e]; exact hSb))
      have U8 : Hid (Upd S w ((w7.setCell ⟨b, q * 15 + 2, none⟩ (.int .i64 m.bal.rd)).setCell ⟨b, q * 15 + 3, none⟩ (.int .i64 m.bal.nd))) := hid ((U7.out.setCell (p := ⟨b, q * 15 + 2, none⟩) hbS (.int .i64 m.bal.rd)).setCell (p := ⟨b, q * 15 + 3, none⟩) hbS (.int .i64 m.bal.nd))
      go_upto_region 15 with fail
      clear s2 s3 s4 s5 s6 s7 s8 e0 e1 e2 e3 e4 e5 e6 e7 e8 ff L7 K7 U7 hu8
      generalize ((w7.setCell ⟨b, q * 15 + 2, none⟩ (.int .i64 m.bal.rd)).setCell ⟨b, q * 15 + 3, none⟩ (.int .i64 m.bal.nd)) = w8 at *
      obtain ⟨z, hz, hc, ⟨cs, hbk⟩, _, _⟩ := L8.out.cells HI2.out HO.out HQ.out
      have s4 : w8.cell? ⟨b, q * 15 + 4, none⟩ = some (.int .i64 x.accd.bal.rd) := hc 4 (by omega)
      have s5 : w8.cell? ⟨b, q * 15 + 5, none⟩ = some (.int .i64 x.accd.bal.nd) := hc 5 (by omega)
      have s6 : w8.cell? ⟨b, q * 15 + 6, none⟩ = some (.string x.accd.text) := hc 6 (by omega)
      have e0 : w8.cell? ⟨w.heap.size, 0, none⟩ = some (.int .i64 1) := K8.out.cell 0
      have e1 : w8.cell? ⟨w.heap.size, 1, none⟩ = some (.int .i64 m.fr) := K8.out.cell 1
      have e2 : w8.cell? ⟨w.heap.size, 2, none⟩ = some (.int .i64 m.dst) := K8.out.cell 2
      have e3 : w8.cell? ⟨w.heap.size, 3, none⟩ = some (.int .i64 m.slot) := K8.out.cell 3
      have e4 : w8.cell? ⟨w.heap.size, 4, none⟩ = some (.int .i64 m.bal.rd) := K8.out.cell 4
      have e5 : w8.cell? ⟨w.heap.size, 5, none⟩ = some (.int .i64 m.bal.nd) := K8.out.cell 5
      have e6 : w8.cell? ⟨w.heap.size, 6, none⟩ = some (.int .i64 m.had.rd) := K8.out.cell 6
      have e7 : w8.cell? ⟨w.heap.size, 7, none⟩ = some (.int .i64 m.had.nd) := K8.out.cell 7
      have e8 : w8.cell? ⟨w.heap.size, 8, none⟩ = some (.string m.text) := K8.out.cell 8
      have ff : ∀ j, w8.frozen? ⟨b, j, none⟩ = false := fun j => hbk.frozen j
      clear hz hc hbk
      go_still_tail 19, (by kernel_rfl)
      change wpList _ _ _ _ _ w8.drew
      go_wp2_with fail
      refine (rsend_any ⟨2, m.dst, m.bal.nd, m.slot, m.bal, x.accd.bal, x.accd.text⟩ (L8.out.at_.below (Below.refl _ w8).drew)).mono ?_
      rintro e w9 ⟨rfl, hgo⟩
      have hfin := hid (hend.out w8 _ _ K8.out U8.out (RGo.then ⟨S5, fun k hk => .inl hk, Upd.of_below' (Below.refl _ w8).drew _, hgo⟩) hH.out)
      clear hgo
      go_wp2_with fail
      go_ret
      exact ⟨rfl, hfin.out⟩
set_option maxRecDepth 100000 in
set_option maxHeartbeats 4000000 in
theorem rdeliver_3 (k : Nat) (m : Ml) (i : Nat) (h : RAt S w r G) (hk : k < G.mail.length) (hm : G.mail[k] = m) (hi00 : m.dst = (i : Int)) (hi : i < G.nds.length) (hs : 0 ≤ m.slot ∧ m.slot ≤ 1000) (hN : G.nds.length ≤ 9) (hl : G.mail.length ≤ 100000) (hf : ∀ j, (G.nd j).sl.length ≤ 900) (hK : m.kind = 3) (hup : (G.nd i).up = true) : Calls Try.prog 45 #[.pointer (some ⟨r, 0, none⟩), .int .i64 k] w fun e w' => e = .returned (.bool true) ∧ ∃ G', G.Deliver k m G' ∧ RGo S w r G' w' := by
  have hB1 : Below w.heap.size w (w.alloc (.cells #[.int .i64 3, .int .i64 m.fr, .int .i64 m.dst, .int .i64 m.slot, .int .i64 m.bal.rd, .int .i64 m.bal.nd, .int .i64 m.had.rd, .int .i64 m.had.nd, .string m.text] 78)) := (Below.refl _ _).alloc (Nat.le_refl _) _
  have kb1 := Blk.new w 78 #[.int .i64 3, .int .i64 m.fr, .int .i64 m.dst, .int .i64 m.slot, .int .i64 m.bal.rd, .int .i64 m.bal.nd, .int .i64 m.had.rd, .int .i64 m.had.nd, .string m.text]
  have hRA := h.below hB1
  obtain ⟨An, cn, Am, cm, a, q⟩ := h
  have hSlt := q.lt
  obtain ⟨c0, c1⟩ := q.cells
  obtain ⟨gr, cur, rfl, hgr⟩ := own_formS q.mrow.1 (by omega)
  have m0 : w.cell? ⟨gr, k * 9, none⟩ = some (.int .i64 3) := by
    rw [q.mrow.1.cellAt _ (by omega)]
    exact (mcells_at _ k 0 hk (by omega)).trans (by rw [hm, Ml.cells, hK]; rfl)
  have m1 : w.cell? ⟨gr, k * 9 + 1, none⟩ = some (.int .i64 m.fr) := by
    rw [q.mrow.1.cellAt _ (by omega)]
    exact (mcells_at _ k 1 hk (by omega)).trans (by rw [hm]; rfl)
  have m2 : w.cell? ⟨gr, k * 9 + 2, none⟩ = some (.int .i64 m.dst) := by
    rw [q.mrow.1.cellAt _ (by omega)]
    exact (mcells_at _ k 2 hk (by omega)).trans (by rw [hm]; rfl)
  have m3 : w.cell? ⟨gr, k * 9 + 3, none⟩ = some (.int .i64 m.slot) := by
    rw [q.mrow.1.cellAt _ (by omega)]
    exact (mcells_at _ k 3 hk (by omega)).trans (by rw [hm]; rfl)
  have m4 : w.cell? ⟨gr, k * 9 + 4, none⟩ = some (.int .i64 m.bal.rd) := by
    rw [q.mrow.1.cellAt _ (by omega)]
    exact (mcells_at _ k 4 hk (by omega)).trans (by rw [hm]; rfl)
  have m5 : w.cell? ⟨gr, k * 9 + 5, none⟩ = some (.int .i64 m.bal.nd) := by
    rw [q.mrow.1.cellAt _ (by omega)]
    exact (mcells_at _ k 5 hk (by omega)).trans (by rw [hm]; rfl)
  have m6 : w.cell? ⟨gr, k * 9 + 6, none⟩ = some (.int .i64 m.had.rd) := by
    rw [q.mrow.1.cellAt _ (by omega)]
    exact (mcells_at _ k 6 hk (by omega)).trans (by rw [hm]; rfl)
  have m7 : w.cell? ⟨gr, k * 9 + 7, none⟩ = some (.int .i64 m.had.nd) := by
    rw [q.mrow.1.cellAt _ (by omega)]
    exact (mcells_at _ k 7 hk (by omega)).trans (by rw [hm]; rfl)
  have m8 : w.cell? ⟨gr, k * 9 + 8, none⟩ = some (.string m.text) := by
    rw [q.mrow.1.cellAt _ (by omega)]
    exact (mcells_at _ k 8 hk (by omega)).trans (by rw [hm]; rfl)
  have t1 : decide ((k : Int) < 0) = false := by simp
  have t2 : decide ((G.mail.length : Int) ≤ (k : Int)) = false := decide_eq_false (by omega)
  have t3 : decide (G.mail.length ≤ k) = false := decide_eq_false (by omega)
  have i1 : (k : Int) < (G.mail.length : Int) := by omega
  have hgn : G.drop (k : Int) = G.gone k := by unfold Gr.drop; rw [if_pos ⟨by omega, by omega⟩, Int.toNat_natCast]
  have hdr0 := rdrop_ex (k : Int) hRA hl
  rw [hgn] at hdr0
  have hdr := hid hdr0
  have HM := hid hm; have HI := hid hi00; have HF := hid hf; have HK := hid hK; have HHi := hid hi; have HUP := hid hup
  clear q hdr0 hgn hRA hm hgr hi00 hf hK hup
  go_enter Try.func45, Try.ntmps45
  go_upto_region 4 with fail
  clear m0 m1 m2 m3 m4 m5 m6 m7 m8 c0 c1
  generalize (w.alloc (.cells #[.int .i64 3, .int .i64 m.fr, .int .i64 m.dst, .int .i64 m.slot, .int .i64 m.bal.rd, .int .i64 m.bal.nd, .int .i64 m.had.rd, .int .i64 m.had.nd, .string m.text] 78)) = w1 at *
  have hz1 := kb1.lt
  go_wp2_with fail
  refine hdr.out.mono ?_
  rintro e w2 ⟨rfl, S2, h2, hS2, hu2⟩
  have hS2w : ¬ S2 w.heap.size := fun h => by
    rcases hS2 _ h with h | h
    · exact absurd (hSlt _ h) (Nat.lt_irrefl _)
    · omega
  have kb2 := kb1.upd hu2 fun h => absurd (hSlt _ h) (Nat.lt_irrefl _)
  obtain ⟨An2, cn2, Am2, cm2, a2, q2⟩ := h2
  obtain ⟨G1, hG1⟩ : ∃ G1, G1 = G.gone k := ⟨_, rfl⟩
  rw [← hG1] at q2
  have hlen0 : G1.nds.length = G.nds.length := by rw [hG1]; rfl
  have hnd0 : ∀ j, G1.nd j = G.nd j := fun j => by rw [hG1]; rfl
  have hGG := hid hG1
  have hi1 : i < G1.nds.length := by omega
  have i3 : (i : Int) < (G1.nds.length : Int) := by omega
  have i0 : (0 : Int) ≤ (i : Int) := by omega
  obtain ⟨b0, o0, rfl, hbl, xp⟩ := q2.ptr hi1
  obtain ⟨c0, c1⟩ := q2.cells
  obtain ⟨n1, n2, n3, n4⟩ := q2.nd i hi1
  have xu : w2.cell? ⟨a2.nb i, 0, none⟩ = some (.bool true) := by have := n1.cell 0; rwa [hnd0, HUP.out] at this
  have x2 : w2.cell? ⟨w.heap.size, 2, none⟩ = some (.int .i64 (i : Int)) := by rw [← HI.out]; exact kb2.cell 2
  have hsl := hid (fun (n : Nat) => rslot_any i m.slot (q2.below (below_drewN (Below.refl _ w2) n)) hi1 (by rw [hnd0]; have := HF.out i; omega))
  have hkb := hid (fun (n : Nat) => kb2.below_all (below_drewN (Below.refl _ w2) n))
  have hU2 : Hid (Upd S w w2) := hid ((Upd.of_below' hB1 S).trans hu2 fun _ _ h => h)
  have hz24 := hid hu2.size
  have hz1' := hid hz1
  have hLN := hid (show (∀ j, G1.nd j = G.nd j) ∧ G1.nds.length = G.nds.length from ⟨hnd0, hlen0⟩)
  have xu' : ∀ n, (w2.drewN n).cell? ⟨a2.nb i, 0, none⟩ = some (.bool true) := fun _ => xu
  have x3' : ∀ n, (w2.drewN n).cell? ⟨w.heap.size, 3, none⟩ = some (.int .i64 m.slot) := fun _ => kb2.cell 3
  have HS2 := hid hS2; have hS2w' := hid hS2w
  clear q2 n1 n2 n3 n4 hlen0 hnd0 hG1 kb1 kb2 hu2 hB1 hdr hS2 hS2w t1 t2 t3 i1
  go_wp2_with fail
  go_quiet (fail)
  have xu4 := xu' nq
  have x34 := x3' nq
  have hU3 := hid (hU2.out.drewN nq)
  have hsl3 := hid (hsl.out nq)
  have hkb3 := hid (hkb.out nq)
  have hz23 : (w2.drewN nq).heap.size = w2.heap.size := rfl
  clear xu xu' x3' x2 xp c0 c1 hU2 hsl hkb
  generalize w2.drewN nq = w3 at *
  go_wp2_with fail
  refine hsl3.out.mono ?_
  rintro e w5 ⟨b, q, rfl, S5, a5, q5, hS5, hu5, hA5, hnb5, hsq⟩
  have hat : (G1.touch i m.slot).at_ i m.slot = G1.at_ i m.slot := Gr.at_touch _ _ _ _ _ (by rw [hLN.out.2]; exact HHi.out)
  rw [hat] at hsq
  have hfinal : Hid (∀ G', (G1.touch i m.slot).Handle i m.slot (G1.at_ i m.slot) m G' → G.Deliver k m G') := hid (fun G' hP => by
    unfold Gr.Deliver
    rw [if_pos (by rw [HI.out, Int.toNat_natCast]; exact HUP.out), HI.out, Int.toNat_natCast, ← hGG.out]
    exact hP)
  have hL2 : Hid ((G1.touch i m.slot).nds.length = G.nds.length) := hid (by rw [Gr.touch_len, hLN.out.2])
  have hst : Hid (G1.at_ i m.slot = G.at_ i m.slot) := hid (by rw [hGG.out]; rfl)
  have hTL : Hid (∀ j, ((G1.touch i m.slot).nd j).sl.length ≤ 1000) := hid (fun j => by
    have h1 := touch_few G1 i j m.slot (by rw [hLN.out.2]; exact HHi.out)
    rw [hLN.out.1] at h1
    have := HF.out j
    omega)
  have hTS : Hid (∀ n t, (G1.touch i m.slot).st n t = G.st n t) := hid (fun n t => by
    unfold Gr.st
    rw [Gr.touch_len, hLN.out.2]
    rw [Gr.at_touch _ _ _ _ _ (by rw [hLN.out.2]; exact HHi.out), hGG.out]
    rfl)
  generalize G1.touch i m.slot = G2 at *
  generalize G1.at_ i m.slot = x at *
  have HI2 : Hid (i < G2.nds.length) := hid (by rw [hL2.out]; exact HHi.out)
  have HO : Hid (Once (G2.nd i).sl) := hid (q5.nd i HI2.out).2.2.2
  have HQ := hid hsq
  have KB : Hid (Blk w5 w.heap.size 78 #[.int .i64 3, .int .i64 m.fr, .int .i64 m.dst, .int .i64 m.slot, .int .i64 m.bal.rd, .int .i64 m.bal.nd, .int .i64 m.had.rd, .int .i64 m.had.nd, .string m.text]) := hid (hkb3.out.upd hu5 hS2w'.out)
  have hS5 : Hid (∀ k, S5 k → S k ∨ w.heap.size + 1 ≤ k) := hid (fun k hk => by
    have h1 := hz1'.out
    have h2 := hz24.out
    rcases hS5 k hk with h | h
    · exact (HS2.out k h).imp id (by omega)
    · exact .inr (by omega))
  have HU : Hid (Upd S w w5) := hid (hU3.out.trans hu5 fun k hk h => by
    rcases HS2.out k h with h | h
    · exact h
    · have := hz1'.out; omega)
  have hSw : ¬ S5 w.heap.size := fun h => by
    rcases hS5.out _ h with h | h
    · exact absurd (hSlt _ h) (Nat.lt_irrefl _)
    · omega
  have hend : Hid (∀ (w6 : World) G' w', Blk w6 w.heap.size 78 #[.int .i64 3, .int .i64 m.fr, .int .i64 m.dst, .int .i64 m.slot, .int .i64 m.bal.rd, .int .i64 m.bal.nd, .int .i64 m.had.rd, .int .i64 m.had.nd, .string m.text] → Upd S w w6 → RGo S5 w6 r G' w' → G2.Handle i m.slot x m G' → ∃ G', G.Deliver k m G' ∧ RGo S w r G' w') := hid (fun w6 G' w' hkb hu6 hgo hH => ⟨G', hfinal.out _ hH, RGo.then ⟨S5, fun k hk => (hS5.out k hk).imp id (by omega), hu6, hgo⟩⟩)
  have L0 : Hid (RSl S5 w5 r (some ⟨b0, o0, none⟩) cn2 Am2 cm2 G2 i m.slot b x) := hid ⟨a5, by rw [Gr.set_same HI2.out (HO.out.get (List.mem_of_getElem? hsq))]; exact q5, hA5⟩
  have hq5 := hid q5; have hA5' := hid hA5
  have hSb : S5 b := by
    obtain ⟨_, _, _, _, h, _⟩ := L0.out.cells HI2.out HO.out HQ.out
    exact h
  clear xu4 x34 hsl3 hkb3 hU3 hu5 hsq hat hnb5 HS2 hz23 q5 hA5
  obtain ⟨z, hz, hc, ⟨cs, hbk⟩, _, _⟩ := L0.out.cells HI2.out HO.out HQ.out
  have s1 : w5.cell? ⟨b, q * 15 + 1, none⟩ = some (.int .i64 x.rd) := hc 1 (by omega)
  have e0 : w5.cell? ⟨w.heap.size, 0, none⟩ = some (.int .i64 3) := KB.out.cell 0
  have e1 : w5.cell? ⟨w.heap.size, 1, none⟩ = some (.int .i64 m.fr) := KB.out.cell 1
  have e2 : w5.cell? ⟨w.heap.size, 2, none⟩ = some (.int .i64 m.dst) := KB.out.cell 2
  have e3 : w5.cell? ⟨w.heap.size, 3, none⟩ = some (.int .i64 m.slot) := KB.out.cell 3
  have e4 : w5.cell? ⟨w.heap.size, 4, none⟩ = some (.int .i64 m.bal.rd) := KB.out.cell 4
  have e5 : w5.cell? ⟨w.heap.size, 5, none⟩ = some (.int .i64 m.bal.nd) := KB.out.cell 5
  have e6 : w5.cell? ⟨w.heap.size, 6, none⟩ = some (.int .i64 m.had.rd) := KB.out.cell 6
  have e7 : w5.cell? ⟨w.heap.size, 7, none⟩ = some (.int .i64 m.had.nd) := KB.out.cell 7
  have e8 : w5.cell? ⟨w.heap.size, 8, none⟩ = some (.string m.text) := KB.out.cell 8
  have ff : ∀ n j, (w5.drewN n).frozen? ⟨b, j, none⟩ = false := fun _ j => hbk.frozen j
  have s1' : ∀ n, (w5.drewN n).cell? ⟨b, q * 15 + 1, none⟩ = some (.int .i64 x.rd) := fun _ => s1
  have e4' : ∀ n, (w5.drewN n).cell? ⟨w.heap.size, 4, none⟩ = some (.int .i64 m.bal.rd) := fun _ => e4
  clear hz hc hbk
  obtain ⟨bb, tt⟩ : ∃ bb, decide (x.rd < m.bal.rd) = bb := ⟨_, rfl⟩
  have TT := hid tt
  go_wp2_with fail
  go_quiet (fail)
  have hb := hid (below_drewN (Below.refl w5.heap.size w5) nq)
  have L0' := hid (L0.out.far (M := Nil) (.of_below' hb.out _) fun _ _ => id)
  have KB' := hid (KB.out.below_all hb.out)
  have HU' := hid (HU.out.drewN nq)
  have f1 := s1' nq
  have f4 := e4' nq
  have fz := ff nq
  clear s1 s1' e0 e1 e2 e3 e4 e5 e6 e7 e8 e4' ff L0 KB HU hq5 hb
  generalize w5.drewN nq = w6 at *
  go_upto_if 63 with fail
  go_cut [] (fun wx => RSl S5 wx r (some ⟨b0, o0, none⟩) cn2 Am2 cm2 G2 i m.slot b { x with rd := maxI x.rd m.bal.rd } ∧ Blk wx w.heap.size 78 #[.int .i64 3, .int .i64 m.fr, .int .i64 m.dst, .int .i64 m.slot, .int .i64 m.bal.rd, .int .i64 m.bal.nd, .int .i64 m.had.rd, .int .i64 m.had.nd, .string m.text] ∧ Upd S w wx)
  case first =>
    cases bb with
    | true =>
      have hmx : Hid (maxI x.rd m.bal.rd = m.bal.rd) := hid (by unfold maxI; rw [if_pos (of_decide_eq_true TT.out)])
      have hmove : Hid (RSl S5 (w6.setCell ⟨b, q * 15 + 1, none⟩ (.int .i64 m.bal.rd)) r (some ⟨b0, o0, none⟩) cn2 Am2 cm2 G2 i m.slot b { x with rd := maxI x.rd m.bal.rd } ∧ Blk (w6.setCell ⟨b, q * 15 + 1, none⟩ (.int .i64 m.bal.rd)) w.heap.size 78 #[.int .i64 3, .int .i64 m.fr, .int .i64 m.dst, .int .i64 m.slot, .int .i64 m.bal.rd, .int .i64 m.bal.nd, .int .i64 m.had.rd, .int .i64 m.had.nd, .string m.text] ∧ Upd S w (w6.setCell ⟨b, q * 15 + 1, none⟩ (.int .i64 m.bal.rd))) := hid (by
        have hu : Upd (fun k => k = b) w6 (w6.setCell ⟨b, q * 15 + 1, none⟩ (.int .i64 m.bal.rd)) := (Upd.refl (fun k => k = b) w6).setCell (p := ⟨b, q * 15 + 1, none⟩) (fun _ => rfl) _
        refine ⟨?_, KB'.out.upd hu fun e => hSw (by rw [e]; exact hSb), HU'.out.setCell (p := ⟨b, q * 15 + 1, none⟩) (fun h => ?_) _⟩
        · rw [hmx.out]
          exact L0'.out.put HI2.out HO.out HQ.out hu (by simp) fun z hz => ⟨z, fun A B n c hr hA => own_seg (f := 1) hr hA (by simp [rcells]) (.int .i64 m.bal.rd), fun d hd => hz d hd, fun hs k hk => ⟨hs, hk⟩⟩
        · rcases hS5.out _ hSb with h1 | h1
          · exact h1
          · have h : b < w.heap.size := h
            omega)
      go_wp2_with fail
      go_meet
      exact hmove.out
    | false =>
      have hmx : Hid (maxI x.rd m.bal.rd = x.rd) := hid (by unfold maxI; rw [if_neg (of_decide_eq_false TT.out)])
      go_wp2_with fail
      go_meet
      exact ⟨by rw [hmx.out]; exact L0'.out, KB'.out, HU'.out⟩
  case rest =>
    obtain ⟨L1, K1, U1⟩ := hcut
    have L := hid L1; have KW := hid K1; have UW := hid U1
    clear L1 K1 U1 L0' KB' HU' f1 f4 fz
    obtain ⟨z, hz, hc, ⟨cs, hbk⟩, _, _⟩ := L.out.cells HI2.out HO.out HQ.out
    have s2 : wc.cell? ⟨b, q * 15 + 2, none⟩ = some (.int .i64 x.prom.rd) := hc 2 (by omega)
    have s3 : wc.cell? ⟨b, q * 15 + 3, none⟩ = some (.int .i64 x.prom.nd) := hc 3 (by omega)
    have s4 : wc.cell? ⟨b, q * 15 + 4, none⟩ = some (.int .i64 x.accd.bal.rd) := hc 4 (by omega)
    have s5 : wc.cell? ⟨b, q * 15 + 5, none⟩ = some (.int .i64 x.accd.bal.nd) := hc 5 (by omega)
    have s6 : wc.cell? ⟨b, q * 15 + 6, none⟩ = some (.string x.accd.text) := hc 6 (by omega)
    have s7 : wc.cell? ⟨b, q * 15 + 7, none⟩ = some (.bool x.is) := hc 7 (by omega)
    have s8 : wc.cell? ⟨b, q * 15 + 8, none⟩ = some (.string x.text) := hc 8 (by omega)
    have e0 : wc.cell? ⟨w.heap.size, 0, none⟩ = some (.int .i64 3) := KW.out.cell 0
    have e1 : wc.cell? ⟨w.heap.size, 1, none⟩ = some (.int .i64 m.fr) := KW.out.cell 1
    have e2 : wc.cell? ⟨w.heap.size, 2, none⟩ = some (.int .i64 m.dst) := KW.out.cell 2
    have e3 : wc.cell? ⟨w.heap.size, 3, none⟩ = some (.int .i64 m.slot) := KW.out.cell 3
    have e4 : wc.cell? ⟨w.heap.size, 4, none⟩ = some (.int .i64 m.bal.rd) := KW.out.cell 4
    have e5 : wc.cell? ⟨w.heap.size, 5, none⟩ = some (.int .i64 m.bal.nd) := KW.out.cell 5
    have e6 : wc.cell? ⟨w.heap.size, 6, none⟩ = some (.int .i64 m.had.rd) := KW.out.cell 6
    have e7 : wc.cell? ⟨w.heap.size, 7, none⟩ = some (.int .i64 m.had.nd) := KW.out.cell 7
    have e8 : wc.cell? ⟨w.heap.size, 8, none⟩ = some (.string m.text) := KW.out.cell 8
    have ff : ∀ j, wc.frozen? ⟨b, j, none⟩ = false := fun j => hbk.frozen j
    clear hz hc hbk
    go_upto_region 19 with fail
    by_cases hlt : Bal.lt m.bal x.prom
    · have t3 : decide (Bal.lt m.bal x.prom) = true := decide_eq_true hlt
      have hH : Hid (G2.Handle i m.slot x m (G2.setSl i m.slot { x with rd := maxI x.rd m.bal.rd })) := hid (by
        unfold Gr.Handle
        rw [if_neg (by rw [HK.out]; decide), if_neg (by rw [HK.out]; decide), if_pos HK.out]
        unfold Gr.accept
        rw [if_neg ((lt_cmp _ _).1 hlt)])
      clear hlt
      go_still_tail 6, (by kernel_rfl)
      change wpList _ _ _ _ _ wc.drew
      go_wp2_with fail
      refine (below_any m.bal x.prom _).mono ?_
      rintro e w7 ⟨rfl, hb70⟩
      have hb7 := hid ((Below.refl wc.heap.size wc).drew.trans hb70)
      clear hb70
      go_wp2_with fail
      go_ret
      exact ⟨rfl, hend.out wc _ _ KW.out UW.out (RGo.of_below L.out.at_ hb7.out) hH.out⟩
    · have t3 : decide (Bal.lt m.bal x.prom) = false := decide_eq_false hlt
      have hH : Hid (G2.Handle i m.slot x m ((G2.setSl i m.slot { x with rd := maxI x.rd m.bal.rd, prom := m.bal, accd := ⟨m.bal, m.text⟩ }).send ⟨4, m.dst, m.bal.nd, m.slot, m.bal, bal0, ⟨#[]⟩⟩)) := hid (by
        unfold Gr.Handle
        rw [if_neg (by rw [HK.out]; decide), if_neg (by rw [HK.out]; decide), if_pos HK.out]
        unfold Gr.accept
        rw [if_pos (by have h1 := (lt_cmp m.bal x.prom).2; exact Classical.not_not.1 fun h => hlt (h1 h))])
      clear hlt
      go_still_tail 6, (by kernel_rfl)
      change wpList _ _ _ _ _ wc.drew
      go_wp2_with fail
      refine (below_any m.bal x.prom _).mono ?_
      rintro e w7 ⟨rfl, hb70⟩
      have hb7 := hid ((Below.refl wc.heap.size wc).drew.trans hb70)
      clear hb70
      have L7 := hid (L.out.far (M := Nil) (.of_below' hb7.out _) fun _ _ => id)
      have K7 := hid (KW.out.below_all hb7.out)
      have U7 := hid (UW.out.trans (Upd.of_below' hb7.out S) fun _ _ h => h)
      clear s2 s3 s4 s5 s6 s7 s8 e0 e1 e2 e3 e4 e5 e6 e7 e8 ff L KW UW hb7
      obtain ⟨z, hz, hc, ⟨cs, hbk⟩, _, _⟩ := L7.out.cells HI2.out HO.out HQ.out
      have s2 : w7.cell? ⟨b, q * 15 + 2, none⟩ = some (.int .i64 x.prom.rd) := hc 2 (by omega)
      have s3 : w7.cell? ⟨b, q * 15 + 3, none⟩ = some (.int .i64 x.prom.nd) := hc 3 (by omega)
      have s4 : w7.cell? ⟨b, q * 15 + 4, none⟩ = some (.int .i64 x.accd.bal.rd) := hc 4 (by omega)
      have s5 : w7.cell? ⟨b, q * 15 + 5, none⟩ = some (.int .i64 x.accd.bal.nd) := hc 5 (by omega)
      have s6 : w7.cell? ⟨b, q * 15 + 6, none⟩ = some (.string x.accd.text) := hc 6 (by omega)
      have s7 : w7.cell? ⟨b, q * 15 + 7, none⟩ = some (.bool x.is) := hc 7 (by omega)
      have s8 : w7.cell? ⟨b, q * 15 + 8, none⟩ = some (.string x.text) := hc 8 (by omega)
      have e0 : w7.cell? ⟨w.heap.size, 0, none⟩ = some (.int .i64 3) := K7.out.cell 0
      have e1 : w7.cell? ⟨w.heap.size, 1, none⟩ = some (.int .i64 m.fr) := K7.out.cell 1
      have e2 : w7.cell? ⟨w.heap.size, 2, none⟩ = some (.int .i64 m.dst) := K7.out.cell 2
      have e3 : w7.cell? ⟨w.heap.size, 3, none⟩ = some (.int .i64 m.slot) := K7.out.cell 3
      have e4 : w7.cell? ⟨w.heap.size, 4, none⟩ = some (.int .i64 m.bal.rd) := K7.out.cell 4
      have e5 : w7.cell? ⟨w.heap.size, 5, none⟩ = some (.int .i64 m.bal.nd) := K7.out.cell 5
      have e6 : w7.cell? ⟨w.heap.size, 6, none⟩ = some (.int .i64 m.had.rd) := K7.out.cell 6
      have e7 : w7.cell? ⟨w.heap.size, 7, none⟩ = some (.int .i64 m.had.nd) := K7.out.cell 7
      have e8 : w7.cell? ⟨w.heap.size, 8, none⟩ = some (.string m.text) := K7.out.cell 8
      have ff : ∀ j, w7.frozen? ⟨b, j, none⟩ = false := fun j => hbk.frozen j
      clear hz hc hbk
      have hbS : b < w.heap.size → S b := fun h => by
        rcases hS5.out _ hSb with h1 | h1
        · exact h1
        · omega
      have hu8 : Upd (fun k => k = b) w7 (((((w7.setCell ⟨b, q * 15 + 2, none⟩ (.int .i64 m.bal.rd)).setCell ⟨b, q * 15 + 3, none⟩ (.int .i64 m.bal.nd)).setCell ⟨b, q * 15 + 4, none⟩ (.int .i64 m.bal.rd)).setCell ⟨b, q * 15 + 5, none⟩ (.int .i64 m.bal.nd)).setCell ⟨b, q * 15 + 6, none⟩ (.string m.text)) := ((((((Upd.refl (fun k => k = b) w7).setCell (p := ⟨b, q * 15 + 2, none⟩) (fun _ => rfl) (.int .i64 m.bal.rd)).setCell (p := ⟨b, q * 15 + 3, none⟩) (fun _ => rfl) (.int .i64 m.bal.nd)).setCell (p := ⟨b, q * 15 + 4, none⟩) (fun _ => rfl) (.int .i64 m.bal.rd)).setCell (p := ⟨b, q * 15 + 5, none⟩) (fun _ => rfl) (.int .i64 m.bal.nd)).setCell (p := ⟨b, q * 15 + 6, none⟩) (fun _ => rfl) (.string m.text))
      have L8 : Hid (RSl S5 (((((w7.setCell ⟨b, q * 15 + 2, none⟩ (.int .i64 m.bal.rd)).setCell ⟨b, q * 15 + 3, none⟩ (.int .i64 m.bal.nd)).setCell ⟨b, q * 15 + 4, none⟩ (.int .i64 m.bal.rd)).setCell ⟨b, q * 15 + 5, none⟩ (.int .i64 m.bal.nd)).setCell ⟨b, q * 15 + 6, none⟩ (.string m.text)) r (some ⟨b0, o0, none⟩) cn2 Am2 cm2 G2 i m.slot b { x with rd := maxI x.rd m.bal.rd, prom := m.bal, accd := ⟨m.bal, m.text⟩ }) := hid (L7.out.put HI2.out HO.out HQ.out hu8 (by simp) fun z hz => ⟨z, fun A B n c hr hA => (own_seg (f := 6) (own_seg (f := 5) (own_seg (f := 4) (own_seg (f := 3) (own_seg (f := 2) hr hA (by simp [rcells]) (.int .i64 m.bal.rd)) hA (by simp [rcells]) (.int .i64 m.bal.nd)) hA (by simp [rcells]) (.int .i64 m.bal.rd)) hA (by simp [rcells]) (.int .i64 m.bal.nd)) hA (by simp [rcells]) (.string m.text)), fun d hd => hz d hd, fun hs k hk => ⟨hs, hk⟩⟩)
      have K8 : Hid (Blk (((((w7.setCell ⟨b, q * 15 + 2, none⟩ (.int .i64 m.bal.rd)).setCell ⟨b, q * 15 + 3, none⟩ (.int .i64 m.bal.nd)).setCell ⟨b, q * 15 + 4, none⟩ (.int .i64 m.bal.rd)).setCell ⟨b, q * 15 + 5, none⟩ (.int .i64 m.bal.nd)).setCell ⟨b, q * 15 + 6, none⟩ (.string m.text)) w.heap.size 78 #[.int .i64 3, .int .i64 m.fr, .int .i64 m.dst, .int .i64 m.slot, .int .i64 m.bal.rd, .int .i64 m.bal.nd, .int .i64 m.had.rd, .int .i64 m.had.nd, .string m.text]) := hid (K7.out.upd hu8 fun e => hSw (by rw [e]; exact hSb))
      have U8 : Hid (Upd S w (((((w7.setCell ⟨b, q * 15 + 2, none⟩ (.int .i64 m.bal.rd)).setCell ⟨b, q * 15 + 3, none⟩ (.int .i64 m.bal.nd)).setCell ⟨b, q * 15 + 4, none⟩ (.int .i64 m.bal.rd)).setCell ⟨b, q * 15 + 5, none⟩ (.int .i64 m.bal.nd)).setCell ⟨b, q * 15 + 6, none⟩ (.string m.text))) := hid (((((U7.out.setCell (p := ⟨b, q * 15 + 2, none⟩) hbS (.int .i64 m.bal.rd)).setCell (p := ⟨b, q * 15 + 3, none⟩) hbS (.int .i64 m.bal.nd)).setCell (p := ⟨b, q * 15 + 4, none⟩) hbS (.int .i64 m.bal.rd)).setCell (p := ⟨b, q * 15 + 5, none⟩) hbS (.int .i64 m.bal.nd)).setCell (p := ⟨b, q * 15 + 6, none⟩) hbS (.string m.text))
      go_upto_region 23 with fail
      clear s2 s3 s4 s5 s6 s7 s8 e0 e1 e2 e3 e4 e5 e6 e7 e8 ff L7 K7 U7 hu8
      generalize (((((w7.setCell ⟨b, q * 15 + 2, none⟩ (.int .i64 m.bal.rd)).setCell ⟨b, q * 15 + 3, none⟩ (.int .i64 m.bal.nd)).setCell ⟨b, q * 15 + 4, none⟩ (.int .i64 m.bal.rd)).setCell ⟨b, q * 15 + 5, none⟩ (.int .i64 m.bal.nd)).setCell ⟨b, q * 15 + 6, none⟩ (.string m.text)) = w8 at *
      obtain ⟨z, hz, hc, ⟨cs, hbk⟩, _, _⟩ := L8.out.cells HI2.out HO.out HQ.out
      have e0 : w8.cell? ⟨w.heap.size, 0, none⟩ = some (.int .i64 3) := K8.out.cell 0
      have e1 : w8.cell? ⟨w.heap.size, 1, none⟩ = some (.int .i64 m.fr) := K8.out.cell 1
      have e2 : w8.cell? ⟨w.heap.size, 2, none⟩ = some (.int .i64 m.dst) := K8.out.cell 2
      have e3 : w8.cell? ⟨w.heap.size, 3, none⟩ = some (.int .i64 m.slot) := K8.out.cell 3
      have e4 : w8.cell? ⟨w.heap.size, 4, none⟩ = some (.int .i64 m.bal.rd) := K8.out.cell 4
      have e5 : w8.cell? ⟨w.heap.size, 5, none⟩ = some (.int .i64 m.bal.nd) := K8.out.cell 5
      have e6 : w8.cell? ⟨w.heap.size, 6, none⟩ = some (.int .i64 m.had.rd) := K8.out.cell 6
      have e7 : w8.cell? ⟨w.heap.size, 7, none⟩ = some (.int .i64 m.had.nd) := K8.out.cell 7
      have e8 : w8.cell? ⟨w.heap.size, 8, none⟩ = some (.string m.text) := K8.out.cell 8
      have ff : ∀ j, w8.frozen? ⟨b, j, none⟩ = false := fun j => hbk.frozen j
      clear hz hc hbk
      go_wp2_with fail
      refine (rsend_any ⟨4, m.dst, m.bal.nd, m.slot, m.bal, bal0, ⟨#[]⟩⟩ (L8.out.at_)).mono ?_
      rintro e w9 ⟨rfl, hgo⟩
      have hfin := hid (hend.out w8 _ _ K8.out U8.out hgo hH.out)
      clear hgo
      go_wp2_with fail
      go_ret
      exact ⟨rfl, hfin.out⟩
set_option maxRecDepth 100000 in
set_option maxHeartbeats 4000000 in
theorem rdeliver_2 (k : Nat) (m : Ml) (i : Nat) (h : RAt S w r G) (hk : k < G.mail.length) (hm : G.mail[k] = m) (hi00 : m.dst = (i : Int)) (hi : i < G.nds.length) (hs : 0 ≤ m.slot ∧ m.slot ≤ 1000) (hN : G.nds.length ≤ 9) (hl : G.mail.length ≤ 100000) (hf : ∀ j, (G.nd j).sl.length ≤ 900) (hK : m.kind = 2) (hup : (G.nd i).up = true) (hbd : ∀ d, (G.at_ i m.slot).bid = some d → d.ans.length ≤ G.nds.length / 2) : Calls Try.prog 45 #[.pointer (some ⟨r, 0, none⟩), .int .i64 k] w fun e w' => e = .returned (.bool true) ∧ ∃ G', G.Deliver k m G' ∧ RGo S w r G' w' := by
  have HBD := hid hbd
  clear hbd
  have hB1 : Below w.heap.size w (w.alloc (.cells #[.int .i64 2, .int .i64 m.fr, .int .i64 m.dst, .int .i64 m.slot, .int .i64 m.bal.rd, .int .i64 m.bal.nd, .int .i64 m.had.rd, .int .i64 m.had.nd, .string m.text] 78)) := (Below.refl _ _).alloc (Nat.le_refl _) _
  have kb1 := Blk.new w 78 #[.int .i64 2, .int .i64 m.fr, .int .i64 m.dst, .int .i64 m.slot, .int .i64 m.bal.rd, .int .i64 m.bal.nd, .int .i64 m.had.rd, .int .i64 m.had.nd, .string m.text]
  have hRA := h.below hB1
  obtain ⟨An, cn, Am, cm, a, q⟩ := h
  have hSlt := q.lt
  obtain ⟨c0, c1⟩ := q.cells
  obtain ⟨gr, cur, rfl, hgr⟩ := own_formS q.mrow.1 (by omega)
  have m0 : w.cell? ⟨gr, k * 9, none⟩ = some (.int .i64 2) := by
    rw [q.mrow.1.cellAt _ (by omega)]
    exact (mcells_at _ k 0 hk (by omega)).trans (by rw [hm, Ml.cells, hK]; rfl)
  have m1 : w.cell? ⟨gr, k * 9 + 1, none⟩ = some (.int .i64 m.fr) := by
    rw [q.mrow.1.cellAt _ (by omega)]
    exact (mcells_at _ k 1 hk (by omega)).trans (by rw [hm]; rfl)
  have m2 : w.cell? ⟨gr, k * 9 + 2, none⟩ = some (.int .i64 m.dst) := by
    rw [q.mrow.1.cellAt _ (by omega)]
    exact (mcells_at _ k 2 hk (by omega)).trans (by rw [hm]; rfl)
  have m3 : w.cell? ⟨gr, k * 9 + 3, none⟩ = some (.int .i64 m.slot) := by
    rw [q.mrow.1.cellAt _ (by omega)]
    exact (mcells_at _ k 3 hk (by omega)).trans (by rw [hm]; rfl)
  have m4 : w.cell? ⟨gr, k * 9 + 4, none⟩ = some (.int .i64 m.bal.rd) := by
    rw [q.mrow.1.cellAt _ (by omega)]
    exact (mcells_at _ k 4 hk (by omega)).trans (by rw [hm]; rfl)
  have m5 : w.cell? ⟨gr, k * 9 + 5, none⟩ = some (.int .i64 m.bal.nd) := by
    rw [q.mrow.1.cellAt _ (by omega)]
    exact (mcells_at _ k 5 hk (by omega)).trans (by rw [hm]; rfl)
  have m6 : w.cell? ⟨gr, k * 9 + 6, none⟩ = some (.int .i64 m.had.rd) := by
    rw [q.mrow.1.cellAt _ (by omega)]
    exact (mcells_at _ k 6 hk (by omega)).trans (by rw [hm]; rfl)
  have m7 : w.cell? ⟨gr, k * 9 + 7, none⟩ = some (.int .i64 m.had.nd) := by
    rw [q.mrow.1.cellAt _ (by omega)]
    exact (mcells_at _ k 7 hk (by omega)).trans (by rw [hm]; rfl)
  have m8 : w.cell? ⟨gr, k * 9 + 8, none⟩ = some (.string m.text) := by
    rw [q.mrow.1.cellAt _ (by omega)]
    exact (mcells_at _ k 8 hk (by omega)).trans (by rw [hm]; rfl)
  have t1 : decide ((k : Int) < 0) = false := by simp
  have t2 : decide ((G.mail.length : Int) ≤ (k : Int)) = false := decide_eq_false (by omega)
  have t3 : decide (G.mail.length ≤ k) = false := decide_eq_false (by omega)
  have i1 : (k : Int) < (G.mail.length : Int) := by omega
  have hgn : G.drop (k : Int) = G.gone k := by unfold Gr.drop; rw [if_pos ⟨by omega, by omega⟩, Int.toNat_natCast]
  have hdr0 := rdrop_ex (k : Int) hRA hl
  rw [hgn] at hdr0
  have hdr := hid hdr0
  have HM := hid hm; have HI := hid hi00; have HF := hid hf; have HK := hid hK; have HHi := hid hi; have HUP := hid hup
  clear q hdr0 hgn hRA hm hgr hi00 hf hK hup
  go_enter Try.func45, Try.ntmps45
  go_upto_region 4 with fail
  clear m0 m1 m2 m3 m4 m5 m6 m7 m8 c0 c1
  generalize (w.alloc (.cells #[.int .i64 2, .int .i64 m.fr, .int .i64 m.dst, .int .i64 m.slot, .int .i64 m.bal.rd, .int .i64 m.bal.nd, .int .i64 m.had.rd, .int .i64 m.had.nd, .string m.text] 78)) = w1 at *
  have hz1 := kb1.lt
  go_wp2_with fail
  refine hdr.out.mono ?_
  rintro e w2 ⟨rfl, S2, h2, hS2, hu2⟩
  have hS2w : ¬ S2 w.heap.size := fun h => by
    rcases hS2 _ h with h | h
    · exact absurd (hSlt _ h) (Nat.lt_irrefl _)
    · omega
  have kb2 := kb1.upd hu2 fun h => absurd (hSlt _ h) (Nat.lt_irrefl _)
  obtain ⟨An2, cn2, Am2, cm2, a2, q2⟩ := h2
  obtain ⟨G1, hG1⟩ : ∃ G1, G1 = G.gone k := ⟨_, rfl⟩
  rw [← hG1] at q2
  have hlen0 : G1.nds.length = G.nds.length := by rw [hG1]; rfl
  have hnd0 : ∀ j, G1.nd j = G.nd j := fun j => by rw [hG1]; rfl
  have hGG := hid hG1
  have hi1 : i < G1.nds.length := by omega
  have i3 : (i : Int) < (G1.nds.length : Int) := by omega
  have i0 : (0 : Int) ≤ (i : Int) := by omega
  obtain ⟨b0, o0, rfl, hbl, xp⟩ := q2.ptr hi1
  obtain ⟨c0, c1⟩ := q2.cells
  obtain ⟨n1, n2, n3, n4⟩ := q2.nd i hi1
  have xu : w2.cell? ⟨a2.nb i, 0, none⟩ = some (.bool true) := by have := n1.cell 0; rwa [hnd0, HUP.out] at this
  have x2 : w2.cell? ⟨w.heap.size, 2, none⟩ = some (.int .i64 (i : Int)) := by rw [← HI.out]; exact kb2.cell 2
  have hsl := hid (fun (n : Nat) => rslot_any i m.slot (q2.below (below_drewN (Below.refl _ w2) n)) hi1 (by rw [hnd0]; have := HF.out i; omega))
  have hkb := hid (fun (n : Nat) => kb2.below_all (below_drewN (Below.refl _ w2) n))
  have hU2 : Hid (Upd S w w2) := hid ((Upd.of_below' hB1 S).trans hu2 fun _ _ h => h)
  have hz24 := hid hu2.size
  have hz1' := hid hz1
  have hLN := hid (show (∀ j, G1.nd j = G.nd j) ∧ G1.nds.length = G.nds.length from ⟨hnd0, hlen0⟩)
  have xu' : ∀ n, (w2.drewN n).cell? ⟨a2.nb i, 0, none⟩ = some (.bool true) := fun _ => xu
  have x3' : ∀ n, (w2.drewN n).cell? ⟨w.heap.size, 3, none⟩ = some (.int .i64 m.slot) := fun _ => kb2.cell 3
  have HS2 := hid hS2; have hS2w' := hid hS2w
  clear q2 n1 n2 n3 n4 hlen0 hnd0 hG1 kb1 kb2 hu2 hB1 hdr hS2 hS2w t1 t2 t3 i1
  go_wp2_with fail
  go_quiet (fail)
  have xu4 := xu' nq
  have x34 := x3' nq
  have hU3 := hid (hU2.out.drewN nq)
  have hsl3 := hid (hsl.out nq)
  have hkb3 := hid (hkb.out nq)
  have hz23 : (w2.drewN nq).heap.size = w2.heap.size := rfl
  clear xu xu' x3' x2 xp c0 c1 hU2 hsl hkb
  generalize w2.drewN nq = w3 at *
  go_wp2_with fail
  refine hsl3.out.mono ?_
  rintro e w5 ⟨b, q, rfl, S5, a5, q5, hS5, hu5, hA5, hnb5, hsq⟩
  have hat : (G1.touch i m.slot).at_ i m.slot = G1.at_ i m.slot := Gr.at_touch _ _ _ _ _ (by rw [hLN.out.2]; exact HHi.out)
  rw [hat] at hsq
  have hfinal : Hid (∀ G', (G1.touch i m.slot).Handle i m.slot (G1.at_ i m.slot) m G' → G.Deliver k m G') := hid (fun G' hP => by
    unfold Gr.Deliver
    rw [if_pos (by rw [HI.out, Int.toNat_natCast]; exact HUP.out), HI.out, Int.toNat_natCast, ← hGG.out]
    exact hP)
  have hL2 : Hid ((G1.touch i m.slot).nds.length = G.nds.length) := hid (by rw [Gr.touch_len, hLN.out.2])
  have hst : Hid (G1.at_ i m.slot = G.at_ i m.slot) := hid (by rw [hGG.out]; rfl)
  have hTL : Hid (∀ j, ((G1.touch i m.slot).nd j).sl.length ≤ 1000) := hid (fun j => by
    have h1 := touch_few G1 i j m.slot (by rw [hLN.out.2]; exact HHi.out)
    rw [hLN.out.1] at h1
    have := HF.out j
    omega)
  have hTS : Hid (∀ n t, (G1.touch i m.slot).st n t = G.st n t) := hid (fun n t => by
    unfold Gr.st
    rw [Gr.touch_len, hLN.out.2]
    rw [Gr.at_touch _ _ _ _ _ (by rw [hLN.out.2]; exact HHi.out), hGG.out]
    rfl)
  rw [← hst.out] at HBD
  generalize G1.touch i m.slot = G2 at *
  generalize G1.at_ i m.slot = x at *
  have HI2 : Hid (i < G2.nds.length) := hid (by rw [hL2.out]; exact HHi.out)
  have HO : Hid (Once (G2.nd i).sl) := hid (q5.nd i HI2.out).2.2.2
  have HQ := hid hsq
  have KB : Hid (Blk w5 w.heap.size 78 #[.int .i64 2, .int .i64 m.fr, .int .i64 m.dst, .int .i64 m.slot, .int .i64 m.bal.rd, .int .i64 m.bal.nd, .int .i64 m.had.rd, .int .i64 m.had.nd, .string m.text]) := hid (hkb3.out.upd hu5 hS2w'.out)
  have hS5 : Hid (∀ k, S5 k → S k ∨ w.heap.size + 1 ≤ k) := hid (fun k hk => by
    have h1 := hz1'.out
    have h2 := hz24.out
    rcases hS5 k hk with h | h
    · exact (HS2.out k h).imp id (by omega)
    · exact .inr (by omega))
  have HU : Hid (Upd S w w5) := hid (hU3.out.trans hu5 fun k hk h => by
    rcases HS2.out k h with h | h
    · exact h
    · have := hz1'.out; omega)
  have hSw : ¬ S5 w.heap.size := fun h => by
    rcases hS5.out _ h with h | h
    · exact absurd (hSlt _ h) (Nat.lt_irrefl _)
    · omega
  have hend : Hid (∀ (w6 : World) G' w', Blk w6 w.heap.size 78 #[.int .i64 2, .int .i64 m.fr, .int .i64 m.dst, .int .i64 m.slot, .int .i64 m.bal.rd, .int .i64 m.bal.nd, .int .i64 m.had.rd, .int .i64 m.had.nd, .string m.text] → Upd S w w6 → RGo S5 w6 r G' w' → G2.Handle i m.slot x m G' → ∃ G', G.Deliver k m G' ∧ RGo S w r G' w') := hid (fun w6 G' w' hkb hu6 hgo hH => ⟨G', hfinal.out _ hH, RGo.then ⟨S5, fun k hk => (hS5.out k hk).imp id (by omega), hu6, hgo⟩⟩)
  have L0 : Hid (RSl S5 w5 r (some ⟨b0, o0, none⟩) cn2 Am2 cm2 G2 i m.slot b x) := hid ⟨a5, by rw [Gr.set_same HI2.out (HO.out.get (List.mem_of_getElem? hsq))]; exact q5, hA5⟩
  have hq5 := hid q5; have hA5' := hid hA5
  have hSb : S5 b := by
    obtain ⟨_, _, _, _, h, _⟩ := L0.out.cells HI2.out HO.out HQ.out
    exact h
  clear xu4 x34 hsl3 hkb3 hU3 hu5 hsq hat hnb5 HS2 hz23 q5 hA5
  have e0 : w5.cell? ⟨w.heap.size, 0, none⟩ = some (.int .i64 2) := KB.out.cell 0
  have e1 : w5.cell? ⟨w.heap.size, 1, none⟩ = some (.int .i64 m.fr) := KB.out.cell 1
  have e2 : w5.cell? ⟨w.heap.size, 2, none⟩ = some (.int .i64 m.dst) := KB.out.cell 2
  have e3 : w5.cell? ⟨w.heap.size, 3, none⟩ = some (.int .i64 m.slot) := KB.out.cell 3
  have e4 : w5.cell? ⟨w.heap.size, 4, none⟩ = some (.int .i64 m.bal.rd) := KB.out.cell 4
  have e5 : w5.cell? ⟨w.heap.size, 5, none⟩ = some (.int .i64 m.bal.nd) := KB.out.cell 5
  have e6 : w5.cell? ⟨w.heap.size, 6, none⟩ = some (.int .i64 m.had.rd) := KB.out.cell 6
  have e7 : w5.cell? ⟨w.heap.size, 7, none⟩ = some (.int .i64 m.had.nd) := KB.out.cell 7
  have e8 : w5.cell? ⟨w.heap.size, 8, none⟩ = some (.string m.text) := KB.out.cell 8
  go_wp2_with fail
  go_quiet (fail)
  have hb := hid (below_drewN (Below.refl w5.heap.size w5) nq)
  have Q6 := hid (hq5.out.below hb.out)
  have K6 := hid (KB.out.below_all hb.out)
  have U6 := hid (HU.out.drewN nq)
  have L6 := hid (L0.out.far (M := Nil) (.of_below' hb.out _) fun _ _ => id)
  clear e0 e1 e2 e3 e4 e5 e6 e7 e8 L0 KB HU hq5 hb
  generalize w5.drewN nq = w6 at *
  have e0 : w6.cell? ⟨w.heap.size, 0, none⟩ = some (.int .i64 2) := K6.out.cell 0
  have e1 : w6.cell? ⟨w.heap.size, 1, none⟩ = some (.int .i64 m.fr) := K6.out.cell 1
  have e2 : w6.cell? ⟨w.heap.size, 2, none⟩ = some (.int .i64 m.dst) := K6.out.cell 2
  have e3 : w6.cell? ⟨w.heap.size, 3, none⟩ = some (.int .i64 m.slot) := K6.out.cell 3
  have e4 : w6.cell? ⟨w.heap.size, 4, none⟩ = some (.int .i64 m.bal.rd) := K6.out.cell 4
  have e5 : w6.cell? ⟨w.heap.size, 5, none⟩ = some (.int .i64 m.bal.nd) := K6.out.cell 5
  have e6 : w6.cell? ⟨w.heap.size, 6, none⟩ = some (.int .i64 m.had.rd) := K6.out.cell 6
  have e7 : w6.cell? ⟨w.heap.size, 7, none⟩ = some (.int .i64 m.had.nd) := K6.out.cell 7
  have e8 : w6.cell? ⟨w.heap.size, 8, none⟩ = some (.string m.text) := K6.out.cell 8
  have hcl0 := rpromise_any m x i m.slot Q6.out HI2.out HQ.out hA5'.out (by rw [hL2.out]; exact hN) (by rw [hL2.out]; exact HBD.out)
  rw [HK.out] at hcl0
  have hcl := hid hcl0
  clear hcl0
  go_wp2_with fail
  refine hcl.out.mono ?_
  rintro e w9 ⟨rfl, G7, hP, hgo⟩
  have hfin := hid (hend.out w6 _ _ K6.out U6.out hgo (by unfold Gr.Handle; rw [if_neg (by rw [HK.out]; decide), if_pos HK.out]; exact hP))
  clear hgo
  go_wp2_with fail
  go_ret
  exact ⟨rfl, hfin.out⟩
set_option maxRecDepth 100000 in
set_option maxHeartbeats 4000000 in
theorem rdeliver_4 (k : Nat) (m : Ml) (i : Nat) (h : RAt S w r G) (hk : k < G.mail.length) (hm : G.mail[k] = m) (hi00 : m.dst = (i : Int)) (hi : i < G.nds.length) (hs : 0 ≤ m.slot ∧ m.slot ≤ 1000) (hN : G.nds.length ≤ 9) (hl : G.mail.length ≤ 100000) (hf : ∀ j, (G.nd j).sl.length ≤ 900) (hK : m.kind = 4) (hup : (G.nd i).up = true) (hbd : ∀ d, (G.at_ i m.slot).bid = some d → d.ans.length ≤ G.nds.length / 2) : Calls Try.prog 45 #[.pointer (some ⟨r, 0, none⟩), .int .i64 k] w fun e w' => e = .returned (.bool true) ∧ ∃ G', G.Deliver k m G' ∧ RGo S w r G' w' := by
  have HBD := hid hbd
  clear hbd
  have hB1 : Below w.heap.size w (w.alloc (.cells #[.int .i64 4, .int .i64 m.fr, .int .i64 m.dst, .int .i64 m.slot, .int .i64 m.bal.rd, .int .i64 m.bal.nd, .int .i64 m.had.rd, .int .i64 m.had.nd, .string m.text] 78)) := (Below.refl _ _).alloc (Nat.le_refl _) _
  have kb1 := Blk.new w 78 #[.int .i64 4, .int .i64 m.fr, .int .i64 m.dst, .int .i64 m.slot, .int .i64 m.bal.rd, .int .i64 m.bal.nd, .int .i64 m.had.rd, .int .i64 m.had.nd, .string m.text]
  have hRA := h.below hB1
  obtain ⟨An, cn, Am, cm, a, q⟩ := h
  have hSlt := q.lt
  obtain ⟨c0, c1⟩ := q.cells
  obtain ⟨gr, cur, rfl, hgr⟩ := own_formS q.mrow.1 (by omega)
  have m0 : w.cell? ⟨gr, k * 9, none⟩ = some (.int .i64 4) := by
    rw [q.mrow.1.cellAt _ (by omega)]
    exact (mcells_at _ k 0 hk (by omega)).trans (by rw [hm, Ml.cells, hK]; rfl)
  have m1 : w.cell? ⟨gr, k * 9 + 1, none⟩ = some (.int .i64 m.fr) := by
    rw [q.mrow.1.cellAt _ (by omega)]
    exact (mcells_at _ k 1 hk (by omega)).trans (by rw [hm]; rfl)
  have m2 : w.cell? ⟨gr, k * 9 + 2, none⟩ = some (.int .i64 m.dst) := by
    rw [q.mrow.1.cellAt _ (by omega)]
    exact (mcells_at _ k 2 hk (by omega)).trans (by rw [hm]; rfl)
  have m3 : w.cell? ⟨gr, k * 9 + 3, none⟩ = some (.int .i64 m.slot) := by
    rw [q.mrow.1.cellAt _ (by omega)]
    exact (mcells_at _ k 3 hk (by omega)).trans (by rw [hm]; rfl)
  have m4 : w.cell? ⟨gr, k * 9 + 4, none⟩ = some (.int .i64 m.bal.rd) := by
    rw [q.mrow.1.cellAt _ (by omega)]
    exact (mcells_at _ k 4 hk (by omega)).trans (by rw [hm]; rfl)
  have m5 : w.cell? ⟨gr, k * 9 + 5, none⟩ = some (.int .i64 m.bal.nd) := by
    rw [q.mrow.1.cellAt _ (by omega)]
    exact (mcells_at _ k 5 hk (by omega)).trans (by rw [hm]; rfl)
  have m6 : w.cell? ⟨gr, k * 9 + 6, none⟩ = some (.int .i64 m.had.rd) := by
    rw [q.mrow.1.cellAt _ (by omega)]
    exact (mcells_at _ k 6 hk (by omega)).trans (by rw [hm]; rfl)
  have m7 : w.cell? ⟨gr, k * 9 + 7, none⟩ = some (.int .i64 m.had.nd) := by
    rw [q.mrow.1.cellAt _ (by omega)]
    exact (mcells_at _ k 7 hk (by omega)).trans (by rw [hm]; rfl)
  have m8 : w.cell? ⟨gr, k * 9 + 8, none⟩ = some (.string m.text) := by
    rw [q.mrow.1.cellAt _ (by omega)]
    exact (mcells_at _ k 8 hk (by omega)).trans (by rw [hm]; rfl)
  have t1 : decide ((k : Int) < 0) = false := by simp
  have t2 : decide ((G.mail.length : Int) ≤ (k : Int)) = false := decide_eq_false (by omega)
  have t3 : decide (G.mail.length ≤ k) = false := decide_eq_false (by omega)
  have i1 : (k : Int) < (G.mail.length : Int) := by omega
  have hgn : G.drop (k : Int) = G.gone k := by unfold Gr.drop; rw [if_pos ⟨by omega, by omega⟩, Int.toNat_natCast]
  have hdr0 := rdrop_ex (k : Int) hRA hl
  rw [hgn] at hdr0
  have hdr := hid hdr0
  have HM := hid hm; have HI := hid hi00; have HF := hid hf; have HK := hid hK; have HHi := hid hi; have HUP := hid hup
  clear q hdr0 hgn hRA hm hgr hi00 hf hK hup
  go_enter Try.func45, Try.ntmps45
  go_upto_region 4 with fail
  clear m0 m1 m2 m3 m4 m5 m6 m7 m8 c0 c1
  generalize (w.alloc (.cells #[.int .i64 4, .int .i64 m.fr, .int .i64 m.dst, .int .i64 m.slot, .int .i64 m.bal.rd, .int .i64 m.bal.nd, .int .i64 m.had.rd, .int .i64 m.had.nd, .string m.text] 78)) = w1 at *
  have hz1 := kb1.lt
  go_wp2_with fail
  refine hdr.out.mono ?_
  rintro e w2 ⟨rfl, S2, h2, hS2, hu2⟩
  have hS2w : ¬ S2 w.heap.size := fun h => by
    rcases hS2 _ h with h | h
    · exact absurd (hSlt _ h) (Nat.lt_irrefl _)
    · omega
  have kb2 := kb1.upd hu2 fun h => absurd (hSlt _ h) (Nat.lt_irrefl _)
  obtain ⟨An2, cn2, Am2, cm2, a2, q2⟩ := h2
  obtain ⟨G1, hG1⟩ : ∃ G1, G1 = G.gone k := ⟨_, rfl⟩
  rw [← hG1] at q2
  have hlen0 : G1.nds.length = G.nds.length := by rw [hG1]; rfl
  have hnd0 : ∀ j, G1.nd j = G.nd j := fun j => by rw [hG1]; rfl
  have hGG := hid hG1
  have hi1 : i < G1.nds.length := by omega
  have i3 : (i : Int) < (G1.nds.length : Int) := by omega
  have i0 : (0 : Int) ≤ (i : Int) := by omega
  obtain ⟨b0, o0, rfl, hbl, xp⟩ := q2.ptr hi1
  obtain ⟨c0, c1⟩ := q2.cells
  obtain ⟨n1, n2, n3, n4⟩ := q2.nd i hi1
  have xu : w2.cell? ⟨a2.nb i, 0, none⟩ = some (.bool true) := by have := n1.cell 0; rwa [hnd0, HUP.out] at this
  have x2 : w2.cell? ⟨w.heap.size, 2, none⟩ = some (.int .i64 (i : Int)) := by rw [← HI.out]; exact kb2.cell 2
  have hsl := hid (fun (n : Nat) => rslot_any i m.slot (q2.below (below_drewN (Below.refl _ w2) n)) hi1 (by rw [hnd0]; have := HF.out i; omega))
  have hkb := hid (fun (n : Nat) => kb2.below_all (below_drewN (Below.refl _ w2) n))
  have hU2 : Hid (Upd S w w2) := hid ((Upd.of_below' hB1 S).trans hu2 fun _ _ h => h)
  have hz24 := hid hu2.size
  have hz1' := hid hz1
  have hLN := hid (show (∀ j, G1.nd j = G.nd j) ∧ G1.nds.length = G.nds.length from ⟨hnd0, hlen0⟩)
  have xu' : ∀ n, (w2.drewN n).cell? ⟨a2.nb i, 0, none⟩ = some (.bool true) := fun _ => xu
  have x3' : ∀ n, (w2.drewN n).cell? ⟨w.heap.size, 3, none⟩ = some (.int .i64 m.slot) := fun _ => kb2.cell 3
  have HS2 := hid hS2; have hS2w' := hid hS2w
  clear q2 n1 n2 n3 n4 hlen0 hnd0 hG1 kb1 kb2 hu2 hB1 hdr hS2 hS2w t1 t2 t3 i1
  go_wp2_with fail
  go_quiet (fail)
  have xu4 := xu' nq
  have x34 := x3' nq
  have hU3 := hid (hU2.out.drewN nq)
  have hsl3 := hid (hsl.out nq)
  have hkb3 := hid (hkb.out nq)
  have hz23 : (w2.drewN nq).heap.size = w2.heap.size := rfl
  clear xu xu' x3' x2 xp c0 c1 hU2 hsl hkb
  generalize w2.drewN nq = w3 at *
  go_wp2_with fail
  refine hsl3.out.mono ?_
  rintro e w5 ⟨b, q, rfl, S5, a5, q5, hS5, hu5, hA5, hnb5, hsq⟩
  have hat : (G1.touch i m.slot).at_ i m.slot = G1.at_ i m.slot := Gr.at_touch _ _ _ _ _ (by rw [hLN.out.2]; exact HHi.out)
  rw [hat] at hsq
  have hfinal : Hid (∀ G', (G1.touch i m.slot).Handle i m.slot (G1.at_ i m.slot) m G' → G.Deliver k m G') := hid (fun G' hP => by
    unfold Gr.Deliver
    rw [if_pos (by rw [HI.out, Int.toNat_natCast]; exact HUP.out), HI.out, Int.toNat_natCast, ← hGG.out]
    exact hP)
  have hL2 : Hid ((G1.touch i m.slot).nds.length = G.nds.length) := hid (by rw [Gr.touch_len, hLN.out.2])
  have hst : Hid (G1.at_ i m.slot = G.at_ i m.slot) := hid (by rw [hGG.out]; rfl)
  have hTL : Hid (∀ j, ((G1.touch i m.slot).nd j).sl.length ≤ 1000) := hid (fun j => by
    have h1 := touch_few G1 i j m.slot (by rw [hLN.out.2]; exact HHi.out)
    rw [hLN.out.1] at h1
    have := HF.out j
    omega)
  have hTS : Hid (∀ n t, (G1.touch i m.slot).st n t = G.st n t) := hid (fun n t => by
    unfold Gr.st
    rw [Gr.touch_len, hLN.out.2]
    rw [Gr.at_touch _ _ _ _ _ (by rw [hLN.out.2]; exact HHi.out), hGG.out]
    rfl)
  rw [← hst.out] at HBD
  generalize G1.touch i m.slot = G2 at *
  generalize G1.at_ i m.slot = x at *
  have HI2 : Hid (i < G2.nds.length) := hid (by rw [hL2.out]; exact HHi.out)
  have HO : Hid (Once (G2.nd i).sl) := hid (q5.nd i HI2.out).2.2.2
  have HQ := hid hsq
  have KB : Hid (Blk w5 w.heap.size 78 #[.int .i64 4, .int .i64 m.fr, .int .i64 m.dst, .int .i64 m.slot, .int .i64 m.bal.rd, .int .i64 m.bal.nd, .int .i64 m.had.rd, .int .i64 m.had.nd, .string m.text]) := hid (hkb3.out.upd hu5 hS2w'.out)
  have hS5 : Hid (∀ k, S5 k → S k ∨ w.heap.size + 1 ≤ k) := hid (fun k hk => by
    have h1 := hz1'.out
    have h2 := hz24.out
    rcases hS5 k hk with h | h
    · exact (HS2.out k h).imp id (by omega)
    · exact .inr (by omega))
  have HU : Hid (Upd S w w5) := hid (hU3.out.trans hu5 fun k hk h => by
    rcases HS2.out k h with h | h
    · exact h
    · have := hz1'.out; omega)
  have hSw : ¬ S5 w.heap.size := fun h => by
    rcases hS5.out _ h with h | h
    · exact absurd (hSlt _ h) (Nat.lt_irrefl _)
    · omega
  have hend : Hid (∀ (w6 : World) G' w', Blk w6 w.heap.size 78 #[.int .i64 4, .int .i64 m.fr, .int .i64 m.dst, .int .i64 m.slot, .int .i64 m.bal.rd, .int .i64 m.bal.nd, .int .i64 m.had.rd, .int .i64 m.had.nd, .string m.text] → Upd S w w6 → RGo S5 w6 r G' w' → G2.Handle i m.slot x m G' → ∃ G', G.Deliver k m G' ∧ RGo S w r G' w') := hid (fun w6 G' w' hkb hu6 hgo hH => ⟨G', hfinal.out _ hH, RGo.then ⟨S5, fun k hk => (hS5.out k hk).imp id (by omega), hu6, hgo⟩⟩)
  have L0 : Hid (RSl S5 w5 r (some ⟨b0, o0, none⟩) cn2 Am2 cm2 G2 i m.slot b x) := hid ⟨a5, by rw [Gr.set_same HI2.out (HO.out.get (List.mem_of_getElem? hsq))]; exact q5, hA5⟩
  have hq5 := hid q5; have hA5' := hid hA5
  have hSb : S5 b := by
    obtain ⟨_, _, _, _, h, _⟩ := L0.out.cells HI2.out HO.out HQ.out
    exact h
  clear xu4 x34 hsl3 hkb3 hU3 hu5 hsq hat hnb5 HS2 hz23 q5 hA5
  have e0 : w5.cell? ⟨w.heap.size, 0, none⟩ = some (.int .i64 4) := KB.out.cell 0
  have e1 : w5.cell? ⟨w.heap.size, 1, none⟩ = some (.int .i64 m.fr) := KB.out.cell 1
  have e2 : w5.cell? ⟨w.heap.size, 2, none⟩ = some (.int .i64 m.dst) := KB.out.cell 2
  have e3 : w5.cell? ⟨w.heap.size, 3, none⟩ = some (.int .i64 m.slot) := KB.out.cell 3
  have e4 : w5.cell? ⟨w.heap.size, 4, none⟩ = some (.int .i64 m.bal.rd) := KB.out.cell 4
  have e5 : w5.cell? ⟨w.heap.size, 5, none⟩ = some (.int .i64 m.bal.nd) := KB.out.cell 5
  have e6 : w5.cell? ⟨w.heap.size, 6, none⟩ = some (.int .i64 m.had.rd) := KB.out.cell 6
  have e7 : w5.cell? ⟨w.heap.size, 7, none⟩ = some (.int .i64 m.had.nd) := KB.out.cell 7
  have e8 : w5.cell? ⟨w.heap.size, 8, none⟩ = some (.string m.text) := KB.out.cell 8
  go_wp2_with fail
  go_quiet (fail)
  have hb := hid (below_drewN (Below.refl w5.heap.size w5) nq)
  have Q6 := hid (hq5.out.below hb.out)
  have K6 := hid (KB.out.below_all hb.out)
  have U6 := hid (HU.out.drewN nq)
  have L6 := hid (L0.out.far (M := Nil) (.of_below' hb.out _) fun _ _ => id)
  clear e0 e1 e2 e3 e4 e5 e6 e7 e8 L0 KB HU hq5 hb
  generalize w5.drewN nq = w6 at *
  have e0 : w6.cell? ⟨w.heap.size, 0, none⟩ = some (.int .i64 4) := K6.out.cell 0
  have e1 : w6.cell? ⟨w.heap.size, 1, none⟩ = some (.int .i64 m.fr) := K6.out.cell 1
  have e2 : w6.cell? ⟨w.heap.size, 2, none⟩ = some (.int .i64 m.dst) := K6.out.cell 2
  have e3 : w6.cell? ⟨w.heap.size, 3, none⟩ = some (.int .i64 m.slot) := K6.out.cell 3
  have e4 : w6.cell? ⟨w.heap.size, 4, none⟩ = some (.int .i64 m.bal.rd) := K6.out.cell 4
  have e5 : w6.cell? ⟨w.heap.size, 5, none⟩ = some (.int .i64 m.bal.nd) := K6.out.cell 5
  have e6 : w6.cell? ⟨w.heap.size, 6, none⟩ = some (.int .i64 m.had.rd) := K6.out.cell 6
  have e7 : w6.cell? ⟨w.heap.size, 7, none⟩ = some (.int .i64 m.had.nd) := K6.out.cell 7
  have e8 : w6.cell? ⟨w.heap.size, 8, none⟩ = some (.string m.text) := K6.out.cell 8
  have hcl0 := raccepted_any m x i m.slot Q6.out HI2.out HQ.out hA5'.out (by rw [hL2.out]; exact hN) (by rw [hL2.out]; exact HBD.out)
  rw [HK.out] at hcl0
  have hcl := hid hcl0
  clear hcl0
  go_wp2_with fail
  refine hcl.out.mono ?_
  rintro e w9 ⟨rfl, hgo⟩
  have hfin := hid (hend.out w6 _ _ K6.out U6.out hgo (by unfold Gr.Handle; rw [if_neg (by rw [HK.out]; decide), if_neg (by rw [HK.out]; decide), if_neg (by rw [HK.out]; decide), if_pos HK.out]))
  clear hgo
  go_wp2_with fail
  go_ret
  exact ⟨rfl, hfin.out⟩
set_option maxRecDepth 100000 in
set_option maxHeartbeats 4000000 in
theorem rdeliver_5 (k : Nat) (m : Ml) (i : Nat) (h : RAt S w r G) (hk : k < G.mail.length) (hm : G.mail[k] = m) (hi00 : m.dst = (i : Int)) (hi : i < G.nds.length) (hs : 0 ≤ m.slot ∧ m.slot ≤ 1000) (hN : G.nds.length ≤ 9) (hl : G.mail.length ≤ 100000) (hf : ∀ j, (G.nd j).sl.length ≤ 900) (hK : m.kind = 5) (hup : (G.nd i).up = true) : Calls Try.prog 45 #[.pointer (some ⟨r, 0, none⟩), .int .i64 k] w fun e w' => e = .returned (.bool true) ∧ ∃ G', G.Deliver k m G' ∧ RGo S w r G' w' := by
  have hB1 : Below w.heap.size w (w.alloc (.cells #[.int .i64 5, .int .i64 m.fr, .int .i64 m.dst, .int .i64 m.slot, .int .i64 m.bal.rd, .int .i64 m.bal.nd, .int .i64 m.had.rd, .int .i64 m.had.nd, .string m.text] 78)) := (Below.refl _ _).alloc (Nat.le_refl _) _
  have kb1 := Blk.new w 78 #[.int .i64 5, .int .i64 m.fr, .int .i64 m.dst, .int .i64 m.slot, .int .i64 m.bal.rd, .int .i64 m.bal.nd, .int .i64 m.had.rd, .int .i64 m.had.nd, .string m.text]
  have hRA := h.below hB1
  obtain ⟨An, cn, Am, cm, a, q⟩ := h
  have hSlt := q.lt
  obtain ⟨c0, c1⟩ := q.cells
  obtain ⟨gr, cur, rfl, hgr⟩ := own_formS q.mrow.1 (by omega)
  have m0 : w.cell? ⟨gr, k * 9, none⟩ = some (.int .i64 5) := by
    rw [q.mrow.1.cellAt _ (by omega)]
    exact (mcells_at _ k 0 hk (by omega)).trans (by rw [hm, Ml.cells, hK]; rfl)
  have m1 : w.cell? ⟨gr, k * 9 + 1, none⟩ = some (.int .i64 m.fr) := by
    rw [q.mrow.1.cellAt _ (by omega)]
    exact (mcells_at _ k 1 hk (by omega)).trans (by rw [hm]; rfl)
  have m2 : w.cell? ⟨gr, k * 9 + 2, none⟩ = some (.int .i64 m.dst) := by
    rw [q.mrow.1.cellAt _ (by omega)]
    exact (mcells_at _ k 2 hk (by omega)).trans (by rw [hm]; rfl)
  have m3 : w.cell? ⟨gr, k * 9 + 3, none⟩ = some (.int .i64 m.slot) := by
    rw [q.mrow.1.cellAt _ (by omega)]
    exact (mcells_at _ k 3 hk (by omega)).trans (by rw [hm]; rfl)
  have m4 : w.cell? ⟨gr, k * 9 + 4, none⟩ = some (.int .i64 m.bal.rd) := by
    rw [q.mrow.1.cellAt _ (by omega)]
    exact (mcells_at _ k 4 hk (by omega)).trans (by rw [hm]; rfl)
  have m5 : w.cell? ⟨gr, k * 9 + 5, none⟩ = some (.int .i64 m.bal.nd) := by
    rw [q.mrow.1.cellAt _ (by omega)]
    exact (mcells_at _ k 5 hk (by omega)).trans (by rw [hm]; rfl)
  have m6 : w.cell? ⟨gr, k * 9 + 6, none⟩ = some (.int .i64 m.had.rd) := by
    rw [q.mrow.1.cellAt _ (by omega)]
    exact (mcells_at _ k 6 hk (by omega)).trans (by rw [hm]; rfl)
  have m7 : w.cell? ⟨gr, k * 9 + 7, none⟩ = some (.int .i64 m.had.nd) := by
    rw [q.mrow.1.cellAt _ (by omega)]
    exact (mcells_at _ k 7 hk (by omega)).trans (by rw [hm]; rfl)
  have m8 : w.cell? ⟨gr, k * 9 + 8, none⟩ = some (.string m.text) := by
    rw [q.mrow.1.cellAt _ (by omega)]
    exact (mcells_at _ k 8 hk (by omega)).trans (by rw [hm]; rfl)
  have t1 : decide ((k : Int) < 0) = false := by simp
  have t2 : decide ((G.mail.length : Int) ≤ (k : Int)) = false := decide_eq_false (by omega)
  have t3 : decide (G.mail.length ≤ k) = false := decide_eq_false (by omega)
  have i1 : (k : Int) < (G.mail.length : Int) := by omega
  have hgn : G.drop (k : Int) = G.gone k := by unfold Gr.drop; rw [if_pos ⟨by omega, by omega⟩, Int.toNat_natCast]
  have hdr0 := rdrop_ex (k : Int) hRA hl
  rw [hgn] at hdr0
  have hdr := hid hdr0
  have HM := hid hm; have HI := hid hi00; have HF := hid hf; have HK := hid hK; have HHi := hid hi; have HUP := hid hup
  clear q hdr0 hgn hRA hm hgr hi00 hf hK hup
  go_enter Try.func45, Try.ntmps45
  go_upto_region 4 with fail
  clear m0 m1 m2 m3 m4 m5 m6 m7 m8 c0 c1
  generalize (w.alloc (.cells #[.int .i64 5, .int .i64 m.fr, .int .i64 m.dst, .int .i64 m.slot, .int .i64 m.bal.rd, .int .i64 m.bal.nd, .int .i64 m.had.rd, .int .i64 m.had.nd, .string m.text] 78)) = w1 at *
  have hz1 := kb1.lt
  go_wp2_with fail
  refine hdr.out.mono ?_
  rintro e w2 ⟨rfl, S2, h2, hS2, hu2⟩
  have hS2w : ¬ S2 w.heap.size := fun h => by
    rcases hS2 _ h with h | h
    · exact absurd (hSlt _ h) (Nat.lt_irrefl _)
    · omega
  have kb2 := kb1.upd hu2 fun h => absurd (hSlt _ h) (Nat.lt_irrefl _)
  obtain ⟨An2, cn2, Am2, cm2, a2, q2⟩ := h2
  obtain ⟨G1, hG1⟩ : ∃ G1, G1 = G.gone k := ⟨_, rfl⟩
  rw [← hG1] at q2
  have hlen0 : G1.nds.length = G.nds.length := by rw [hG1]; rfl
  have hnd0 : ∀ j, G1.nd j = G.nd j := fun j => by rw [hG1]; rfl
  have hGG := hid hG1
  have hi1 : i < G1.nds.length := by omega
  have i3 : (i : Int) < (G1.nds.length : Int) := by omega
  have i0 : (0 : Int) ≤ (i : Int) := by omega
  obtain ⟨b0, o0, rfl, hbl, xp⟩ := q2.ptr hi1
  obtain ⟨c0, c1⟩ := q2.cells
  obtain ⟨n1, n2, n3, n4⟩ := q2.nd i hi1
  have xu : w2.cell? ⟨a2.nb i, 0, none⟩ = some (.bool true) := by have := n1.cell 0; rwa [hnd0, HUP.out] at this
  have x2 : w2.cell? ⟨w.heap.size, 2, none⟩ = some (.int .i64 (i : Int)) := by rw [← HI.out]; exact kb2.cell 2
  have hsl := hid (fun (n : Nat) => rslot_any i m.slot (q2.below (below_drewN (Below.refl _ w2) n)) hi1 (by rw [hnd0]; have := HF.out i; omega))
  have hkb := hid (fun (n : Nat) => kb2.below_all (below_drewN (Below.refl _ w2) n))
  have hU2 : Hid (Upd S w w2) := hid ((Upd.of_below' hB1 S).trans hu2 fun _ _ h => h)
  have hz24 := hid hu2.size
  have hz1' := hid hz1
  have hLN := hid (show (∀ j, G1.nd j = G.nd j) ∧ G1.nds.length = G.nds.length from ⟨hnd0, hlen0⟩)
  have xu' : ∀ n, (w2.drewN n).cell? ⟨a2.nb i, 0, none⟩ = some (.bool true) := fun _ => xu
  have x3' : ∀ n, (w2.drewN n).cell? ⟨w.heap.size, 3, none⟩ = some (.int .i64 m.slot) := fun _ => kb2.cell 3
  have HS2 := hid hS2; have hS2w' := hid hS2w
  clear q2 n1 n2 n3 n4 hlen0 hnd0 hG1 kb1 kb2 hu2 hB1 hdr hS2 hS2w t1 t2 t3 i1
  go_wp2_with fail
  go_quiet (fail)
  have xu4 := xu' nq
  have x34 := x3' nq
  have hU3 := hid (hU2.out.drewN nq)
  have hsl3 := hid (hsl.out nq)
  have hkb3 := hid (hkb.out nq)
  have hz23 : (w2.drewN nq).heap.size = w2.heap.size := rfl
  clear xu xu' x3' x2 xp c0 c1 hU2 hsl hkb
  generalize w2.drewN nq = w3 at *
  go_wp2_with fail
  refine hsl3.out.mono ?_
  rintro e w5 ⟨b, q, rfl, S5, a5, q5, hS5, hu5, hA5, hnb5, hsq⟩
  have hat : (G1.touch i m.slot).at_ i m.slot = G1.at_ i m.slot := Gr.at_touch _ _ _ _ _ (by rw [hLN.out.2]; exact HHi.out)
  rw [hat] at hsq
  have hfinal : Hid (∀ G', (G1.touch i m.slot).Handle i m.slot (G1.at_ i m.slot) m G' → G.Deliver k m G') := hid (fun G' hP => by
    unfold Gr.Deliver
    rw [if_pos (by rw [HI.out, Int.toNat_natCast]; exact HUP.out), HI.out, Int.toNat_natCast, ← hGG.out]
    exact hP)
  have hL2 : Hid ((G1.touch i m.slot).nds.length = G.nds.length) := hid (by rw [Gr.touch_len, hLN.out.2])
  have hst : Hid (G1.at_ i m.slot = G.at_ i m.slot) := hid (by rw [hGG.out]; rfl)
  have hTL : Hid (∀ j, ((G1.touch i m.slot).nd j).sl.length ≤ 1000) := hid (fun j => by
    have h1 := touch_few G1 i j m.slot (by rw [hLN.out.2]; exact HHi.out)
    rw [hLN.out.1] at h1
    have := HF.out j
    omega)
  have hTS : Hid (∀ n t, (G1.touch i m.slot).st n t = G.st n t) := hid (fun n t => by
    unfold Gr.st
    rw [Gr.touch_len, hLN.out.2]
    rw [Gr.at_touch _ _ _ _ _ (by rw [hLN.out.2]; exact HHi.out), hGG.out]
    rfl)
  generalize G1.touch i m.slot = G2 at *
  generalize G1.at_ i m.slot = x at *
  have HI2 : Hid (i < G2.nds.length) := hid (by rw [hL2.out]; exact HHi.out)
  have HO : Hid (Once (G2.nd i).sl) := hid (q5.nd i HI2.out).2.2.2
  have HQ := hid hsq
  have KB : Hid (Blk w5 w.heap.size 78 #[.int .i64 5, .int .i64 m.fr, .int .i64 m.dst, .int .i64 m.slot, .int .i64 m.bal.rd, .int .i64 m.bal.nd, .int .i64 m.had.rd, .int .i64 m.had.nd, .string m.text]) := hid (hkb3.out.upd hu5 hS2w'.out)
  have hS5 : Hid (∀ k, S5 k → S k ∨ w.heap.size + 1 ≤ k) := hid (fun k hk => by
    have h1 := hz1'.out
    have h2 := hz24.out
    rcases hS5 k hk with h | h
    · exact (HS2.out k h).imp id (by omega)
    · exact .inr (by omega))
  have HU : Hid (Upd S w w5) := hid (hU3.out.trans hu5 fun k hk h => by
    rcases HS2.out k h with h | h
    · exact h
    · have := hz1'.out; omega)
  have hSw : ¬ S5 w.heap.size := fun h => by
    rcases hS5.out _ h with h | h
    · exact absurd (hSlt _ h) (Nat.lt_irrefl _)
    · omega
  have hend : Hid (∀ (w6 : World) G' w', Blk w6 w.heap.size 78 #[.int .i64 5, .int .i64 m.fr, .int .i64 m.dst, .int .i64 m.slot, .int .i64 m.bal.rd, .int .i64 m.bal.nd, .int .i64 m.had.rd, .int .i64 m.had.nd, .string m.text] → Upd S w w6 → RGo S5 w6 r G' w' → G2.Handle i m.slot x m G' → ∃ G', G.Deliver k m G' ∧ RGo S w r G' w') := hid (fun w6 G' w' hkb hu6 hgo hH => ⟨G', hfinal.out _ hH, RGo.then ⟨S5, fun k hk => (hS5.out k hk).imp id (by omega), hu6, hgo⟩⟩)
  have L0 : Hid (RSl S5 w5 r (some ⟨b0, o0, none⟩) cn2 Am2 cm2 G2 i m.slot b x) := hid ⟨a5, by rw [Gr.set_same HI2.out (HO.out.get (List.mem_of_getElem? hsq))]; exact q5, hA5⟩
  have hq5 := hid q5; have hA5' := hid hA5
  have hSb : S5 b := by
    obtain ⟨_, _, _, _, h, _⟩ := L0.out.cells HI2.out HO.out HQ.out
    exact h
  clear xu4 x34 hsl3 hkb3 hU3 hu5 hsq hat hnb5 HS2 hz23 q5 hA5
  have e0 : w5.cell? ⟨w.heap.size, 0, none⟩ = some (.int .i64 5) := KB.out.cell 0
  have e1 : w5.cell? ⟨w.heap.size, 1, none⟩ = some (.int .i64 m.fr) := KB.out.cell 1
  have e2 : w5.cell? ⟨w.heap.size, 2, none⟩ = some (.int .i64 m.dst) := KB.out.cell 2
  have e3 : w5.cell? ⟨w.heap.size, 3, none⟩ = some (.int .i64 m.slot) := KB.out.cell 3
  have e4 : w5.cell? ⟨w.heap.size, 4, none⟩ = some (.int .i64 m.bal.rd) := KB.out.cell 4
  have e5 : w5.cell? ⟨w.heap.size, 5, none⟩ = some (.int .i64 m.bal.nd) := KB.out.cell 5
  have e6 : w5.cell? ⟨w.heap.size, 6, none⟩ = some (.int .i64 m.had.rd) := KB.out.cell 6
  have e7 : w5.cell? ⟨w.heap.size, 7, none⟩ = some (.int .i64 m.had.nd) := KB.out.cell 7
  have e8 : w5.cell? ⟨w.heap.size, 8, none⟩ = some (.string m.text) := KB.out.cell 8
  go_wp2_with fail
  go_quiet (fail)
  have hb := hid (below_drewN (Below.refl w5.heap.size w5) nq)
  have Q6 := hid (hq5.out.below hb.out)
  have K6 := hid (KB.out.below_all hb.out)
  have U6 := hid (HU.out.drewN nq)
  have L6 := hid (L0.out.far (M := Nil) (.of_below' hb.out _) fun _ _ => id)
  clear e0 e1 e2 e3 e4 e5 e6 e7 e8 L0 KB HU hq5 hb
  generalize w5.drewN nq = w6 at *
  have e0 : w6.cell? ⟨w.heap.size, 0, none⟩ = some (.int .i64 5) := K6.out.cell 0
  have e1 : w6.cell? ⟨w.heap.size, 1, none⟩ = some (.int .i64 m.fr) := K6.out.cell 1
  have e2 : w6.cell? ⟨w.heap.size, 2, none⟩ = some (.int .i64 m.dst) := K6.out.cell 2
  have e3 : w6.cell? ⟨w.heap.size, 3, none⟩ = some (.int .i64 m.slot) := K6.out.cell 3
  have e4 : w6.cell? ⟨w.heap.size, 4, none⟩ = some (.int .i64 m.bal.rd) := K6.out.cell 4
  have e5 : w6.cell? ⟨w.heap.size, 5, none⟩ = some (.int .i64 m.bal.nd) := K6.out.cell 5
  have e6 : w6.cell? ⟨w.heap.size, 6, none⟩ = some (.int .i64 m.had.rd) := K6.out.cell 6
  have e7 : w6.cell? ⟨w.heap.size, 7, none⟩ = some (.int .i64 m.had.nd) := K6.out.cell 7
  have e8 : w6.cell? ⟨w.heap.size, 8, none⟩ = some (.string m.text) := K6.out.cell 8
  obtain ⟨z, hz, hc, ⟨cs, hbk⟩, _, _⟩ := L6.out.cells HI2.out HO.out HQ.out
  have s7 : w6.cell? ⟨b, q * 15 + 7, none⟩ = some (.bool x.is) := hc 7 (by omega)
  have s8 : w6.cell? ⟨b, q * 15 + 8, none⟩ = some (.string x.text) := hc 8 (by omega)
  have ff : ∀ j, w6.frozen? ⟨b, j, none⟩ = false := fun j => hbk.frozen j
  clear hz hc hbk
  have hbS : b < w.heap.size → S b := fun h => by
    rcases hS5.out _ hSb with h1 | h1
    · exact h1
    · omega
  cases hxi : x.is with
  | true =>
    rw [hxi] at s7
    have hH : Hid (G2.Handle i m.slot x m G2) := hid (by unfold Gr.Handle; rw [if_neg (by rw [HK.out]; decide), if_neg (by rw [HK.out]; decide), if_neg (by rw [HK.out]; decide), if_neg (by rw [HK.out]; decide), if_pos HK.out]; unfold Gr.learn; rw [hxi]; rfl)
    have hfin := hid (hend.out w6 _ w6 K6.out U6.out (RGo.stay ⟨_, _, _, _, _, Q6.out⟩) hH.out)
    clear hxi hH
    go_wp2_with fail
    go_ret
    exact ⟨rfl, hfin.out⟩
  | false =>
    rw [hxi] at s7
    have hH : Hid (G2.Handle i m.slot x m (G2.setSl i m.slot { x with is := true, text := m.text })) := hid (by unfold Gr.Handle; rw [if_neg (by rw [HK.out]; decide), if_neg (by rw [HK.out]; decide), if_neg (by rw [HK.out]; decide), if_neg (by rw [HK.out]; decide), if_pos HK.out]; unfold Gr.learn; rw [hxi]; rfl)
    have hu8 : Upd (fun k => k = b) w6 ((w6.setCell ⟨b, q * 15 + 7, none⟩ (.bool true)).setCell ⟨b, q * 15 + 8, none⟩ (.string m.text)) := (((Upd.refl (fun k => k = b) w6).setCell (p := ⟨b, q * 15 + 7, none⟩) (fun _ => rfl) (.bool true)).setCell (p := ⟨b, q * 15 + 8, none⟩) (fun _ => rfl) (.string m.text))
    have L8 : Hid (RSl S5 ((w6.setCell ⟨b, q * 15 + 7, none⟩ (.bool true)).setCell ⟨b, q * 15 + 8, none⟩ (.string m.text)) r (some ⟨b0, o0, none⟩) cn2 Am2 cm2 G2 i m.slot b { x with is := true, text := m.text }) := hid (L6.out.put HI2.out HO.out HQ.out hu8 (by simp) fun z hz => ⟨z, fun A B n c hr hA => (own_seg (f := 8) (own_seg (f := 7) hr hA (by simp [rcells]) (.bool true)) hA (by simp [rcells]) (.string m.text)), fun d hd => hz d hd, fun hs k hk => ⟨hs, hk⟩⟩)
    have K8 : Hid (Blk ((w6.setCell ⟨b, q * 15 + 7, none⟩ (.bool true)).setCell ⟨b, q * 15 + 8, none⟩ (.string m.text)) w.heap.size 78 #[.int .i64 5, .int .i64 m.fr, .int .i64 m.dst, .int .i64 m.slot, .int .i64 m.bal.rd, .int .i64 m.bal.nd, .int .i64 m.had.rd, .int .i64 m.had.nd, .string m.text]) := hid (K6.out.upd hu8 fun e => hSw (by rw [e]; exact hSb))
    have U8 : Hid (Upd S w ((w6.setCell ⟨b, q * 15 + 7, none⟩ (.bool true)).setCell ⟨b, q * 15 + 8, none⟩ (.string m.text))) := hid ((U6.out.setCell (p := ⟨b, q * 15 + 7, none⟩) hbS (.bool true)).setCell (p := ⟨b, q * 15 + 8, none⟩) hbS (.string m.text))
    have hfin := hid (hend.out _ _ _ K8.out U8.out (RGo.stay L8.out.at_) hH.out)
    clear hxi hH hu8
    go_wp2_with fail
    go_ret
    exact ⟨rfl, hfin.out⟩
set_option maxRecDepth 100000 in
set_option maxHeartbeats 4000000 in
theorem rdeliver_6 (k : Nat) (m : Ml) (i : Nat) (h : RAt S w r G) (hk : k < G.mail.length) (hm : G.mail[k] = m) (hi00 : m.dst = (i : Int)) (hi : i < G.nds.length) (hs : 0 ≤ m.slot ∧ m.slot ≤ 1000) (hN : G.nds.length ≤ 9) (hl : G.mail.length ≤ 100000) (hf : ∀ j, (G.nd j).sl.length ≤ 900) (hK : m.kind = 6) (hup : (G.nd i).up = true) (hsr : SRange G) : Calls Try.prog 45 #[.pointer (some ⟨r, 0, none⟩), .int .i64 k] w fun e w' => e = .returned (.bool true) ∧ ∃ G', G.Deliver k m G' ∧ RGo S w r G' w' := by
  have HSR := hid hsr
  clear hsr
  have hB1 : Below w.heap.size w (w.alloc (.cells #[.int .i64 6, .int .i64 m.fr, .int .i64 m.dst, .int .i64 m.slot, .int .i64 m.bal.rd, .int .i64 m.bal.nd, .int .i64 m.had.rd, .int .i64 m.had.nd, .string m.text] 78)) := (Below.refl _ _).alloc (Nat.le_refl _) _
  have kb1 := Blk.new w 78 #[.int .i64 6, .int .i64 m.fr, .int .i64 m.dst, .int .i64 m.slot, .int .i64 m.bal.rd, .int .i64 m.bal.nd, .int .i64 m.had.rd, .int .i64 m.had.nd, .string m.text]
  have hRA := h.below hB1
  obtain ⟨An, cn, Am, cm, a, q⟩ := h
  have hSlt := q.lt
  obtain ⟨c0, c1⟩ := q.cells
  obtain ⟨gr, cur, rfl, hgr⟩ := own_formS q.mrow.1 (by omega)
  have m0 : w.cell? ⟨gr, k * 9, none⟩ = some (.int .i64 6) := by
    rw [q.mrow.1.cellAt _ (by omega)]
    exact (mcells_at _ k 0 hk (by omega)).trans (by rw [hm, Ml.cells, hK]; rfl)
  have m1 : w.cell? ⟨gr, k * 9 + 1, none⟩ = some (.int .i64 m.fr) := by
    rw [q.mrow.1.cellAt _ (by omega)]
    exact (mcells_at _ k 1 hk (by omega)).trans (by rw [hm]; rfl)
  have m2 : w.cell? ⟨gr, k * 9 + 2, none⟩ = some (.int .i64 m.dst) := by
    rw [q.mrow.1.cellAt _ (by omega)]
    exact (mcells_at _ k 2 hk (by omega)).trans (by rw [hm]; rfl)
  have m3 : w.cell? ⟨gr, k * 9 + 3, none⟩ = some (.int .i64 m.slot) := by
    rw [q.mrow.1.cellAt _ (by omega)]
    exact (mcells_at _ k 3 hk (by omega)).trans (by rw [hm]; rfl)
  have m4 : w.cell? ⟨gr, k * 9 + 4, none⟩ = some (.int .i64 m.bal.rd) := by
    rw [q.mrow.1.cellAt _ (by omega)]
    exact (mcells_at _ k 4 hk (by omega)).trans (by rw [hm]; rfl)
  have m5 : w.cell? ⟨gr, k * 9 + 5, none⟩ = some (.int .i64 m.bal.nd) := by
    rw [q.mrow.1.cellAt _ (by omega)]
    exact (mcells_at _ k 5 hk (by omega)).trans (by rw [hm]; rfl)
  have m6 : w.cell? ⟨gr, k * 9 + 6, none⟩ = some (.int .i64 m.had.rd) := by
    rw [q.mrow.1.cellAt _ (by omega)]
    exact (mcells_at _ k 6 hk (by omega)).trans (by rw [hm]; rfl)
  have m7 : w.cell? ⟨gr, k * 9 + 7, none⟩ = some (.int .i64 m.had.nd) := by
    rw [q.mrow.1.cellAt _ (by omega)]
    exact (mcells_at _ k 7 hk (by omega)).trans (by rw [hm]; rfl)
  have m8 : w.cell? ⟨gr, k * 9 + 8, none⟩ = some (.string m.text) := by
    rw [q.mrow.1.cellAt _ (by omega)]
    exact (mcells_at _ k 8 hk (by omega)).trans (by rw [hm]; rfl)
  have t1 : decide ((k : Int) < 0) = false := by simp
  have t2 : decide ((G.mail.length : Int) ≤ (k : Int)) = false := decide_eq_false (by omega)
  have t3 : decide (G.mail.length ≤ k) = false := decide_eq_false (by omega)
  have i1 : (k : Int) < (G.mail.length : Int) := by omega
  have hgn : G.drop (k : Int) = G.gone k := by unfold Gr.drop; rw [if_pos ⟨by omega, by omega⟩, Int.toNat_natCast]
  have hdr0 := rdrop_ex (k : Int) hRA hl
  rw [hgn] at hdr0
  have hdr := hid hdr0
  have HM := hid hm; have HI := hid hi00; have HF := hid hf; have HK := hid hK; have HHi := hid hi; have HUP := hid hup
  clear q hdr0 hgn hRA hm hgr hi00 hf hK hup
  go_enter Try.func45, Try.ntmps45
  go_upto_region 4 with fail
  clear m0 m1 m2 m3 m4 m5 m6 m7 m8 c0 c1
  generalize (w.alloc (.cells #[.int .i64 6, .int .i64 m.fr, .int .i64 m.dst, .int .i64 m.slot, .int .i64 m.bal.rd, .int .i64 m.bal.nd, .int .i64 m.had.rd, .int .i64 m.had.nd, .string m.text] 78)) = w1 at *
  have hz1 := kb1.lt
  go_wp2_with fail
  refine hdr.out.mono ?_
  rintro e w2 ⟨rfl, S2, h2, hS2, hu2⟩
  have hS2w : ¬ S2 w.heap.size := fun h => by
    rcases hS2 _ h with h | h
    · exact absurd (hSlt _ h) (Nat.lt_irrefl _)
    · omega
  have kb2 := kb1.upd hu2 fun h => absurd (hSlt _ h) (Nat.lt_irrefl _)
  obtain ⟨An2, cn2, Am2, cm2, a2, q2⟩ := h2
  obtain ⟨G1, hG1⟩ : ∃ G1, G1 = G.gone k := ⟨_, rfl⟩
  rw [← hG1] at q2
  have hlen0 : G1.nds.length = G.nds.length := by rw [hG1]; rfl
  have hnd0 : ∀ j, G1.nd j = G.nd j := fun j => by rw [hG1]; rfl
  have hGG := hid hG1
  have hi1 : i < G1.nds.length := by omega
  have i3 : (i : Int) < (G1.nds.length : Int) := by omega
  have i0 : (0 : Int) ≤ (i : Int) := by omega
  obtain ⟨b0, o0, rfl, hbl, xp⟩ := q2.ptr hi1
  obtain ⟨c0, c1⟩ := q2.cells
  obtain ⟨n1, n2, n3, n4⟩ := q2.nd i hi1
  have xu : w2.cell? ⟨a2.nb i, 0, none⟩ = some (.bool true) := by have := n1.cell 0; rwa [hnd0, HUP.out] at this
  have x2 : w2.cell? ⟨w.heap.size, 2, none⟩ = some (.int .i64 (i : Int)) := by rw [← HI.out]; exact kb2.cell 2
  have hsl := hid (fun (n : Nat) => rslot_any i m.slot (q2.below (below_drewN (Below.refl _ w2) n)) hi1 (by rw [hnd0]; have := HF.out i; omega))
  have hkb := hid (fun (n : Nat) => kb2.below_all (below_drewN (Below.refl _ w2) n))
  have hU2 : Hid (Upd S w w2) := hid ((Upd.of_below' hB1 S).trans hu2 fun _ _ h => h)
  have hz24 := hid hu2.size
  have hz1' := hid hz1
  have hLN := hid (show (∀ j, G1.nd j = G.nd j) ∧ G1.nds.length = G.nds.length from ⟨hnd0, hlen0⟩)
  have xu' : ∀ n, (w2.drewN n).cell? ⟨a2.nb i, 0, none⟩ = some (.bool true) := fun _ => xu
  have x3' : ∀ n, (w2.drewN n).cell? ⟨w.heap.size, 3, none⟩ = some (.int .i64 m.slot) := fun _ => kb2.cell 3
  have HS2 := hid hS2; have hS2w' := hid hS2w
  clear q2 n1 n2 n3 n4 hlen0 hnd0 hG1 kb1 kb2 hu2 hB1 hdr hS2 hS2w t1 t2 t3 i1
  go_wp2_with fail
  go_quiet (fail)
  have xu4 := xu' nq
  have x34 := x3' nq
  have hU3 := hid (hU2.out.drewN nq)
  have hsl3 := hid (hsl.out nq)
  have hkb3 := hid (hkb.out nq)
  have hz23 : (w2.drewN nq).heap.size = w2.heap.size := rfl
  clear xu xu' x3' x2 xp c0 c1 hU2 hsl hkb
  generalize w2.drewN nq = w3 at *
  go_wp2_with fail
  refine hsl3.out.mono ?_
  rintro e w5 ⟨b, q, rfl, S5, a5, q5, hS5, hu5, hA5, hnb5, hsq⟩
  have hat : (G1.touch i m.slot).at_ i m.slot = G1.at_ i m.slot := Gr.at_touch _ _ _ _ _ (by rw [hLN.out.2]; exact HHi.out)
  rw [hat] at hsq
  have hfinal : Hid (∀ G', (G1.touch i m.slot).Handle i m.slot (G1.at_ i m.slot) m G' → G.Deliver k m G') := hid (fun G' hP => by
    unfold Gr.Deliver
    rw [if_pos (by rw [HI.out, Int.toNat_natCast]; exact HUP.out), HI.out, Int.toNat_natCast, ← hGG.out]
    exact hP)
  have hL2 : Hid ((G1.touch i m.slot).nds.length = G.nds.length) := hid (by rw [Gr.touch_len, hLN.out.2])
  have hst : Hid (G1.at_ i m.slot = G.at_ i m.slot) := hid (by rw [hGG.out]; rfl)
  have hTL : Hid (∀ j, ((G1.touch i m.slot).nd j).sl.length ≤ 1000) := hid (fun j => by
    have h1 := touch_few G1 i j m.slot (by rw [hLN.out.2]; exact HHi.out)
    rw [hLN.out.1] at h1
    have := HF.out j
    omega)
  have hTS : Hid (∀ n t, (G1.touch i m.slot).st n t = G.st n t) := hid (fun n t => by
    unfold Gr.st
    rw [Gr.touch_len, hLN.out.2]
    rw [Gr.at_touch _ _ _ _ _ (by rw [hLN.out.2]; exact HHi.out), hGG.out]
    rfl)
  generalize G1.touch i m.slot = G2 at *
  generalize G1.at_ i m.slot = x at *
  have HI2 : Hid (i < G2.nds.length) := hid (by rw [hL2.out]; exact HHi.out)
  have HO : Hid (Once (G2.nd i).sl) := hid (q5.nd i HI2.out).2.2.2
  have HQ := hid hsq
  have KB : Hid (Blk w5 w.heap.size 78 #[.int .i64 6, .int .i64 m.fr, .int .i64 m.dst, .int .i64 m.slot, .int .i64 m.bal.rd, .int .i64 m.bal.nd, .int .i64 m.had.rd, .int .i64 m.had.nd, .string m.text]) := hid (hkb3.out.upd hu5 hS2w'.out)
  have hS5 : Hid (∀ k, S5 k → S k ∨ w.heap.size + 1 ≤ k) := hid (fun k hk => by
    have h1 := hz1'.out
    have h2 := hz24.out
    rcases hS5 k hk with h | h
    · exact (HS2.out k h).imp id (by omega)
    · exact .inr (by omega))
  have HU : Hid (Upd S w w5) := hid (hU3.out.trans hu5 fun k hk h => by
    rcases HS2.out k h with h | h
    · exact h
    · have := hz1'.out; omega)
  have hSw : ¬ S5 w.heap.size := fun h => by
    rcases hS5.out _ h with h | h
    · exact absurd (hSlt _ h) (Nat.lt_irrefl _)
    · omega
  have hend : Hid (∀ (w6 : World) G' w', Blk w6 w.heap.size 78 #[.int .i64 6, .int .i64 m.fr, .int .i64 m.dst, .int .i64 m.slot, .int .i64 m.bal.rd, .int .i64 m.bal.nd, .int .i64 m.had.rd, .int .i64 m.had.nd, .string m.text] → Upd S w w6 → RGo S5 w6 r G' w' → G2.Handle i m.slot x m G' → ∃ G', G.Deliver k m G' ∧ RGo S w r G' w') := hid (fun w6 G' w' hkb hu6 hgo hH => ⟨G', hfinal.out _ hH, RGo.then ⟨S5, fun k hk => (hS5.out k hk).imp id (by omega), hu6, hgo⟩⟩)
  have L0 : Hid (RSl S5 w5 r (some ⟨b0, o0, none⟩) cn2 Am2 cm2 G2 i m.slot b x) := hid ⟨a5, by rw [Gr.set_same HI2.out (HO.out.get (List.mem_of_getElem? hsq))]; exact q5, hA5⟩
  have hq5 := hid q5; have hA5' := hid hA5
  have hSb : S5 b := by
    obtain ⟨_, _, _, _, h, _⟩ := L0.out.cells HI2.out HO.out HQ.out
    exact h
  clear xu4 x34 hsl3 hkb3 hU3 hu5 hsq hat hnb5 HS2 hz23 q5 hA5
  have e0 : w5.cell? ⟨w.heap.size, 0, none⟩ = some (.int .i64 6) := KB.out.cell 0
  have e1 : w5.cell? ⟨w.heap.size, 1, none⟩ = some (.int .i64 m.fr) := KB.out.cell 1
  have e2 : w5.cell? ⟨w.heap.size, 2, none⟩ = some (.int .i64 m.dst) := KB.out.cell 2
  have e3 : w5.cell? ⟨w.heap.size, 3, none⟩ = some (.int .i64 m.slot) := KB.out.cell 3
  have e4 : w5.cell? ⟨w.heap.size, 4, none⟩ = some (.int .i64 m.bal.rd) := KB.out.cell 4
  have e5 : w5.cell? ⟨w.heap.size, 5, none⟩ = some (.int .i64 m.bal.nd) := KB.out.cell 5
  have e6 : w5.cell? ⟨w.heap.size, 6, none⟩ = some (.int .i64 m.had.rd) := KB.out.cell 6
  have e7 : w5.cell? ⟨w.heap.size, 7, none⟩ = some (.int .i64 m.had.nd) := KB.out.cell 7
  have e8 : w5.cell? ⟨w.heap.size, 8, none⟩ = some (.string m.text) := KB.out.cell 8
  go_wp2_with fail
  go_quiet (fail)
  have hb := hid (below_drewN (Below.refl w5.heap.size w5) nq)
  have Q6 := hid (hq5.out.below hb.out)
  have K6 := hid (KB.out.below_all hb.out)
  have U6 := hid (HU.out.drewN nq)
  have L6 := hid (L0.out.far (M := Nil) (.of_below' hb.out _) fun _ _ => id)
  clear e0 e1 e2 e3 e4 e5 e6 e7 e8 L0 KB HU hq5 hb
  generalize w5.drewN nq = w6 at *
  have e0 : w6.cell? ⟨w.heap.size, 0, none⟩ = some (.int .i64 6) := K6.out.cell 0
  have e1 : w6.cell? ⟨w.heap.size, 1, none⟩ = some (.int .i64 m.fr) := K6.out.cell 1
  have e2 : w6.cell? ⟨w.heap.size, 2, none⟩ = some (.int .i64 m.dst) := K6.out.cell 2
  have e3 : w6.cell? ⟨w.heap.size, 3, none⟩ = some (.int .i64 m.slot) := K6.out.cell 3
  have e4 : w6.cell? ⟨w.heap.size, 4, none⟩ = some (.int .i64 m.bal.rd) := K6.out.cell 4
  have e5 : w6.cell? ⟨w.heap.size, 5, none⟩ = some (.int .i64 m.bal.nd) := K6.out.cell 5
  have e6 : w6.cell? ⟨w.heap.size, 6, none⟩ = some (.int .i64 m.had.rd) := K6.out.cell 6
  have e7 : w6.cell? ⟨w.heap.size, 7, none⟩ = some (.int .i64 m.had.nd) := K6.out.cell 7
  have e8 : w6.cell? ⟨w.heap.size, 8, none⟩ = some (.string m.text) := K6.out.cell 8
  have hcl0 := rtell_any m (L6.out.at_) hs (G := G2.setSl i m.slot x)
  rw [Gr.set_same HI2.out (HO.out.get (List.mem_of_getElem? HQ.out))] at hcl0
  have hcl1 := hcl0 (fun n t h => by rw [hTS.out]; exact HSR.out n t h) hTL.out
  rw [HK.out] at hcl1
  have hcl := hid hcl1
  clear hcl0 hcl1
  go_wp2_with fail
  refine hcl.out.mono ?_
  rintro e w9 ⟨rfl, hgo⟩
  have hfin := hid (hend.out w6 _ _ K6.out U6.out hgo (by unfold Gr.Handle; rw [if_neg (by rw [HK.out]; decide), if_neg (by rw [HK.out]; decide), if_neg (by rw [HK.out]; decide), if_neg (by rw [HK.out]; decide), if_neg (by rw [HK.out]; decide)]))
  clear hgo
  go_wp2_with fail
  go_ret
  exact ⟨rfl, hfin.out⟩
end

end Go.Proofs.Ytbgopicpdpkccaa

