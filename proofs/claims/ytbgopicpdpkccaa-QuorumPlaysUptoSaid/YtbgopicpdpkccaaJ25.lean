/- Texts of the proof, joined: GRDel2, GPl, GDuo, GRch. -/
import Derived.Test.YtbgopicpdpkccaaJ24
import Derived.Test.YtbgopicpdpkccaaJ11
import Derived.Test.YtbgopicpdpkccaaJ12
import Derived.Test.YtbgopicpdpkccaaJ19
import Derived.Test.YtbgopicpdpkccaaJ14
import Derived.Test.YtbgopicpdpkccaaJ16
import Derived.Test.YtbgopicpdpkccaaJ17
import Derived.Test.YtbgopicpdpkccaaJ18
import Derived.Test.YtbgopicpdpkccaaJ21
namespace Go.Proofs.Ytbgopicpdpkccaa
open Go.RowKit
set_option linter.unusedVariables false
set_option linter.unusedSimpArgs false

/-- of each bid, fewer answers than a majority -/
def BFew (G : Gr) : Prop := ∀ i s d, (G.at_ i s).bid = some d → d.ans.length ≤ G.nds.length / 2
section
variable {S : Nat → Prop} {w w' : World} {r : Nat} {G : Gr}
set_option maxRecDepth 100000 in
set_option maxHeartbeats 4000000 in
theorem rdeliver_down (k : Nat) (m : Ml) (i : Nat) (h : RAt S w r G) (hk : k < G.mail.length) (hm : G.mail[k] = m) (hi00 : m.dst = (i : Int)) (hi : i < G.nds.length) (hs : 0 ≤ m.slot ∧ m.slot ≤ 1000) (hN : G.nds.length ≤ 9) (hl : G.mail.length ≤ 100000) (hf : ∀ j, (G.nd j).sl.length ≤ 900) (hup : (G.nd i).up = false) : Calls Try.prog 45 #[.pointer (some ⟨r, 0, none⟩), .int .i64 k] w fun e w' => e = .returned (.bool true) ∧ ∃ G', G.Deliver k m G' ∧ RGo S w r G' w' := by
  have hB1 : Below w.heap.size w (w.alloc (.cells #[.int .i64 m.kind, .int .i64 m.fr, .int .i64 m.dst, .int .i64 m.slot, .int .i64 m.bal.rd, .int .i64 m.bal.nd, .int .i64 m.had.rd, .int .i64 m.had.nd, .string m.text] 78)) := (Below.refl _ _).alloc (Nat.le_refl _) _
  have kb1 := Blk.new w 78 #[.int .i64 m.kind, .int .i64 m.fr, .int .i64 m.dst, .int .i64 m.slot, .int .i64 m.bal.rd, .int .i64 m.bal.nd, .int .i64 m.had.rd, .int .i64 m.had.nd, .string m.text]
  have hRA := h.below hB1
  obtain ⟨An, cn, Am, cm, a, q⟩ := h
  have hSlt := q.lt
  obtain ⟨c0, c1⟩ := q.cells
  obtain ⟨gr, cur, rfl, hgr⟩ := own_formS q.mrow.1 (by omega)
  have m0 : w.cell? ⟨gr, k * 9, none⟩ = some (.int .i64 m.kind) := by
    rw [q.mrow.1.cellAt _ (by omega)]
    exact (mcells_at _ k 0 hk (by omega)).trans (by rw [hm, Ml.cells]; rfl)
  have m1 : w.cell? ⟨gr, k * 9 + 1, none⟩ = some (.int .i64 m.fr) := by
    rw [q.mrow.1.cellAt _ (by omega)]
    exact (mcells_at _ k 1 hk (by omega)).trans (by rw [hm]; rfl)
  have m2 : w.cell? ⟨gr, k * 9 + 2, none⟩ = some (.int .i64 m.dst) := by
    rw [q.mrow.1.cellAt _ (by omega)]
    exact (mcells_at _ k 2 hk (by omega)).trans (by rw [hm]; rfl)
  have m3 : w.cell? ⟨gr, k * 9 + 3, none⟩ = some (.int .i64 m.slot) := by
    rw [q.mrow.1.cellAt _ (by omega)]
    exact (mcells_at _ k 3 hk (by omega)).trans (by rw [hm]; rfl)
  have m4 : w.cell? ⟨gr, k * 9 + 4, none⟩ = some (.int .i64 m.bal.rd) := by
    rw [q.mrow.1.cellAt _ (by omega)]
    exact (mcells_at _ k 4 hk (by omega)).trans (by rw [hm]; rfl)
  have m5 : w.cell? ⟨gr, k * 9 + 5, none⟩ = some (.int .i64 m.bal.nd) := by
    rw [q.mrow.1.cellAt _ (by omega)]
    exact (mcells_at _ k 5 hk (by omega)).trans (by rw [hm]; rfl)
  have m6 : w.cell? ⟨gr, k * 9 + 6, none⟩ = some (.int .i64 m.had.rd) := by
    rw [q.mrow.1.cellAt _ (by omega)]
    exact (mcells_at _ k 6 hk (by omega)).trans (by rw [hm]; rfl)
  have m7 : w.cell? ⟨gr, k * 9 + 7, none⟩ = some (.int .i64 m.had.nd) := by
    rw [q.mrow.1.cellAt _ (by omega)]
    exact (mcells_at _ k 7 hk (by omega)).trans (by rw [hm]; rfl)
  have m8 : w.cell? ⟨gr, k * 9 + 8, none⟩ = some (.string m.text) := by
    rw [q.mrow.1.cellAt _ (by omega)]
    exact (mcells_at _ k 8 hk (by omega)).trans (by rw [hm]; rfl)
  have t1 : decide ((k : Int) < 0) = false := by simp
  have t2 : decide ((G.mail.length : Int) ≤ (k : Int)) = false := decide_eq_false (by omega)
  have t3 : decide (G.mail.length ≤ k) = false := decide_eq_false (by omega)
  have i1 : (k : Int) < (G.mail.length : Int) := by omega
  have hgn : G.drop (k : Int) = G.gone k := by unfold Gr.drop; rw [if_pos ⟨by omega, by omega⟩, Int.toNat_natCast]
  have hdr0 := rdrop_ex (k : Int) hRA hl
  rw [hgn] at hdr0
  have hdr := hid hdr0
  have HM := hid hm; have HI := hid hi00; have HF := hid hf; have HHi := hid hi; have HUP := hid hup
  clear q hdr0 hgn hRA hm hgr hi00 hf hup
  go_enter Try.func45, Try.ntmps45
  go_upto_region 4 with fail
  clear m0 m1 m2 m3 m4 m5 m6 m7 m8 c0 c1
  generalize (w.alloc (.cells #[.int .i64 m.kind, .int .i64 m.fr, .int .i64 m.dst, .int .i64 m.slot, .int .i64 m.bal.rd, .int .i64 m.bal.nd, .int .i64 m.had.rd, .int .i64 m.had.nd, .string m.text] 78)) = w1 at *
  have hz1 := kb1.lt
  have hw01 : w.heap.size ≤ w1.heap.size := Nat.le_of_lt hz1
  go_wp2_with fail
  refine hdr.out.mono ?_
  rintro e w2 ⟨rfl, S2, h2, hS2, hu2⟩
  have hS2w : ¬ S2 w.heap.size := fun h => by
    rcases hS2 _ h with h | h
    · exact absurd (hSlt _ h) (Nat.lt_irrefl _)
    · omega
  have kb2 := kb1.upd hu2 fun h => absurd (hSlt _ h) (Nat.lt_irrefl _)
  obtain ⟨An2, cn2, Am2, cm2, a2, q2⟩ := h2
  obtain ⟨G1, hG1⟩ : ∃ G1, G1 = G.gone k := ⟨_, rfl⟩
  rw [← hG1] at q2
  have hlen0 : G1.nds.length = G.nds.length := by rw [hG1]; rfl
  have hnd0 : ∀ j, G1.nd j = G.nd j := fun j => by rw [hG1]; rfl
  have hGG := hid hG1
  have hi1 : i < G1.nds.length := by omega
  have i3 : (i : Int) < (G1.nds.length : Int) := by omega
  have i0 : (0 : Int) ≤ (i : Int) := by omega
  obtain ⟨b0, o0, rfl, hbl, xp⟩ := q2.ptr hi1
  obtain ⟨c0, c1⟩ := q2.cells
  obtain ⟨n1, n2, n3, n4⟩ := q2.nd i hi1
  have xu : w2.cell? ⟨a2.nb i, 0, none⟩ = some (.bool false) := by have := n1.cell 0; rwa [hnd0, HUP.out] at this
  have x2 : w2.cell? ⟨w.heap.size, 2, none⟩ = some (.int .i64 (i : Int)) := by rw [← HI.out]; exact kb2.cell 2
  have hgo := hid (fun (n : Nat) => (show RGo S w r (G.gone k) (w2.drewN n) from ⟨S2, ⟨_, _, _, _, _, hG1 ▸ q2.below (below_drewN (Below.refl _ w2) n)⟩, fun k hk => (hS2 k hk).imp id (by omega), ((Upd.of_below' hB1 S).trans hu2 fun _ _ h => h).drewN n⟩))
  have hsl := hid (fun (n : Nat) => rslot_any i m.slot (q2.below (below_drewN (Below.refl _ w2) n)) hi1 (by rw [hnd0]; have := HF.out i; omega))
  have hkb := hid (fun (n : Nat) => kb2.below_all (below_drewN (Below.refl _ w2) n))
  have hU2 : Hid (Upd S w w2) := hid ((Upd.of_below' hB1 S).trans hu2 fun _ _ h => h)
  have hz24 := hid hu2.size
  have hz1' := hid hz1
  have hLN := hid (show (∀ j, G1.nd j = G.nd j) ∧ G1.nds.length = G.nds.length from ⟨hnd0, hlen0⟩)
  have xu' : ∀ n, (w2.drewN n).cell? ⟨a2.nb i, 0, none⟩ = some (.bool false) := fun _ => xu
  have x3' : ∀ n, (w2.drewN n).cell? ⟨w.heap.size, 3, none⟩ = some (.int .i64 m.slot) := fun _ => kb2.cell 3
  have HS2 := hid hS2; have hS2w' := hid hS2w
  clear q2 n1 n2 n3 n4 hlen0 hnd0 hG1 kb1 kb2 hu2 hB1 hdr hS2 hS2w t1 t2 t3 i1
  go_wp2_with fail
  go_quiet (fail)
  have xu4 := xu' nq
  have x34 := x3' nq
  have hU3 := hid (hU2.out.drewN nq)
  have hsl3 := hid (hsl.out nq)
  have hkb3 := hid (hkb.out nq)
  have hz23 : (w2.drewN nq).heap.size = w2.heap.size := rfl
  clear xu xu' x3' x2 xp c0 c1 hU2 hsl hkb
  have hgo3 := hid (hgo.out nq)
  clear hgo
  generalize w2.drewN nq = w3 at *
  have hfin : Hid (∃ G', G.Deliver k m G' ∧ RGo S w r G' w3) := hid ⟨G.gone k, by
    unfold Gr.Deliver
    rw [if_neg (by rw [HI.out, Int.toNat_natCast, HUP.out]; simp)], hgo3.out⟩
  go_wp2_with fail
  go_ret
  exact ⟨rfl, hfin.out⟩
set_option maxRecDepth 100000 in
set_option maxHeartbeats 1000000 in
theorem rdeliver_no (k : Int) (h : RAt S w r G) (hk : k < 0 ∨ (G.mail.length : Int) ≤ k) : Calls Try.prog 45 #[.pointer (some ⟨r, 0, none⟩), .int .i64 k] w fun e w' => e = .returned (.bool false) ∧ w' = w := by
  obtain ⟨An, cn, Am, cm, a, q⟩ := h
  obtain ⟨c0, c1⟩ := q.cells
  clear q c0
  by_cases h1 : k < 0
  · have t1 : decide (k < 0) = true := decide_eq_true h1
    go_enter Try.func45, Try.ntmps45
    go_wp2_with fail
    go_ret
    exact ⟨rfl, rfl⟩
  · have t1 : decide (k < 0) = false := decide_eq_false h1
    have t2 : decide ((G.mail.length : Int) ≤ k) = true := decide_eq_true (by omega)
    go_enter Try.func45, Try.ntmps45
    go_wp2_with fail
    go_ret
    exact ⟨rfl, rfl⟩
theorem rdeliver_any {N : Nat} {K : Int} (k : Int) (h : RAt S w r G) (hf : Fit N K G) (hN : N ≤ 9) (hr : SRange G) (hl : ∀ j, (G.nd j).sl.length ≤ 900) (hb : BFew G) : Calls Try.prog 45 #[.pointer (some ⟨r, 0, none⟩), .int .i64 k] w fun e w' => e = .returned (.bool (decide (0 ≤ k ∧ k < G.mail.length))) ∧ ∃ G', G.DeliverR k G' ∧ RGo S w r G' w' := by
  have hlen := hf.len
  by_cases hk : 0 ≤ k ∧ k < G.mail.length
  · obtain ⟨j, rfl⟩ := Int.eq_ofNat_of_zero_le hk.1
    have hj : j < G.mail.length := by omega
    have hm := hf.mail G.mail[j] (List.getElem_mem hj)
    rw [decide_eq_true hk]
    obtain ⟨i, hi0⟩ : ∃ i : Nat, (G.mail[j]).dst = (i : Int) := ⟨(G.mail[j]).dst.toNat, by have := hm.dst; omega⟩
    have hi : i < G.nds.length := by have := hm.dst; omega
    have hs : 0 ≤ (G.mail[j]).slot ∧ (G.mail[j]).slot ≤ 1000 := by have := hm.slot; omega
    have hml : G.mail.length ≤ 100000 := by have := hf.room; omega
    have key : Calls Try.prog 45 #[.pointer (some ⟨r, 0, none⟩), .int .i64 j] w fun e w' => e = .returned (.bool true) ∧ ∃ G', G.Deliver j G.mail[j] G' ∧ RGo S w r G' w' := by
      cases hup : (G.nd i).up with
      | false => exact rdeliver_down j _ i h hj rfl hi0 hi hs (by omega) hml hl hup
      | true =>
        have hK6 : (G.mail[j]).kind = 1 ∨ (G.mail[j]).kind = 2 ∨ (G.mail[j]).kind = 3 ∨ (G.mail[j]).kind = 4 ∨ (G.mail[j]).kind = 5 ∨ (G.mail[j]).kind = 6 := by have := hm.kind; omega
        rcases hK6 with hK | hK | hK | hK | hK | hK
        · exact rdeliver_1 j _ i h hj rfl hi0 hi hs (by omega) hml hl hK hup
        · exact rdeliver_2 j _ i h hj rfl hi0 hi hs (by omega) hml hl hK hup (hb _ _)
        · exact rdeliver_3 j _ i h hj rfl hi0 hi hs (by omega) hml hl hK hup
        · exact rdeliver_4 j _ i h hj rfl hi0 hi hs (by omega) hml hl hK hup (hb _ _)
        · exact rdeliver_5 j _ i h hj rfl hi0 hi hs (by omega) hml hl hK hup
        · exact rdeliver_6 j _ i h hj rfl hi0 hi hs (by omega) hml hl hK hup hr
    refine key.mono fun e w' ⟨he, G', h1, h2⟩ => ?_
    exact ⟨he, G', .inr ⟨G.mail[j], hk.1, by rw [Int.toNat_natCast]; exact List.getElem?_eq_getElem hj, by rw [Int.toNat_natCast]; exact h1⟩, h2⟩
  · rw [decide_eq_false hk]
    exact (rdeliver_no k h (by omega)).mono fun e w' ⟨he, hw⟩ => ⟨he, G, .inl ⟨hk, rfl⟩, by subst hw; exact RGo.stay h⟩
end

end Go.Proofs.Ytbgopicpdpkccaa

namespace Go.Proofs.Ytbgopicpdpkccaa
open Go.RowKit
set_option linter.unusedVariables false
set_option linter.unusedSimpArgs false

/-! one Deliver -/
theorem IsBest.one {ans : List (Int × Vt)} {t : ByteArray} {u v : Vt} (hf : ∀ p ∈ ans, ∀ q ∈ ans, 0 < p.2.bal.rd → p.2.bal = q.2.bal → p.2 = q.2) (h1 : IsBest ans t u) (h2 : IsBest ans t v) : u = v := by
  obtain ⟨a1, a2⟩ := h1
  obtain ⟨b1, b2⟩ := h2
  have hz : ∀ {x : Vt}, (∀ p ∈ ans, 0 < p.2.bal.rd → cmpB p.2.bal x.bal ≤ 0) → x = ⟨bal0, t⟩ → ∀ p ∈ ans, ¬ 0 < p.2.bal.rd := fun h e p hp hr => by
    have := h p hp hr
    rw [e, cmpB_le] at this
    simp only [bal0] at this
    omega
  rcases a1 with e1 | ⟨p, hp, rfl, hr⟩
  · rcases b1 with e2 | ⟨q, hq, rfl, hr2⟩
    · rw [e1, e2]
    · exact absurd hr2 (hz a2 e1 q hq)
  · rcases b1 with e2 | ⟨q, hq, rfl, hr2⟩
    · exact absurd hr (hz b2 e2 p hp)
    · refine hf p hp q hq hr ?_
      have c1 := b2 p hp hr
      have c2 := a2 q hq hr2
      rw [cmpB_le] at c1 c2
      exact Bal.eq_of (by omega) (by omega)
section
variable {G G1 G2 : Gr} {N : Nat} {K : Int}
theorem Deliver_one {k : Nat} {m : Ml} (ho : One m.slot G) (hm : m ∈ G.mail) (hd : 0 ≤ m.dst ∧ m.dst < G.nds.length) (h1 : G.Deliver k m G1) (h2 : G.Deliver k m G2) : G1 = G2 := by
  unfold Gr.Deliver at h1 h2
  by_cases hu : (G.nd m.dst.toNat).up = true
  · rw [if_pos hu] at h1 h2
    unfold Gr.Handle at h1 h2
    by_cases k1 : m.kind = 1
    · rw [if_pos k1] at h1 h2; rw [h1, h2]
    rw [if_neg k1] at h1 h2
    by_cases k2 : m.kind = 2
    · rw [if_pos k2] at h1 h2
      unfold Gr.Promise at h1 h2
      have hat : (G.gone k).at_ m.dst.toNat m.slot = G.at_ m.dst.toNat m.slot := Gr.at_nds rfl _ _
      cases hc : ((G.gone k).at_ m.dst.toNat m.slot).cnts m false with
      | none => rw [hc] at h1 h2; rw [h1, h2]
      | some d2 =>
        rw [hc] at h1 h2
        simp only at h1 h2
        split at h1
        · rename_i hw
          rw [if_pos hw] at h2
          obtain ⟨u, hu1, rfl⟩ := h1
          obtain ⟨v, hv1, rfl⟩ := h2
          obtain ⟨pr, g, hs⟩ := ho
          rw [hat] at hc
          obtain ⟨d, hd1, hd2, hd3, hd4, rfl⟩ := Sl.cnts_some hc
          have hbk := (hs.node m.dst.toNat (by omega)).bid d hd1
          obtain ⟨_, _, _, _, hb5, _⟩ := hbk
          obtain ⟨_, _, hb6⟩ := hb5 hd3
          have hpm := (hs.msg m hm rfl).prom k2
          have hv : ∀ p ∈ setA m.fr ⟨m.had, m.text⟩ d.ans, 0 < p.2.bal.rd → g.P p.2.bal p.2.text := fun p hp hr => by
            have hx : p.2 = vt0 ∨ g.P p.2.bal p.2.text := by
              rcases setA_mem hp with rfl | hp
              · exact hpm.2.2.2.1.imp id fun h => h.2
              · exact (hb6 p hp).2.2.2.1.imp id fun h => h.2
            rcases hx with e | e
            · rw [e] at hr; exact absurd hr (by decide)
            · exact e
          have := IsBest.one (fun p hp q hq hr e => by
            have p1 := hv p hp hr
            have p2 := hv q hq (by rw [← e]; exact hr)
            rw [← e] at p2
            have := (hs.ps _ _ p2).fun_ _ p1
            generalize p.2 = x at *
            generalize q.2 = y at *
            cases x; cases y; simp_all) hu1 hv1
          rw [this]
        · rename_i hw
          rw [if_neg hw] at h2
          rw [h1, h2]
    rw [if_neg k2] at h1 h2
    by_cases k3 : m.kind = 3
    · rw [if_pos k3] at h1 h2; rw [h1, h2]
    rw [if_neg k3] at h1 h2
    by_cases k4 : m.kind = 4
    · rw [if_pos k4] at h1 h2; rw [h1, h2]
    rw [if_neg k4] at h1 h2
    by_cases k5 : m.kind = 5
    · rw [if_pos k5] at h1 h2; rw [h1, h2]
    rw [if_neg k5] at h1 h2
    rw [h1, h2]
  · rw [if_neg hu] at h1 h2
    rw [h1, h2]
theorem DeliverR_one {k : Int} (ho : ∀ s, One s G) (hf : Fit N K G) (h1 : G.DeliverR k G1) (h2 : G.DeliverR k G2) : G1 = G2 := by
  rcases h1 with ⟨n1, rfl⟩ | ⟨m, a1, a2, a3⟩
  · rcases h2 with ⟨_, rfl⟩ | ⟨m, a1, a2, a3⟩
    · rfl
    · refine absurd ⟨a1, ?_⟩ n1
      have := (List.getElem?_eq_some_iff.1 a2).1
      omega
  · rcases h2 with ⟨n1, rfl⟩ | ⟨m', b1, b2, b3⟩
    · refine absurd ⟨a1, ?_⟩ n1
      have := (List.getElem?_eq_some_iff.1 a2).1
      omega
    · rw [a2] at b2
      injection b2 with b2
      subst b2
      have hm := List.mem_of_getElem? a2
      have hl := hf.len
      have hdst := (hf.mail m hm).dst
      exact Deliver_one (ho _) hm (by omega) a3 b3
end

/-! what always holds: the slots' numbers; fewer answers than a majority -/
def KeyR (G : Gr) : Prop := ∀ i, ∀ p ∈ (G.nd i).sl, 0 ≤ p.1 ∧ p.1 < 256
section
variable {G G' : Gr} {N : Nat} {K : Int} {i : Nat} {s : Int}
theorem KeyR.nds (h : KeyR G) (e : G'.nds = G.nds) : KeyR G' := fun i p hp => h i p (by rw [← Gr.up_nds e]; exact hp)
theorem KeyR.setNd (h : KeyR G) (i : Nat) (x : Nd) (hx : ∀ p ∈ x.sl, 0 ≤ p.1 ∧ p.1 < 256) : KeyR (G.setNd i x) := fun j p hp => by
  by_cases hi : i < G.nds.length
  · rw [Gr.nd_set _ _ _ _ hi] at hp
    split at hp
    · exact hx p hp
    · exact h j p hp
  · have e : G.setNd i x = G := by
      unfold Gr.setNd
      rw [List.set_eq_of_length_le (by omega)]
    rw [e] at hp
    exact h j p hp
theorem KeyR.setSl (h : KeyR G) (i : Nat) (hs : 0 ≤ s ∧ s < 256) (x : Sl) : KeyR (G.setSl i s x) := h.setNd i _ fun p hp => by
  rcases setA_mem hp with rfl | hp
  · exact hs
  · exact h i p hp
theorem KeyR.touch (h : KeyR G) (i : Nat) (hs : 0 ≤ s ∧ s < 256) : KeyR (G.touch i s) := by
  unfold Gr.touch
  split
  · exact h
  · exact h.setSl i hs _
theorem KeyR.send (h : KeyR G) (m : Ml) : KeyR (G.send m) := h.nds (Gr.send_nds _ _)
theorem KeyR.sendAll (h : KeyR G) (m : Ml) : KeyR (G.sendAll m) := h.nds (Gr.sendTo_nds _ _ _)
theorem tell_nds' (G0 : Gr) (m : Ml) : ∀ (f : Nat) (t : Int) (G : Gr), (G0.tell m f t G).nds = G.nds := by
  intro f
  induction f with
  | zero => intro t G; rfl
  | succ f ih =>
    intro t G
    unfold Gr.tell
    split
    · rw [ih, Gr.send_nds]
    · rfl
theorem KeyR.deliver {k : Nat} {m : Ml} (h : KeyR G) (hs : 0 ≤ m.slot ∧ m.slot < 256) (hd : G.Deliver k m G') : KeyR G' := by
  have hg : KeyR (G.gone k) := h.nds rfl
  unfold Gr.Deliver at hd
  by_cases hu : (G.nd m.dst.toNat).up = true
  · rw [if_pos hu] at hd
    have ht := hg.touch m.dst.toNat hs
    generalize (G.gone k).touch m.dst.toNat m.slot = T at *
    generalize (G.gone k).at_ m.dst.toNat m.slot = x at *
    unfold Gr.Handle at hd
    split at hd
    · rw [hd]; unfold Gr.prepare; split
      · exact (ht.setSl _ hs _).send _
      · exact ht.setSl _ hs _
    split at hd
    · unfold Gr.Promise at hd
      split at hd
      · rw [hd]; exact ht
      · split at hd
        · obtain ⟨b, _, rfl⟩ := hd; exact (ht.setSl _ hs _).sendAll _
        · rw [hd]; exact ht.setSl _ hs _
    split at hd
    · rw [hd]; unfold Gr.accept; split
      · exact (ht.setSl _ hs _).send _
      · exact ht.setSl _ hs _
    split at hd
    · rw [hd]; unfold Gr.acceptedOf; split
      · exact ht
      · split
        · exact (ht.setSl _ hs _).sendAll _
        · exact ht.setSl _ hs _
    split at hd
    · rw [hd]; unfold Gr.learn; split
      · exact ht
      · exact ht.setSl _ hs _
    · rw [hd]; exact ht.nds (tell_nds' _ _ _ _ _)
  · rw [if_neg hu] at hd
    rw [hd]; exact hg
theorem KeyR.act (h : KeyR G) (hf : Fit N K G) {a : GA} (ha : G.Act a G') : KeyR G' := by
  unfold Gr.Act at ha
  split at ha
  · rw [ha]
    unfold Gr.propose
    split
    case isFalse => exact h
    rename_i hc
    have hs := code_ok hc
    unfold Gr.bid
    exact ((h.touch _ ⟨hs.2.2.2.1, hs.2.2.2.2.1⟩).setSl _ ⟨hs.2.2.2.1, hs.2.2.2.2.1⟩ _).sendAll _
  split at ha
  · rcases ha with ⟨_, rfl⟩ | ⟨m, h1, h2, h3⟩
    · exact h
    · exact h.deliver (hf.mail m (List.mem_of_getElem? h2)).slot h3
  split at ha
  · rw [ha]; unfold Gr.drop; split
    · exact h.nds rfl
    · exact h
  split at ha
  · rw [ha]; unfold Gr.double; split
    · exact h.nds rfl
    · exact h
  split at ha
  · rw [ha]; unfold Gr.crash; split
    · unfold Gr.clr
      refine h.setNd _ _ fun p hp => ?_
      simp only at hp
      obtain ⟨q, hq, rfl⟩ := List.mem_map.1 hp
      exact h _ q hq
    · exact h
  split at ha
  · rw [ha]; unfold Gr.restart; split
    · exact h.setNd _ _ fun p hp => h _ p hp
    · exact h
  split at ha
  · rw [ha]; exact h.nds (catch_nds _)
  · rw [ha]; exact h
theorem KeyR.range (h : KeyR G) : SRange G := fun n s hs => by
  unfold Gr.st
  split
  · unfold Gr.at_
    cases hg : getA s (G.nd n.toNat).sl with
    | none => rfl
    | some x => exact absurd (h _ _ (getA_mem hg)) hs
  · rfl
theorem nodup_map_of {α β : Type} (f : α → β) : ∀ {l : List α}, l.Nodup → (∀ a ∈ l, ∀ b ∈ l, f a = f b → a = b) → (l.map f).Nodup := by
  intro l
  induction l with
  | nil => intro _ _; exact List.nodup_nil
  | cons a l ih =>
    intro h hf
    rw [List.nodup_cons] at h
    rw [List.map_cons, List.nodup_cons]
    refine ⟨fun hm => ?_, ih h.2 fun x hx y hy => hf x (List.mem_cons_of_mem _ hx) y (List.mem_cons_of_mem _ hy)⟩
    obtain ⟨b, hb, e⟩ := List.mem_map.1 hm
    exact h.1 (hf b (List.mem_cons_of_mem _ hb) a List.mem_cons_self e ▸ hb)
theorem KeyR.few (h : KeyR G) (ho : Once (G.nd i).sl) : (G.nd i).sl.length ≤ 256 := by
  have h1 : (((G.nd i).sl.map fun p => p.1).map Int.toNat).Nodup := nodup_map_of _ ho fun a ha b hb e => by
    obtain ⟨p, hp, rfl⟩ := List.mem_map.1 ha
    obtain ⟨q, hq, rfl⟩ := List.mem_map.1 hb
    have := h i p hp
    have := h i q hq
    omega
  have := nodup_le h1 (N := 256) fun f hf => by
    obtain ⟨a, ha, rfl⟩ := List.mem_map.1 hf
    obtain ⟨p, hp, rfl⟩ := List.mem_map.1 ha
    have := h i p hp
    omega
  simpa using this
theorem BFew.still (h : BFew G) (hl : G'.nds.length = G.nds.length) (hat : ∀ j t, G'.at_ j t = G.at_ j t ∨ (G'.at_ j t).bid = none) : BFew G' := fun j t d hd => by
  rw [hl]
  rcases hat j t with e | e
  · rw [e] at hd; exact h j t d hd
  · rw [e] at hd; cases hd
theorem BFew.eff {x' : Sl} {new : Ml → Prop} (h : BFew G) (he : Eff i s x' new G G') (hx : ∀ d, x'.bid = some d → d.ans.length ≤ G.nds.length / 2) : BFew G' := fun j t d hd => by
  rw [he.len]
  rw [he.at_] at hd
  split at hd
  · exact hx d hd
  · exact h j t d hd
theorem cnts_len {x : Sl} {m : Ml} {acc : Bool} {d2 : Bd} {n : Nat} (hc : x.cnts m acc = some d2) (h : ∀ d, x.bid = some d → d.ans.length ≤ n) (hne : d2.ans.length ≠ n + 1) : d2.ans.length ≤ n := by
  obtain ⟨d, hd1, _, _, hd4, rfl⟩ := Sl.cnts_some hc
  have h1 := h d hd1
  have h2 := setA_len (v := ⟨m.had, m.text⟩) hd4
  simp only at hne ⊢
  omega
theorem BFew.act (h : BFew G) (hf : Fit N K G) {a : GA} (ha : G.Act a G') : BFew G' := by
  have hl := hf.len
  unfold Gr.Act at ha
  split at ha
  · rw [ha]
    unfold Gr.propose
    split
    case isFalse => exact h
    rename_i hc
    have hs := code_ok hc
    refine h.eff (bid_eff (by omega) _) fun d hd => ?_
    simp only [Option.some.injEq] at hd
    subst hd
    exact Nat.zero_le _
  split at ha
  · rcases ha with ⟨_, rfl⟩ | ⟨m, h1, h2, h3⟩
    · exact h
    · have hdst := (hf.mail m (List.mem_of_getElem? h2)).dst
      obtain ⟨x', new, hr, he⟩ := Deliver_eff (by omega) h3
      refine h.eff he fun d hd => ?_
      have hx := h m.dst.toNat m.slot
      cases hr with
      | stay => exact hx d hd
      | late _ => exact hx d hd
      | prep _ _ => exact hx d hd
      | acc _ _ => exact hx d hd
      | ans1 d2 _ hc hne =>
        simp only [Option.some.injEq] at hd
        subst hd
        exact cnts_len hc hx hne
      | won d2 b _ _ _ _ =>
        simp only [Option.some.injEq] at hd
        subst hd
        exact Nat.zero_le _
      | ans2 d2 _ hc hne =>
        simp only [Option.some.injEq] at hd
        subst hd
        exact cnts_len hc hx hne
      | done _ _ _ _ => cases hd
      | learn _ _ => exact hx d hd
      | told => exact hx d hd
  split at ha
  · rw [ha]; unfold Gr.drop; split
    · exact h.still rfl fun j t => .inl (Gr.at_nds rfl j t)
    · exact h
  split at ha
  · rw [ha]; unfold Gr.double; split
    · exact h.still rfl fun j t => .inl (Gr.at_nds rfl j t)
    · exact h
  split at ha
  · rw [ha]; unfold Gr.crash; split
    · rename_i hc
      refine h.still (clr_len _ _ _) fun j t => ?_
      have hi : a.n.toNat < G.nds.length := by omega
      by_cases e : j = a.n.toNat
      · subst e
        refine .inr ?_
        unfold Gr.at_
        rw [clr_get hi]
        cases getA t (G.nd a.n.toNat).sl <;> rfl
      · refine .inl ?_
        unfold Gr.at_ Gr.clr
        rw [Gr.nd_set _ _ _ _ hi, if_neg e]
    · exact h
  split at ha
  · rw [ha]; unfold Gr.restart; split
    · rename_i hc
      have hi : a.n.toNat < G.nds.length := by omega
      refine h.still (Gr.len_set _ _ _) fun j t => .inl ?_
      unfold Gr.at_
      rw [Gr.nd_set _ _ _ _ hi]
      split
      · rename_i e; rw [e]
      · rfl
    · exact h
  split at ha
  · rw [ha]; exact h.still (by rw [catch_nds]) fun j t => .inl (Gr.at_nds (catch_nds _) j t)
  · rw [ha]; exact h
theorem grN_nds (k j : Nat) : ((grN k).nd j).sl = [] := by
  unfold Gr.nd grN
  rw [List.getD_eq_getElem?_getD]
  by_cases h : j < k
  · simp [h]
  · simp [h, nd0]
theorem KeyR.new (k : Nat) : KeyR (grN k) := fun i p hp => by rw [grN_nds] at hp; cases hp
theorem BFew.new (k : Nat) : BFew (grN k) := fun i s d hd => by
  unfold Gr.at_ at hd
  rw [grN_nds] at hd
  cases hd
end

end Go.Proofs.Ytbgopicpdpkccaa

namespace Go.Proofs.Ytbgopicpdpkccaa
open Go.RowKit
set_option linter.unusedVariables false
set_option linter.unusedSimpArgs false

structure Inv (N : Nat) (K : Int) (G : Gr) : Prop where
  pos : 0 ≤ K
  fit : Fit N K G
  one : ∀ s, One s G
  key : KeyR G
  bfew : BFew G
theorem Inv.new (N : Nat) : Inv N 0 (grN N) := ⟨Int.le_refl _, Fit.new N (Int.le_refl _), One.new N, KeyR.new N, BFew.new N⟩
theorem Inv.act {N : Nat} {K : Int} {G G' : Gr} {a : GA} (h : Inv N K G) (hK : K ≤ 1000000) (ha : G.Act a G') : Inv N (K + 1) G' :=
  ⟨by have := h.pos; omega, h.fit.act h.pos ha, fun s => (h.one s).act h.fit ha, h.key.act h.fit ha, h.bfew.act h.fit ha⟩
theorem Inv.rd {N : Nat} {K : Int} {G : Gr} (h : Inv N K G) (hK : K ≤ 100000) (n s : Int) : -9223372036854775808 ≤ (G.at_ n.toNat s).rd + 1 ∧ (G.at_ n.toNat s).rd + 1 < 9223372036854775808 := by
  by_cases hi : n.toNat < N
  · have := (h.fit.node n.toNat hi s).rd; omega
  · have : G.at_ n.toNat s = sl0 := by
      unfold Gr.at_ Gr.nd
      have hl := h.fit.len
      rw [List.getD_eq_getElem?_getD, List.getElem?_eq_none (by omega)]
      rfl
    rw [this]; decide
theorem Inv.few {N : Nat} {K : Int} {G : Gr} {S : Nat → Prop} {w : World} {r : Nat} (h : Inv N K G) (hr : RAt S w r G) (i : Nat) : (G.nd i).sl.length ≤ 256 := by
  obtain ⟨_, _, _, _, a, q⟩ := hr
  by_cases hi : i < G.nds.length
  · exact h.key.few (q.nd i hi).2.2.2
  · have : G.nd i = nd0 := by
      unfold Gr.nd
      rw [List.getD_eq_getElem?_getD, List.getElem?_eq_none (by omega)]
      rfl
    rw [this]; exact Nat.zero_le _
structure Duo (B g r : Nat) (Sg Sr : Nat → Prop) (G G2 : Gr) (w : World) : Prop where
  q : GAt Sg w g G
  t : RAt Sr w r G2
  newq : ∀ k, Sg k → B ≤ k
  newt : ∀ k, Sr k → B ≤ k
  dis : ∀ k, Sg k → ¬ Sr k
section
variable {B g r N : Nat} {K : Int} {Sg Sr : Nat → Prop} {G G2 G' : Gr} {w w' : World} {n s : Int} {t : ByteArray}
theorem GGo.upd (h : GGo Sg w g G w') : Upd Sg w w' := by obtain ⟨_, _, _, h⟩ := h; exact h
theorem RGo.upd (h : RGo Sr w r G w') : Upd Sr w w' := by obtain ⟨_, _, _, h⟩ := h; exact h
theorem Duo.step (h : Duo B g r Sg Sr G G2 w) (hb : Below w.heap.size w w') : Duo B g r Sg Sr G G2 w' := ⟨h.q.below hb, h.t.below hb, h.newq, h.newt, h.dis⟩
theorem Duo.left (h : Duo B g r Sg Sr G G2 w) (hg : GGo Sg w g G' w') (hB : B ≤ w.heap.size) : ∃ Sg', Duo B g r Sg' Sr G' G2 w' ∧ Upd Sg w w' := by
  obtain ⟨S', h1, h2, h3⟩ := hg
  refine ⟨S', ⟨h1, ?_, fun k hk => ?_, h.newt, fun k hk hs => ?_⟩, h3⟩
  · obtain ⟨An, cn, Am, cm, a, q⟩ := h.t
    exact ⟨An, cn, Am, cm, a, q.far h3 fun k hk hs => h.dis k hs hk⟩
  · rcases h2 k hk with h4 | h4
    · exact h.newq k h4
    · omega
  · rcases h2 k hk with h4 | h4
    · exact h.dis k h4 hs
    · have := h.t.lt.1 k hs; omega
theorem Duo.right (h : Duo B g r Sg Sr G G2 w) (hg : RGo Sr w r G' w') (hB : B ≤ w.heap.size) : ∃ Sr', Duo B g r Sg Sr' G G' w' ∧ Upd Sr w w' := by
  obtain ⟨S', h1, h2, h3⟩ := hg
  refine ⟨S', ⟨?_, h1, h.newq, fun k hk => ?_, fun k hk hs => ?_⟩, h3⟩
  · obtain ⟨An, cn, Am, cm, a, q⟩ := h.q
    exact ⟨An, cn, Am, cm, a, q.far h3 fun k hk hs => h.dis k hk hs⟩
  · rcases h2 k hk with h4 | h4
    · exact h.newt k h4
    · omega
  · rcases h2 k hs with h4 | h4
    · exact h.dis k hk h4
    · have := h.q.lt.1 k hk; omega
def Done (B N : Nat) (K : Int) (g r : Nat) (w : World) : Ending → World → Prop := fun e w' => e = .returned (.bool true) ∧ ∃ G', Inv N (K + 1) G' ∧ (∃ Sg Sr, Duo B g r Sg Sr G' G' w') ∧ Upd (fun k => B ≤ k) w w'
set_option maxRecDepth 100000 in
set_option maxHeartbeats 4000000 in
theorem does_k1 (h : Duo B g r Sg Sr G G w) (hB : B ≤ w.heap.size) (hi : Inv N K G) (hN : N ≤ 9) (hK : K ≤ 100000) : Calls Try.prog 29 #[.pointer (some ⟨g, 0, none⟩), .pointer (some ⟨r, 0, none⟩), .agg #[.int .i64 1, .int .i64 n, .int .i64 s, .string t]] w (Done B N K g r w) := by
  have hX : Below w.heap.size w (w.alloc (.cells #[.int .i64 1, .int .i64 n, .int .i64 s, .string t] 32)) := (Below.refl _ _).alloc (Nat.le_refl _) _
  have ka := Blk.new w 32 #[.int .i64 1, .int .i64 n, .int .i64 s, .string t]
  have P1 := h.step hX
  have P1d := P1.step (Below.refl _ _).drew
  have hSlt := h.q.lt.1
  have hTlt := h.t.lt.1
  have U1 : Upd (fun k => B ≤ k) w (w.alloc (.cells #[.int .i64 1, .int .i64 n, .int .i64 s, .string t] 32)).drew := (Upd.of_below' hX _).drew.mono fun k hk h => by omega
  have hrd := hi.rd hK n s
  have hfw := hi.few P1.t
  have hm2 : G.mail.length ≤ 100000 ∧ G.nds.length ≤ 9 := by have := hi.fit.room; have := hi.fit.len; omega
  have hm1 : G.mail.length ≤ 1000000 ∧ G.nds.length ≤ 1000 := by omega
  have hpc := hid (propose_any n s t P1d.q hm1 hrd)
  have hrc := hid (fun (Sg' : Nat → Prop) (w2 : World) (P2 : Duo B g r Sg' Sr (G.propose n s t) G w2) => by have q := P2.t; exact rpropose_any n s t q hm1 (fun i => by have := hfw i; omega) hrd)
  have HI := hid hi
  have HP := hid P1d
  have hz1 := ka.lt
  clear h hX P1 P1d hi hrd hfw hm1 hm2
  go_enter Try.func29, Try.ntmps29
  go_upto_region 3 with fail
  generalize w.alloc (.cells #[.int .i64 1, .int .i64 n, .int .i64 s, .string t] 32) = w1 at *
  have x1 : w1.cell? ⟨w.heap.size, 1, none⟩ = some (.int .i64 n) := ka.cell 1
  have x2 : w1.cell? ⟨w.heap.size, 2, none⟩ = some (.int .i64 s) := ka.cell 2
  have x3 : w1.cell? ⟨w.heap.size, 3, none⟩ = some (.string t) := ka.cell 3
  go_region_held3 (fun w' => w'.cell? ⟨w.heap.size, 1, none⟩ = some (.int .i64 n) ∧ w'.cell? ⟨w.heap.size, 2, none⟩ = some (.int .i64 s) ∧ w'.cell? ⟨w.heap.size, 3, none⟩ = some (.string t)) (first | exact ⟨x1, x2, x3⟩ | exact ⟨y1, y2, y3⟩ | exact ⟨z1, z2, z3⟩)
    (first
    | (go_at_call 10; refine (num_any _ _).mono ?_; rintro e w' ⟨rfl, hw'⟩; obtain rfl := hw'.symm)
    | (go_at_call 44; refine (hrc.out _ _ P2).mono ?_; rintro e w3 ⟨rfl, hg3⟩
       have ka3 : Blk w3 w.heap.size _ _ := Blk.upd ka2 hg3.upd fun hS => absurd (hTlt _ hS) (Nat.lt_irrefl _)
       have z1 : w3.cell? ⟨w.heap.size, 1, none⟩ = some (.int .i64 n) := ka3.cell 1
       have z2 : w3.cell? ⟨w.heap.size, 2, none⟩ = some (.int .i64 s) := ka3.cell 2
       have z3 : w3.cell? ⟨w.heap.size, 3, none⟩ = some (.string t) := ka3.cell 3
       clear ka3)
    | (go_at_call 18; refine hpc.out.mono ?_; rintro e w2 ⟨rfl, hg2⟩
       obtain ⟨Sg2, P2, U2⟩ := HP.out.left hg2 (by show B ≤ w1.heap.size; omega)
       have ka2 : Blk w2 w.heap.size _ _ := Blk.upd (w := w1.drew) ka U2 fun hS => absurd (hSlt _ hS) (Nat.lt_irrefl _)
       have y1 : w2.cell? ⟨w.heap.size, 1, none⟩ = some (.int .i64 n) := ka2.cell 1
       have y2 : w2.cell? ⟨w.heap.size, 2, none⟩ = some (.int .i64 s) := ka2.cell 2
       have y3 : w2.cell? ⟨w.heap.size, 3, none⟩ = some (.string t) := ka2.cell 3
))
  all_goals
    go_wp2_with fail
    go_ret
    have hsz : B ≤ w2.heap.size := by have h1 := U2.size; have h2 : B ≤ w1.drew.heap.size := (by show B ≤ w1.heap.size; omega); omega
    obtain ⟨Sr3, P3, U3⟩ := P2.right hg3 hsz
    refine ⟨by simp, G.propose n s t, HI.out.act (by omega) (show G.Act ⟨1, n, s, t⟩ (G.propose n s t) from by unfold Gr.Act; simp), ⟨_, _, P3⟩, (U1.trans (U2.mono (M' := fun k => B ≤ k) fun k _ h => HP.out.newq k h) fun _ _ h => h).trans (U3.mono (M' := fun k => B ≤ k) fun k _ h => P2.newt k h) fun _ _ h => h⟩

set_option maxRecDepth 100000 in
set_option maxHeartbeats 4000000 in
theorem does_k2 (h : Duo B g r Sg Sr G G w) (hB : B ≤ w.heap.size) (hi : Inv N K G) (hN : N ≤ 9) (hK : K ≤ 100000) : Calls Try.prog 29 #[.pointer (some ⟨g, 0, none⟩), .pointer (some ⟨r, 0, none⟩), .agg #[.int .i64 2, .int .i64 n, .int .i64 s, .string t]] w (Done B N K g r w) := by
  have hX : Below w.heap.size w (w.alloc (.cells #[.int .i64 2, .int .i64 n, .int .i64 s, .string t] 32)) := (Below.refl _ _).alloc (Nat.le_refl _) _
  have ka := Blk.new w 32 #[.int .i64 2, .int .i64 n, .int .i64 s, .string t]
  have P1 := h.step hX
  have P1d := P1.step (Below.refl _ _).drew
  have hSlt := h.q.lt.1
  have hTlt := h.t.lt.1
  have U1 : Upd (fun k => B ≤ k) w (w.alloc (.cells #[.int .i64 2, .int .i64 n, .int .i64 s, .string t] 32)).drew := (Upd.of_below' hX _).drew.mono fun k hk h => by omega
  have hrd := hi.rd hK n s
  have hfw := hi.few P1.t
  have hm2 : G.mail.length ≤ 100000 ∧ G.nds.length ≤ 9 := by have := hi.fit.room; have := hi.fit.len; omega
  have hm1 : G.mail.length ≤ 1000000 ∧ G.nds.length ≤ 1000 := by omega
  have hpc := hid (deliver_any n P1d.q hi.fit hN)
  have hrc := hid (fun (Sg' : Nat → Prop) (w2 : World) (G2 : Gr) (P2 : Duo B g r Sg' Sr G2 G w2) => rdeliver_any n P2.t hi.fit hN hi.key.range (fun i => by have := hfw i; omega) hi.bfew)
  have HI := hid hi
  have HP := hid P1d
  have hz1 := ka.lt
  clear h hX P1 P1d hi hrd hfw hm1 hm2
  go_enter Try.func29, Try.ntmps29
  go_upto_region 5 with fail
  generalize w.alloc (.cells #[.int .i64 2, .int .i64 n, .int .i64 s, .string t] 32) = w1 at *
  have x1 : w1.cell? ⟨w.heap.size, 1, none⟩ = some (.int .i64 n) := ka.cell 1
  go_region_held3 (fun w' => w'.cell? ⟨w.heap.size, 1, none⟩ = some (.int .i64 n)) (first | exact x1 | exact y1 | exact z1)
    (first
    | (go_at_call 45; refine (hrc.out _ _ _ P2).mono ?_; rintro e w3 ⟨rfl, G3, hd3, hg3⟩
       have ka3 : Blk w3 w.heap.size _ _ := Blk.upd ka2 hg3.upd fun hS => absurd (hTlt _ hS) (Nat.lt_irrefl _)
       have z1 : w3.cell? ⟨w.heap.size, 1, none⟩ = some (.int .i64 n) := ka3.cell 1
       clear ka3)
    | (go_at_call 19; refine hpc.out.mono ?_; rintro e w2 ⟨rfl, G2, hd2, hg2⟩
       obtain ⟨Sg2, P2, U2⟩ := HP.out.left hg2 (by show B ≤ w1.heap.size; omega)
       have ka2 : Blk w2 w.heap.size _ _ := Blk.upd (w := w1.drew) ka U2 fun hS => absurd (hSlt _ hS) (Nat.lt_irrefl _)
       have y1 : w2.cell? ⟨w.heap.size, 1, none⟩ = some (.int .i64 n) := ka2.cell 1
))
  all_goals
    go_wp2_with fail
    go_ret
    have hsz : B ≤ w2.heap.size := by have h1 := U2.size; have h2 : B ≤ w1.drew.heap.size := (by show B ≤ w1.heap.size; omega); omega
    obtain ⟨Sr3, P3, U3⟩ := P2.right hg3 hsz
    obtain rfl := DeliverR_one HI.out.one HI.out.fit hd2 hd3
    refine ⟨by simp, G2, HI.out.act (by omega) (show G.Act ⟨2, n, s, t⟩ (G2) from by unfold Gr.Act; simp; exact hd2), ⟨_, _, P3⟩, (U1.trans (U2.mono (M' := fun k => B ≤ k) fun k _ h => HP.out.newq k h) fun _ _ h => h).trans (U3.mono (M' := fun k => B ≤ k) fun k _ h => P2.newt k h) fun _ _ h => h⟩

set_option maxRecDepth 100000 in
set_option maxHeartbeats 4000000 in
theorem does_k3 (h : Duo B g r Sg Sr G G w) (hB : B ≤ w.heap.size) (hi : Inv N K G) (hN : N ≤ 9) (hK : K ≤ 100000) : Calls Try.prog 29 #[.pointer (some ⟨g, 0, none⟩), .pointer (some ⟨r, 0, none⟩), .agg #[.int .i64 3, .int .i64 n, .int .i64 s, .string t]] w (Done B N K g r w) := by
  have hX : Below w.heap.size w (w.alloc (.cells #[.int .i64 3, .int .i64 n, .int .i64 s, .string t] 32)) := (Below.refl _ _).alloc (Nat.le_refl _) _
  have ka := Blk.new w 32 #[.int .i64 3, .int .i64 n, .int .i64 s, .string t]
  have P1 := h.step hX
  have P1d := P1.step (Below.refl _ _).drew
  have hSlt := h.q.lt.1
  have hTlt := h.t.lt.1
  have U1 : Upd (fun k => B ≤ k) w (w.alloc (.cells #[.int .i64 3, .int .i64 n, .int .i64 s, .string t] 32)).drew := (Upd.of_below' hX _).drew.mono fun k hk h => by omega
  have hrd := hi.rd hK n s
  have hfw := hi.few P1.t
  have hm2 : G.mail.length ≤ 100000 ∧ G.nds.length ≤ 9 := by have := hi.fit.room; have := hi.fit.len; omega
  have hm1 : G.mail.length ≤ 1000000 ∧ G.nds.length ≤ 1000 := by omega
  have hpc := hid (drop_ex n P1d.q hm2.1)
  have hrc := hid (fun (Sg' : Nat → Prop) (w2 : World) (P2 : Duo B g r Sg' Sr (G.drop n) G w2) => rdrop_ex n P2.t hm2.1)
  have HI := hid hi
  have HP := hid P1d
  have hz1 := ka.lt
  clear h hX P1 P1d hi hrd hfw hm1 hm2
  go_enter Try.func29, Try.ntmps29
  go_upto_region 7 with fail
  generalize w.alloc (.cells #[.int .i64 3, .int .i64 n, .int .i64 s, .string t] 32) = w1 at *
  have x1 : w1.cell? ⟨w.heap.size, 1, none⟩ = some (.int .i64 n) := ka.cell 1
  go_region_held3 (fun w' => w'.cell? ⟨w.heap.size, 1, none⟩ = some (.int .i64 n)) (first | exact x1 | exact y1 | exact z1)
    (first
    | (go_at_call 46; refine (hrc.out _ _ P2).mono ?_; rintro e w3 ⟨rfl, hg3⟩
       have ka3 : Blk w3 w.heap.size _ _ := Blk.upd ka2 hg3.upd fun hS => absurd (hTlt _ hS) (Nat.lt_irrefl _)
       have z1 : w3.cell? ⟨w.heap.size, 1, none⟩ = some (.int .i64 n) := ka3.cell 1
       clear ka3)
    | (go_at_call 17; refine hpc.out.mono ?_; rintro e w2 ⟨rfl, hg2⟩
       obtain ⟨Sg2, P2, U2⟩ := HP.out.left hg2 (by show B ≤ w1.heap.size; omega)
       have ka2 : Blk w2 w.heap.size _ _ := Blk.upd (w := w1.drew) ka U2 fun hS => absurd (hSlt _ hS) (Nat.lt_irrefl _)
       have y1 : w2.cell? ⟨w.heap.size, 1, none⟩ = some (.int .i64 n) := ka2.cell 1
))
  all_goals
    go_wp2_with fail
    go_ret
    have hsz : B ≤ w2.heap.size := by have h1 := U2.size; have h2 : B ≤ w1.drew.heap.size := (by show B ≤ w1.heap.size; omega); omega
    obtain ⟨Sr3, P3, U3⟩ := P2.right hg3 hsz
    refine ⟨by simp, G.drop n, HI.out.act (by omega) (show G.Act ⟨3, n, s, t⟩ (G.drop n) from by unfold Gr.Act; simp), ⟨_, _, P3⟩, (U1.trans (U2.mono (M' := fun k => B ≤ k) fun k _ h => HP.out.newq k h) fun _ _ h => h).trans (U3.mono (M' := fun k => B ≤ k) fun k _ h => P2.newt k h) fun _ _ h => h⟩

set_option maxRecDepth 100000 in
set_option maxHeartbeats 4000000 in
theorem does_k4 (h : Duo B g r Sg Sr G G w) (hB : B ≤ w.heap.size) (hi : Inv N K G) (hN : N ≤ 9) (hK : K ≤ 100000) : Calls Try.prog 29 #[.pointer (some ⟨g, 0, none⟩), .pointer (some ⟨r, 0, none⟩), .agg #[.int .i64 4, .int .i64 n, .int .i64 s, .string t]] w (Done B N K g r w) := by
  have hX : Below w.heap.size w (w.alloc (.cells #[.int .i64 4, .int .i64 n, .int .i64 s, .string t] 32)) := (Below.refl _ _).alloc (Nat.le_refl _) _
  have ka := Blk.new w 32 #[.int .i64 4, .int .i64 n, .int .i64 s, .string t]
  have P1 := h.step hX
  have P1d := P1.step (Below.refl _ _).drew
  have hSlt := h.q.lt.1
  have hTlt := h.t.lt.1
  have U1 : Upd (fun k => B ≤ k) w (w.alloc (.cells #[.int .i64 4, .int .i64 n, .int .i64 s, .string t] 32)).drew := (Upd.of_below' hX _).drew.mono fun k hk h => by omega
  have hrd := hi.rd hK n s
  have hfw := hi.few P1.t
  have hm2 : G.mail.length ≤ 100000 ∧ G.nds.length ≤ 9 := by have := hi.fit.room; have := hi.fit.len; omega
  have hm1 : G.mail.length ≤ 1000000 ∧ G.nds.length ≤ 1000 := by omega
  have hpc := hid (double_ex n P1d.q hm2.1)
  have hrc := hid (fun (Sg' : Nat → Prop) (w2 : World) (P2 : Duo B g r Sg' Sr (G.double n) G w2) => rdouble_ex n P2.t hm2.1)
  have HI := hid hi
  have HP := hid P1d
  have hz1 := ka.lt
  clear h hX P1 P1d hi hrd hfw hm1 hm2
  go_enter Try.func29, Try.ntmps29
  go_upto_region 9 with fail
  generalize w.alloc (.cells #[.int .i64 4, .int .i64 n, .int .i64 s, .string t] 32) = w1 at *
  have x1 : w1.cell? ⟨w.heap.size, 1, none⟩ = some (.int .i64 n) := ka.cell 1
  go_region_held3 (fun w' => w'.cell? ⟨w.heap.size, 1, none⟩ = some (.int .i64 n)) (first | exact x1 | exact y1 | exact z1)
    (first
    | (go_at_call 47; refine (hrc.out _ _ P2).mono ?_; rintro e w3 ⟨rfl, hg3⟩
       have ka3 : Blk w3 w.heap.size _ _ := Blk.upd ka2 hg3.upd fun hS => absurd (hTlt _ hS) (Nat.lt_irrefl _)
       have z1 : w3.cell? ⟨w.heap.size, 1, none⟩ = some (.int .i64 n) := ka3.cell 1
       clear ka3)
    | (go_at_call 31; refine hpc.out.mono ?_; rintro e w2 ⟨rfl, hg2⟩
       obtain ⟨Sg2, P2, U2⟩ := HP.out.left hg2 (by show B ≤ w1.heap.size; omega)
       have ka2 : Blk w2 w.heap.size _ _ := Blk.upd (w := w1.drew) ka U2 fun hS => absurd (hSlt _ hS) (Nat.lt_irrefl _)
       have y1 : w2.cell? ⟨w.heap.size, 1, none⟩ = some (.int .i64 n) := ka2.cell 1
))
  all_goals
    go_wp2_with fail
    go_ret
    have hsz : B ≤ w2.heap.size := by have h1 := U2.size; have h2 : B ≤ w1.drew.heap.size := (by show B ≤ w1.heap.size; omega); omega
    obtain ⟨Sr3, P3, U3⟩ := P2.right hg3 hsz
    refine ⟨by simp, G.double n, HI.out.act (by omega) (show G.Act ⟨4, n, s, t⟩ (G.double n) from by unfold Gr.Act; simp), ⟨_, _, P3⟩, (U1.trans (U2.mono (M' := fun k => B ≤ k) fun k _ h => HP.out.newq k h) fun _ _ h => h).trans (U3.mono (M' := fun k => B ≤ k) fun k _ h => P2.newt k h) fun _ _ h => h⟩

set_option maxRecDepth 100000 in
set_option maxHeartbeats 4000000 in
theorem does_k5 (h : Duo B g r Sg Sr G G w) (hB : B ≤ w.heap.size) (hi : Inv N K G) (hN : N ≤ 9) (hK : K ≤ 100000) : Calls Try.prog 29 #[.pointer (some ⟨g, 0, none⟩), .pointer (some ⟨r, 0, none⟩), .agg #[.int .i64 5, .int .i64 n, .int .i64 s, .string t]] w (Done B N K g r w) := by
  have hX : Below w.heap.size w (w.alloc (.cells #[.int .i64 5, .int .i64 n, .int .i64 s, .string t] 32)) := (Below.refl _ _).alloc (Nat.le_refl _) _
  have ka := Blk.new w 32 #[.int .i64 5, .int .i64 n, .int .i64 s, .string t]
  have P1 := h.step hX
  have P1d := P1.step (Below.refl _ _).drew
  have hSlt := h.q.lt.1
  have hTlt := h.t.lt.1
  have U1 : Upd (fun k => B ≤ k) w (w.alloc (.cells #[.int .i64 5, .int .i64 n, .int .i64 s, .string t] 32)).drew := (Upd.of_below' hX _).drew.mono fun k hk h => by omega
  have hrd := hi.rd hK n s
  have hfw := hi.few P1.t
  have hm2 : G.mail.length ≤ 100000 ∧ G.nds.length ≤ 9 := by have := hi.fit.room; have := hi.fit.len; omega
  have hm1 : G.mail.length ≤ 1000000 ∧ G.nds.length ≤ 1000 := by omega
  have hpc := hid (crash_ex n P1d.q)
  have hrc := hid (fun (Sg' : Nat → Prop) (w2 : World) (P2 : Duo B g r Sg' Sr (G.crash n) G w2) => rcrash_ex n P2.t (fun i => by have := hfw i; omega))
  have HI := hid hi
  have HP := hid P1d
  have hz1 := ka.lt
  clear h hX P1 P1d hi hrd hfw hm1 hm2
  go_enter Try.func29, Try.ntmps29
  go_upto_region 11 with fail
  generalize w.alloc (.cells #[.int .i64 5, .int .i64 n, .int .i64 s, .string t] 32) = w1 at *
  have x1 : w1.cell? ⟨w.heap.size, 1, none⟩ = some (.int .i64 n) := ka.cell 1
  go_region_held3 (fun w' => w'.cell? ⟨w.heap.size, 1, none⟩ = some (.int .i64 n)) (first | exact x1 | exact y1 | exact z1)
    (first
    | (go_at_call 48; refine (hrc.out _ _ P2).mono ?_; rintro e w3 ⟨rfl, hg3⟩
       have ka3 : Blk w3 w.heap.size _ _ := Blk.upd ka2 hg3.upd fun hS => absurd (hTlt _ hS) (Nat.lt_irrefl _)
       have z1 : w3.cell? ⟨w.heap.size, 1, none⟩ = some (.int .i64 n) := ka3.cell 1
       clear ka3)
    | (go_at_call 32; refine hpc.out.mono ?_; rintro e w2 ⟨rfl, hg2⟩
       obtain ⟨Sg2, P2, U2⟩ := HP.out.left hg2 (by show B ≤ w1.heap.size; omega)
       have ka2 : Blk w2 w.heap.size _ _ := Blk.upd (w := w1.drew) ka U2 fun hS => absurd (hSlt _ hS) (Nat.lt_irrefl _)
       have y1 : w2.cell? ⟨w.heap.size, 1, none⟩ = some (.int .i64 n) := ka2.cell 1
))
  all_goals
    go_wp2_with fail
    go_ret
    have hsz : B ≤ w2.heap.size := by have h1 := U2.size; have h2 : B ≤ w1.drew.heap.size := (by show B ≤ w1.heap.size; omega); omega
    obtain ⟨Sr3, P3, U3⟩ := P2.right hg3 hsz
    refine ⟨by simp, G.crash n, HI.out.act (by omega) (show G.Act ⟨5, n, s, t⟩ (G.crash n) from by unfold Gr.Act; simp), ⟨_, _, P3⟩, (U1.trans (U2.mono (M' := fun k => B ≤ k) fun k _ h => HP.out.newq k h) fun _ _ h => h).trans (U3.mono (M' := fun k => B ≤ k) fun k _ h => P2.newt k h) fun _ _ h => h⟩

set_option maxRecDepth 100000 in
set_option maxHeartbeats 4000000 in
theorem does_k6 (h : Duo B g r Sg Sr G G w) (hB : B ≤ w.heap.size) (hi : Inv N K G) (hN : N ≤ 9) (hK : K ≤ 100000) : Calls Try.prog 29 #[.pointer (some ⟨g, 0, none⟩), .pointer (some ⟨r, 0, none⟩), .agg #[.int .i64 6, .int .i64 n, .int .i64 s, .string t]] w (Done B N K g r w) := by
  have hX : Below w.heap.size w (w.alloc (.cells #[.int .i64 6, .int .i64 n, .int .i64 s, .string t] 32)) := (Below.refl _ _).alloc (Nat.le_refl _) _
  have ka := Blk.new w 32 #[.int .i64 6, .int .i64 n, .int .i64 s, .string t]
  have P1 := h.step hX
  have P1d := P1.step (Below.refl _ _).drew
  have hSlt := h.q.lt.1
  have hTlt := h.t.lt.1
  have U1 : Upd (fun k => B ≤ k) w (w.alloc (.cells #[.int .i64 6, .int .i64 n, .int .i64 s, .string t] 32)).drew := (Upd.of_below' hX _).drew.mono fun k hk h => by omega
  have hrd := hi.rd hK n s
  have hfw := hi.few P1.t
  have hm2 : G.mail.length ≤ 100000 ∧ G.nds.length ≤ 9 := by have := hi.fit.room; have := hi.fit.len; omega
  have hm1 : G.mail.length ≤ 1000000 ∧ G.nds.length ≤ 1000 := by omega
  have hpc := hid (restart_ex n P1d.q)
  have hrc := hid (fun (Sg' : Nat → Prop) (w2 : World) (P2 : Duo B g r Sg' Sr (G.restart n) G w2) => rrestart_ex n P2.t)
  have HI := hid hi
  have HP := hid P1d
  have hz1 := ka.lt
  clear h hX P1 P1d hi hrd hfw hm1 hm2
  go_enter Try.func29, Try.ntmps29
  go_upto_region 13 with fail
  generalize w.alloc (.cells #[.int .i64 6, .int .i64 n, .int .i64 s, .string t] 32) = w1 at *
  have x1 : w1.cell? ⟨w.heap.size, 1, none⟩ = some (.int .i64 n) := ka.cell 1
  go_region_held3 (fun w' => w'.cell? ⟨w.heap.size, 1, none⟩ = some (.int .i64 n)) (first | exact x1 | exact y1 | exact z1)
    (first
    | (go_at_call 49; refine (hrc.out _ _ P2).mono ?_; rintro e w3 ⟨rfl, hg3⟩
       have ka3 : Blk w3 w.heap.size _ _ := Blk.upd ka2 hg3.upd fun hS => absurd (hTlt _ hS) (Nat.lt_irrefl _)
       have z1 : w3.cell? ⟨w.heap.size, 1, none⟩ = some (.int .i64 n) := ka3.cell 1
       clear ka3)
    | (go_at_call 33; refine hpc.out.mono ?_; rintro e w2 ⟨rfl, hg2⟩
       obtain ⟨Sg2, P2, U2⟩ := HP.out.left hg2 (by show B ≤ w1.heap.size; omega)
       have ka2 : Blk w2 w.heap.size _ _ := Blk.upd (w := w1.drew) ka U2 fun hS => absurd (hSlt _ hS) (Nat.lt_irrefl _)
       have y1 : w2.cell? ⟨w.heap.size, 1, none⟩ = some (.int .i64 n) := ka2.cell 1
))
  all_goals
    go_wp2_with fail
    go_ret
    have hsz : B ≤ w2.heap.size := by have h1 := U2.size; have h2 : B ≤ w1.drew.heap.size := (by show B ≤ w1.heap.size; omega); omega
    obtain ⟨Sr3, P3, U3⟩ := P2.right hg3 hsz
    refine ⟨by simp, G.restart n, HI.out.act (by omega) (show G.Act ⟨6, n, s, t⟩ (G.restart n) from by unfold Gr.Act; simp), ⟨_, _, P3⟩, (U1.trans (U2.mono (M' := fun k => B ≤ k) fun k _ h => HP.out.newq k h) fun _ _ h => h).trans (U3.mono (M' := fun k => B ≤ k) fun k _ h => P2.newt k h) fun _ _ h => h⟩

set_option maxRecDepth 100000 in
set_option maxHeartbeats 4000000 in
theorem does_k7 (h : Duo B g r Sg Sr G G w) (hB : B ≤ w.heap.size) (hi : Inv N K G) (hN : N ≤ 9) (hK : K ≤ 100000) : Calls Try.prog 29 #[.pointer (some ⟨g, 0, none⟩), .pointer (some ⟨r, 0, none⟩), .agg #[.int .i64 7, .int .i64 n, .int .i64 s, .string t]] w (Done B N K g r w) := by
  have hX : Below w.heap.size w (w.alloc (.cells #[.int .i64 7, .int .i64 n, .int .i64 s, .string t] 32)) := (Below.refl _ _).alloc (Nat.le_refl _) _
  have ka := Blk.new w 32 #[.int .i64 7, .int .i64 n, .int .i64 s, .string t]
  have P1 := h.step hX
  have P1d := P1.step (Below.refl _ _).drew
  have hSlt := h.q.lt.1
  have hTlt := h.t.lt.1
  have U1 : Upd (fun k => B ≤ k) w (w.alloc (.cells #[.int .i64 7, .int .i64 n, .int .i64 s, .string t] 32)).drew := (Upd.of_below' hX _).drew.mono fun k hk h => by omega
  have hrd := hi.rd hK n s
  have hfw := hi.few P1.t
  have hm2 : G.mail.length ≤ 100000 ∧ G.nds.length ≤ 9 := by have := hi.fit.room; have := hi.fit.len; omega
  have hm1 : G.mail.length ≤ 1000000 ∧ G.nds.length ≤ 1000 := by omega
  have hpc := hid (catch_any n P1d.q hm1)
  have hrc := hid (fun (Sg' : Nat → Prop) (w2 : World) (P2 : Duo B g r Sg' Sr (G.catch n) G w2) => rcatch_any n P2.t hm2 hi.key.range (fun i => by have := hfw i; omega))
  have HI := hid hi
  have HP := hid P1d
  have hz1 := ka.lt
  clear h hX P1 P1d hi hrd hfw hm1 hm2
  go_enter Try.func29, Try.ntmps29
  go_upto_region 15 with fail
  generalize w.alloc (.cells #[.int .i64 7, .int .i64 n, .int .i64 s, .string t] 32) = w1 at *
  have x1 : w1.cell? ⟨w.heap.size, 1, none⟩ = some (.int .i64 n) := ka.cell 1
  go_region_held3 (fun w' => w'.cell? ⟨w.heap.size, 1, none⟩ = some (.int .i64 n)) (first | exact x1 | exact y1 | exact z1)
    (first
    | (go_at_call 50; refine (hrc.out _ _ P2).mono ?_; rintro e w3 ⟨rfl, hg3⟩
       have ka3 : Blk w3 w.heap.size _ _ := Blk.upd ka2 hg3.upd fun hS => absurd (hTlt _ hS) (Nat.lt_irrefl _)
       have z1 : w3.cell? ⟨w.heap.size, 1, none⟩ = some (.int .i64 n) := ka3.cell 1
       clear ka3)
    | (go_at_call 26; refine hpc.out.mono ?_; rintro e w2 ⟨rfl, hg2⟩
       obtain ⟨Sg2, P2, U2⟩ := HP.out.left hg2 (by show B ≤ w1.heap.size; omega)
       have ka2 : Blk w2 w.heap.size _ _ := Blk.upd (w := w1.drew) ka U2 fun hS => absurd (hSlt _ hS) (Nat.lt_irrefl _)
       have y1 : w2.cell? ⟨w.heap.size, 1, none⟩ = some (.int .i64 n) := ka2.cell 1
))
  all_goals
    go_wp2_with fail
    go_ret
    have hsz : B ≤ w2.heap.size := by have h1 := U2.size; have h2 : B ≤ w1.drew.heap.size := (by show B ≤ w1.heap.size; omega); omega
    obtain ⟨Sr3, P3, U3⟩ := P2.right hg3 hsz
    refine ⟨by simp, G.catch n, HI.out.act (by omega) (show G.Act ⟨7, n, s, t⟩ (G.catch n) from by unfold Gr.Act; simp), ⟨_, _, P3⟩, (U1.trans (U2.mono (M' := fun k => B ≤ k) fun k _ h => HP.out.newq k h) fun _ _ h => h).trans (U3.mono (M' := fun k => B ≤ k) fun k _ h => P2.newt k h) fun _ _ h => h⟩

set_option maxRecDepth 100000 in
set_option maxHeartbeats 4000000 in
theorem does_else (kd : Int) (h1 : kd ≠ 1) (h2 : kd ≠ 2) (h3 : kd ≠ 3) (h4 : kd ≠ 4) (h5 : kd ≠ 5) (h6 : kd ≠ 6) (h7 : kd ≠ 7) (h : Duo B g r Sg Sr G G w) (hB : B ≤ w.heap.size) (hi : Inv N K G) (hN : N ≤ 9) (hK : K ≤ 100000) : Calls Try.prog 29 #[.pointer (some ⟨g, 0, none⟩), .pointer (some ⟨r, 0, none⟩), .agg #[.int .i64 kd, .int .i64 n, .int .i64 s, .string t]] w (Done B N K g r w) := by
  have hX : Below w.heap.size w (w.alloc (.cells #[.int .i64 kd, .int .i64 n, .int .i64 s, .string t] 32)) := (Below.refl _ _).alloc (Nat.le_refl _) _
  have P1 := h.step hX
  have HI := hid hi
  have fin : Hid (Done B N K g r w (.returned (.bool true)) (w.alloc (.cells #[.int .i64 kd, .int .i64 n, .int .i64 s, .string t] 32))) := hid ⟨rfl, G, HI.out.act (by omega) (show G.Act ⟨kd, n, s, t⟩ G from by unfold Gr.Act; simp [h1, h2, h3, h4, h5, h6, h7]), ⟨_, _, P1⟩, (Upd.of_below' hX _).mono fun k hk h => by omega⟩
  clear h hX P1 hi HI
  go_enter Try.func29, Try.ntmps29
  go_wp2_with fail
  go_ret
  exact fin.out
theorem does_any (a : GA) (h : Duo B g r Sg Sr G G w) (hB : B ≤ w.heap.size) (hi : Inv N K G) (hN : N ≤ 9) (hK : K ≤ 100000) : Calls Try.prog 29 #[.pointer (some ⟨g, 0, none⟩), .pointer (some ⟨r, 0, none⟩), .agg #[.int .i64 a.kind, .int .i64 a.n, .int .i64 a.slot, .string a.text]] w (Done B N K g r w) := by
  by_cases h1 : a.kind = 1
  · rw [h1]; exact does_k1 h hB hi hN hK
  by_cases h2 : a.kind = 2
  · rw [h2]; exact does_k2 h hB hi hN hK
  by_cases h3 : a.kind = 3
  · rw [h3]; exact does_k3 h hB hi hN hK
  by_cases h4 : a.kind = 4
  · rw [h4]; exact does_k4 h hB hi hN hK
  by_cases h5 : a.kind = 5
  · rw [h5]; exact does_k5 h hB hi hN hK
  by_cases h6 : a.kind = 6
  · rw [h6]; exact does_k6 h hB hi hN hK
  by_cases h7 : a.kind = 7
  · rw [h7]; exact does_k7 h hB hi hN hK
  exact does_else a.kind h1 h2 h3 h4 h5 h6 h7 h hB hi hN hK
end

end Go.Proofs.Ytbgopicpdpkccaa

namespace Go.Proofs.Ytbgopicpdpkccaa
open Go.RowKit
set_option linter.unusedVariables false
set_option linter.unusedSimpArgs false

/-! what is chosen -/
/-- the document's search -/
def Gr.rch (G : Gr) (s : Int) : Nat → Vt
  | 0 => vt0
  | k + 1 =>
    let a := (G.at_ k s).accd
    if 0 < a.bal.rd ∧ G.nds.length / 2 + 1 ≤ (G.have_ s G.nds.length a.bal).length ∧ Bal.lt (G.rch s k).bal a.bal then a else G.rch s k
theorem have_mono (G : Gr) (s : Int) (b : Bal) {j k : Nat} (h : j ≤ k) : (G.have_ s j b).length ≤ (G.have_ s k b).length := by
  unfold Gr.have_
  exact ((List.range_sublist.2 h).filter _).length_le
theorem have_succ (G : Gr) (s : Int) (b : Bal) (k : Nat) : (G.have_ s (k + 1) b).length = (G.have_ s k b).length + if (G.at_ k s).accd.bal = b then 1 else 0 := by
  unfold Gr.have_
  rw [List.range_succ, List.filter_append, List.length_append]
  by_cases e : (G.at_ k s).accd.bal = b
  · simp [e]
  · simp [e]
theorem have_one {G : Gr} {s : Int} {b c : Bal} (hb : G.nds.length / 2 + 1 ≤ (G.have_ s G.nds.length b).length) (hc : G.nds.length / 2 + 1 ≤ (G.have_ s G.nds.length c).length) : b = c := by
  refine Classical.byContradiction fun hne => ?_
  have hn : ∀ b, (G.have_ s G.nds.length b).Nodup := fun b => List.Pairwise.filter _ List.nodup_range
  have hr : ∀ b, ∀ f ∈ G.have_ s G.nds.length b, f < G.nds.length := fun b f hf => List.mem_range.1 (List.mem_filter.1 hf).1
  have hd : (G.have_ s G.nds.length b ++ G.have_ s G.nds.length c).Nodup := List.nodup_append.2 ⟨hn b, hn c, fun x hx y hy e => by
    subst e
    have h1 := of_decide_eq_true (List.mem_filter.1 hx).2
    have h2 := of_decide_eq_true (List.mem_filter.1 hy).2
    exact hne (h1.symm.trans h2)⟩
  have := nodup_le hd (N := G.nds.length) fun f hf => (List.mem_append.1 hf).elim (hr b f) (hr c f)
  rw [List.length_append] at this
  omega
theorem rch_form (G : Gr) (s : Int) : ∀ k, k ≤ G.nds.length → G.rch s k = vt0 ∨ ∃ j, j < k ∧ G.rch s k = (G.at_ j s).accd ∧ 0 < (G.rch s k).bal.rd ∧ G.nds.length / 2 + 1 ≤ (G.have_ s G.nds.length (G.rch s k).bal).length := by
  intro k
  induction k with
  | zero => intro _; exact .inl rfl
  | succ k ih =>
    intro hk
    unfold Gr.rch
    simp only
    split
    · rename_i hc
      exact .inr ⟨k, by omega, rfl, hc.1, hc.2.1⟩
    · rcases ih (by omega) with h | ⟨j, h1, h2⟩
      · exact .inl h
      · exact .inr ⟨j, by omega, h2⟩
theorem bal0_lt {b : Bal} (h : 0 < b.rd) : Bal.lt bal0 b := .inl h
theorem lt_bal0 {b : Bal} (h : 0 < b.rd) : 0 < cmpB b bal0 := by
  refine Classical.byContradiction fun hn => ?_
  rw [Int.not_lt, cmpB_le] at hn
  simp only [bal0] at hn
  omega
section
variable {G : Gr} {s : Int} {b : Bal}
/-- one ballot has a majority -/
theorem tally_of (hb : 0 < b.rd) (hm : G.nds.length / 2 + 1 ≤ (G.have_ s G.nds.length b).length) : ∀ k, k ≤ G.nds.length → (G.tally s k).2.bal = if G.nds.length / 2 + 1 ≤ (G.have_ s k b).length then b else bal0 := by
  intro k
  induction k with
  | zero => intro _; rw [if_neg (by unfold Gr.have_; simp)]; rfl
  | succ k ih =>
    intro hk
    have ih := ih (by omega)
    have hs := have_succ G s b k
    unfold Gr.tally
    simp only
    rw [tally_count]
    by_cases e : (G.at_ k s).accd.bal = b
    · rw [if_pos e] at hs
      rw [e, hs, ih]
      by_cases h1 : G.nds.length / 2 + 1 ≤ (G.have_ s k b).length
      · rw [if_pos h1, if_neg (by omega), ih, if_pos h1, if_pos (by omega)]
      · rw [if_neg h1]
        by_cases h2 : (G.have_ s k b).length + 1 = G.nds.length / 2 + 1
        · rw [if_pos ⟨hb, by omega, lt_bal0 hb⟩, if_pos (by omega), e]
        · rw [if_neg (by omega), if_neg (by omega), ih, if_neg h1]
    · rw [if_neg e, Nat.add_zero (List.length _)] at hs
      rw [hs, if_neg, ih]
      rintro ⟨h1, h2, _⟩
      have h3 := have_succ G s (G.at_ k s).accd.bal k
      rw [if_pos rfl] at h3
      have h4 := have_mono G s (G.at_ k s).accd.bal hk
      exact e (have_one (by omega) hm)
theorem rch_of (hb : 0 < b.rd) (hm : G.nds.length / 2 + 1 ≤ (G.have_ s G.nds.length b).length) : ∀ k, k ≤ G.nds.length → (G.rch s k).bal = if 1 ≤ (G.have_ s k b).length then b else bal0 := by
  intro k
  induction k with
  | zero => intro _; rw [if_neg (by unfold Gr.have_; simp)]; rfl
  | succ k ih =>
    intro hk
    have ih := ih (by omega)
    have hs := have_succ G s b k
    unfold Gr.rch
    simp only
    by_cases e : (G.at_ k s).accd.bal = b
    · rw [if_pos e] at hs
      rw [e, hs, ih, if_pos (show 1 ≤ (G.have_ s k b).length + 1 by omega)]
      by_cases h1 : 1 ≤ (G.have_ s k b).length
      · rw [if_pos h1, if_neg, ih, if_pos h1]
        rintro ⟨_, _, h3⟩
        exact Bal.not_lt (Bal.refl _) h3
      · rw [if_neg h1, if_pos ⟨hb, hm, bal0_lt hb⟩, e]
    · rw [if_neg e, Nat.add_zero (List.length _)] at hs
      rw [hs, if_neg, ih]
      rintro ⟨h1, h2, _⟩
      exact e (have_one h2 hm)
theorem One.chosen (h : One s G) : G.chosen s = G.rch s G.nds.length := by
  by_cases hx : ∃ b : Bal, 0 < b.rd ∧ G.nds.length / 2 + 1 ≤ (G.have_ s G.nds.length b).length
  · obtain ⟨b, hb, hm⟩ := hx
    obtain ⟨pr, g, hs⟩ := h
    have h1 := tally_of hb hm _ (Nat.le_refl _)
    have h2 := rch_of hb hm _ (Nat.le_refl _)
    rw [if_pos hm] at h1
    rw [if_pos (by omega)] at h2
    have hacc : ∀ f, f < G.nds.length → 0 < (G.at_ f s).accd.bal.rd → g.P (G.at_ f s).accd.bal (G.at_ f s).accd.text := fun f hf hp => by
      rcases (hs.node f hf).acc with e | e
      · rw [e] at hp; exact absurd hp (by decide)
      · exact e.2
    rcases tally_best G s _ (Nat.le_refl _) with e | ⟨j, a1, a2, a3, _⟩
    · rw [e] at h1; rw [← h1] at hb; exact absurd hb (by decide)
    rcases rch_form G s _ (Nat.le_refl _) with e | ⟨j', c1, c2, c3, _⟩
    · rw [e] at h2; rw [← h2] at hb; exact absurd hb (by decide)
    unfold Gr.chosen
    have p1 := hacc j a1 (by rw [← a2]; exact a3)
    have p2 := hacc j' c1 (by rw [← c2]; exact c3)
    rw [← a2, h1] at p1
    rw [← c2, h2] at p2
    have := (hs.ps _ _ p2).fun_ _ p1
    generalize (G.tally s G.nds.length).2 = u at *
    generalize G.rch s G.nds.length = v at *
    cases u; cases v; simp_all
  · rcases tally_best G s _ (Nat.le_refl _) with e | ⟨j, a1, a2, a3, a4⟩
    · rcases rch_form G s _ (Nat.le_refl _) with e2 | ⟨j', c1, c2, c3, c4⟩
      · unfold Gr.chosen; rw [e, e2]
      · exact absurd ⟨_, c3, c4⟩ hx
    · refine absurd ⟨_, a3, ?_⟩ hx
      have h1 := a4.2.2
      have h2 := have_mono G s (G.tally s G.nds.length).2.bal (show j + 1 ≤ G.nds.length by omega)
      omega
end


end Go.Proofs.Ytbgopicpdpkccaa

