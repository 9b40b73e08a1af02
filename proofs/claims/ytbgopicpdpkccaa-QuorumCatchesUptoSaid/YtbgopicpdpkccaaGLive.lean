/- quorum: live. -/
import Derived.Test.YtbgopicpdpkccaaGMail
namespace Go.Proofs.Ytbgopicpdpkccaa
open Go.RowKit
set_option linter.unusedVariables false
set_option linter.unusedSimpArgs false

/-- a message handled, as if no answer had an older text -/
def Gr.hand1 (G : Gr) (i : Nat) (s : Int) (x : Sl) (m : Ml) : Gr :=
  if m.kind = 1 then G.prepare i s x m else if m.kind = 2 then (match x.cnts m false with
    | none => G
    | some d2 => if d2.ans.length = G.nds.length / 2 + 1 then G.promised i s x m d2 ⟨bal0, d2.text⟩ else G.setSl i s { x with bid := some d2 })
  else if m.kind = 3 then G.accept i s x m else if m.kind = 4 then G.acceptedOf i s x m else if m.kind = 5 then G.learn i s x m else G.ask m
def Gr.plain (x : Sl) (m : Ml) : Bool := match x.cnts m false with
  | none => true
  | some d2 => d2.ans.all fun p => decide (p.2.bal.rd ≤ 0)
theorem handle_one {G G' : Gr} {i : Nat} {s : Int} {x : Sl} {m : Ml} (hp : Gr.plain x m = true) (h : G.Handle i s x m G') : G' = G.hand1 i s x m := by
  unfold Gr.Handle at h
  unfold Gr.hand1
  by_cases h1 : m.kind = 1
  · rw [if_pos h1] at h; rw [if_pos h1]; exact h
  rw [if_neg h1] at h; rw [if_neg h1]
  by_cases h2 : m.kind = 2
  · rw [if_pos h2] at h; rw [if_pos h2]
    unfold Gr.Promise at h
    unfold Gr.plain at hp
    cases hc : x.cnts m false with
    | none => rw [hc] at h; exact h
    | some d2 =>
      rw [hc] at h hp
      simp only at h hp ⊢
      by_cases h3 : d2.ans.length = G.nds.length / 2 + 1
      · rw [if_pos h3] at h; rw [if_pos h3]
        obtain ⟨best, ⟨hb, _⟩, h⟩ := h
        rcases hb with rfl | ⟨p, hp1, rfl, hp2⟩
        · exact h
        · have := List.all_eq_true.1 hp p hp1
          have := of_decide_eq_true this
          omega
      · rw [if_neg h3] at h; rw [if_neg h3]; exact h
  rw [if_neg h2] at h; rw [if_neg h2]
  exact (by
    split at h
    · rename_i h3; rw [if_pos h3]; exact h
    · rename_i h3; rw [if_neg h3]
      split at h
      · rename_i h4; rw [if_pos h4]; exact h
      · rename_i h4; rw [if_neg h4]
        split at h
        · rename_i h5; rw [if_pos h5]; exact h
        · rename_i h5; rw [if_neg h5]; exact h)
/-- the first message comes -/
def Gr.step0 (G : Gr) : Gr := match G.mail with
  | [] => G
  | m :: _ => if (G.nd m.dst.toNat).up = true then ((G.gone 0).touch m.dst.toNat m.slot).hand1 m.dst.toNat m.slot ((G.gone 0).at_ m.dst.toNat m.slot) m else G.gone 0
def Gr.good0 (G : Gr) : Bool := match G.mail with
  | [] => true
  | m :: _ => decide (1 ≤ m.kind) && decide (m.kind ≤ 6) && decide (0 ≤ m.dst) && decide (m.dst < G.nds.length) && decide (0 ≤ m.slot) && decide (m.slot ≤ 1000) && decide (G.nds.length ≤ 1000) && decide (G.mail.length ≤ 100000) && Gr.plain ((G.gone 0).at_ m.dst.toNat m.slot) m
def liveG : Nat → Gr
  | 0 => (grN 3).propose 0 0 ⟨#[120]⟩
  | n + 1 => (liveG n).step0
/-- where the loop of live stands -/
def LGo (w wr : World) (k : Nat) : Prop := ∃ S, GAt S wr w.heap.size (liveG k) ∧ (∀ j, S j → w.heap.size ≤ j) ∧ Below w.heap.size w wr
def Gr.same (G H : Gr) : Bool := decide (G = H)
theorem live_good : (List.range 40).all (fun i => (liveG i).good0) = true := by decide +kernel
theorem live_code : (grN 3).code 0 0 ⟨#[120]⟩ = 0 := by decide +kernel
theorem live_rd : ((grN 3).at_ 0 0).rd = 0 := by decide +kernel
theorem live_end : (((liveG 40).st 2 0).text = ⟨#[120]⟩ ∧ ((liveG 40).st 2 0).is = true) ∧ (liveG 40).mail = [] := by decide +kernel
section
variable {S : Nat → Prop} {w w' : World} {g : Nat} {An Am : Option Addr} {cn cm : Nat} {G : Gr} {a : Ad}
set_option maxRecDepth 100000 in
set_option maxHeartbeats 1000000 in
theorem deliver_no (k : Int) (h : GAt S w g G) (hk : k < 0 ∨ (G.mail.length : Int) ≤ k) : Calls Try.prog 19 #[.pointer (some ⟨g, 0, none⟩), .int .i64 k] w fun e w' => e = .returned (.bool false) ∧ w' = w := by
  obtain ⟨An, cn, Am, cm, a, q⟩ := h
  obtain ⟨c0, c1⟩ := q.cells
  clear q
  by_cases h0 : k < 0
  · have t1 : decide (k < 0) = true := decide_eq_true h0
    clear h0 hk
    go_enter Try.func19, Try.ntmps19
    go_wp2_with fail
    go_ret
    exact ⟨rfl, rfl⟩
  · have t1 : decide (k < 0) = false := decide_eq_false h0
    have t2 : decide ((G.mail.length : Int) ≤ k) = true := decide_eq_true (by omega)
    clear h0 hk
    go_enter Try.func19, Try.ntmps19
    go_wp2_with fail
    go_ret
    exact ⟨rfl, rfl⟩
/-- the first message, if there is any -/
theorem deliver_first (h : GAt S w g G) (hg : G.good0 = true) : Calls Try.prog 19 #[.pointer (some ⟨g, 0, none⟩), .int .i64 0] w fun e w' => (∃ b, e = .returned (.bool b)) ∧ GGo S w g G.step0 w' := by
  cases hm : G.mail with
  | nil =>
    have hs : G.step0 = G := by unfold Gr.step0; rw [hm]
    rw [hs]
    refine (deliver_no 0 h (.inr (by rw [hm]; simp))).mono ?_
    rintro e w' ⟨rfl, rfl⟩
    exact ⟨⟨_, rfl⟩, GGo.stay h⟩
  | cons m l =>
    unfold Gr.good0 at hg
    rw [hm] at hg
    simp only [Bool.and_eq_true, decide_eq_true_eq] at hg
    obtain ⟨⟨⟨⟨⟨⟨⟨⟨g1, g2⟩, g3⟩, g4⟩, g5⟩, g6⟩, g7⟩, g8⟩, g9⟩ := hg
    have hk : 0 < G.mail.length := by rw [hm]; simp
    refine (deliver_yes 0 m h hk (by simp [hm]) ⟨g1, g2⟩ ⟨g3, g4⟩ ⟨g5, g6⟩ g7 (by rw [hm]; exact g8)).mono ?_
    rintro e w' ⟨rfl, G', hd, hgo⟩
    have : G' = G.step0 := by
      unfold Gr.step0
      rw [hm]
      unfold Gr.Deliver at hd
      simp only
      by_cases hu : (G.nd m.dst.toNat).up = true
      · rw [if_pos hu] at hd; rw [if_pos hu]
        exact handle_one g9 hd
      · rw [if_neg hu] at hd; rw [if_neg hu]; exact hd
    exact ⟨⟨_, rfl⟩, this ▸ hgo⟩
theorem num_any (n : Int) (w : World) : Calls Try.prog 10 #[.int .i64 n] w fun e w' => e = .returned (.int .i64 n) ∧ w' = w := by
  go_enter Try.func10, Try.ntmps10
  go_wp2_with fail
  go_ret
  exact ⟨rfl, rfl⟩
set_option maxRecDepth 100000 in
set_option maxHeartbeats 2000000 in
theorem live_any (w : World) : Calls Try.prog 11 #[] w fun e w' => e = .returned (.bool true) ∧ Below w.heap.size w w' := by
  go_enter Try.func11, Try.ntmps11
  go_wp2_with fail
  refine (new_ok 3 w (by omega)).mono ?_
  rintro e w1 ⟨S1, rfl, h1, hS1, hb1⟩
  have H1 := hid h1; have HS1 := hid hS1; have Hb1 := hid hb1
  clear h1 hS1 hb1
  go_wp2_with (go_at_call 10; refine (num_any _ _).mono ?_; rintro e w2 ⟨rfl, rfl⟩)
  refine (propose_any 0 0 ⟨#[120]⟩ H1.out ⟨by decide, by decide⟩ ?_).mono ?_
  · have e : ((grN 3).at_ (Int.toNat 0) 0).rd = 0 := live_rd; omega
  rintro e w2 ⟨rfl, hgo2⟩
  rw [live_code]
  obtain ⟨S2, k2, kS2, ku2⟩ := hgo2
  have h0 : Hid (LGo w w2 0) := hid ⟨S2, k2, fun j hj => (kS2 j hj).elim (fun h => HS1.out j h) fun h => Nat.le_trans Hb1.out.size h, Hb1.out.trans (Upd.below ku2 Hb1.out.size fun j hj hm => by have := HS1.out j hm; omega)⟩
  clear k2 kS2 ku2
  go_wp2_with (go_at_call 10; refine (num_any _ _).mono ?_; rintro e w3 ⟨rfl, rfl⟩)
  go_loopw [3] (fun v wr => ∃ k : Nat, v = .int .i64 k ∧ k ≤ 40 ∧ LGo w wr k) (fun v _ => 40 - (intOf v).toNat)
  case atStart => exact ⟨0, rfl, by omega, h0.out⟩
  case round =>
    clear h0 H1 HS1 Hb1
    obtain ⟨k, rfl, hk, hL0⟩ := hrel
    have hL := hid hL0
    clear hL0
    by_cases hlt : k < 40
    · have i1 : (k : Int) < 40 := by omega
      obtain ⟨S, q, hS, hB⟩ := hL.out
      have hg : (liveG k).good0 = true := List.all_eq_true.1 live_good k (List.mem_range.2 hlt)
      have hd := hid (deliver_first q hg)
      have HS := hid hS; have HB := hid hB
      clear q hS hB hL
      go_wp2_with fail
      refine hd.out.mono ?_
      rintro e w4 ⟨⟨b, rfl⟩, S4, k4, kS4, ku4⟩
      have h4 : Hid (LGo w w4 (k + 1)) := hid ⟨S4, k4, fun j hj => (kS4 j hj).elim (fun h => HS.out j h) fun h => Nat.le_trans HB.out.size h, HB.out.trans (Upd.below ku4 HB.out.size fun j hj hm => by have := HS.out j hm; omega)⟩
      clear k4 kS4 ku4
      have hw : IntKind.i64.wrap ((k : Int) + 1) = (k : Int) + 1 := IntWalk.i64_in _ (by omega)
      go_wp2_with fail
      exact ⟨⟨k + 1, by simp, by omega, h4.out⟩, by simp [intOf]; omega⟩
    · obtain rfl : k = 40 := by omega
      obtain ⟨S, q, hS, hB⟩ := hL.out
      have hld := hid (learned_any 2 0 q)
      have Hq := hid q; have HS := hid hS; have HB := hid hB
      clear q hS hB hL
      go_wp2_with fail
      refine hld.out.mono ?_
      rintro e w4 ⟨rfl, hb4⟩
      obtain ⟨⟨le1, le2⟩, le3⟩ := live_end
      rw [le1, le2]
      have hml := mail_any (Hq.out.below hb4) (by rw [le3]; simp)
      rw [le3] at hml
      have hml2 := hid hml
      clear hml
      have Hb4 := hid hb4
      clear hb4
      go_wp2_with fail
      refine hml2.out.mono ?_
      rintro e w5 ⟨v, rfl, hv⟩
      obtain ⟨A5, c5, rfl, hc5, _⟩ := own_form hv.1
      have hb5 := hid hv.2
      have hbf : Hid (Below w.heap.size w w5) := hid (HB.out.trans ((Hb4.out.mono HB.out.size).trans (hb5.out.mono (Nat.le_trans HB.out.size Hb4.out.size))))
      clear hv
      go_wp2_with fail
      go_ret
      exact ⟨rfl, hbf.out⟩
end

end Go.Proofs.Ytbgopicpdpkccaa
