/- Texts of the proof, joined: GRActs. -/
import Derived.Test.YtbgopicpdpkccaaJ10
import Derived.Test.YtbgopicpdpkccaaJ11
namespace Go.Proofs.Ytbgopicpdpkccaa
open Go.RowKit
set_option linter.unusedVariables false
set_option linter.unusedSimpArgs false

def Gr.inB (G : Gr) (k : Int) : Bool := decide (0 ≤ k ∧ k < G.mail.length)
def Gr.dblB (G : Gr) (k : Int) : Bool := decide (0 ≤ k ∧ k < G.mail.length ∧ G.mail.length < 4096)
def Gr.crashB (G : Gr) (n : Int) : Bool := decide (0 ≤ n ∧ n < G.nds.length ∧ (G.nd n.toNat).up = true)
def Gr.rstB (G : Gr) (n : Int) : Bool := decide (0 ≤ n ∧ n < G.nds.length ∧ (G.nd n.toNat).up = false)
section
variable {S : Nat → Prop} {w w' : World} {g : Nat} {An Am : Option Addr} {cn cm : Nat} {G : Gr} {a : Ra}
set_option maxRecDepth 100000 in
set_option maxHeartbeats 1000000 in
theorem rdrop_no (k : Int) (h : RAt S w g G) (hk : k < 0 ∨ (G.mail.length : Int) ≤ k) : Calls Try.prog 46 #[.pointer (some ⟨g, 0, none⟩), .int .i64 k] w fun e w' => e = .returned (.bool false) ∧ w' = w := by
  obtain ⟨An, cn, Am, cm, a, q⟩ := h
  obtain ⟨c0, c1⟩ := q.cells
  clear q
  by_cases h0 : k < 0
  · have t1 : decide (k < 0) = true := decide_eq_true h0
    clear h0 hk
    go_enter Try.func46, Try.ntmps46
    go_wp2_with fail
    go_ret
    exact ⟨rfl, rfl⟩
  · have t1 : decide (k < 0) = false := decide_eq_false h0
    have t2 : decide ((G.mail.length : Int) ≤ k) = true := decide_eq_true (by omega)
    clear h0 hk
    go_enter Try.func46, Try.ntmps46
    go_wp2_with fail
    go_ret
    exact ⟨rfl, rfl⟩
set_option maxRecDepth 100000 in
set_option maxHeartbeats 1000000 in
theorem rdouble_no (k : Int) (h : RAt S w g G) (hk : k < 0 ∨ (G.mail.length : Int) ≤ k) : Calls Try.prog 47 #[.pointer (some ⟨g, 0, none⟩), .int .i64 k] w fun e w' => e = .returned (.bool false) ∧ w' = w := by
  obtain ⟨An, cn, Am, cm, a, q⟩ := h
  obtain ⟨c0, c1⟩ := q.cells
  clear q
  by_cases h0 : k < 0
  · have t1 : decide (k < 0) = true := decide_eq_true h0
    clear h0 hk
    go_enter Try.func47, Try.ntmps47
    go_wp2_with fail
    go_ret
    exact ⟨rfl, rfl⟩
  · have t1 : decide (k < 0) = false := decide_eq_false h0
    have t2 : decide ((G.mail.length : Int) ≤ k) = true := decide_eq_true (by omega)
    clear h0 hk
    go_enter Try.func47, Try.ntmps47
    go_wp2_with fail
    go_ret
    exact ⟨rfl, rfl⟩
set_option maxRecDepth 100000 in
set_option maxHeartbeats 1000000 in
theorem rdouble_full (k : Nat) (h : RAt S w g G) (hk : k < G.mail.length) (hl : G.mail.length ≤ 100000) (hf : 4096 ≤ G.mail.length) : Calls Try.prog 47 #[.pointer (some ⟨g, 0, none⟩), .int .i64 k] w fun e w' => e = .returned (.bool false) ∧ w' = w := by
  obtain ⟨An, cn, Am, cm, a, q⟩ := h
  have hSlt := q.lt
  obtain ⟨c0, c1⟩ := q.cells
  obtain ⟨gr, cur, rfl, hgr⟩ := own_formS q.mrow.1 (by omega)
  have hgS := q.inS
  have hrS : S gr := q.mrow.2 gr rfl
  have hgg : g ≠ gr := q.blk.ne_ hgr (by decide)
  have hgl := hSlt _ hgS
  have hrl := hSlt _ hrS
  have t1 : decide ((k : Int) < 0) = false := by simp
  have t2 : decide ((G.mail.length : Int) ≤ (k : Int)) = false := decide_eq_false (by omega)
  have t3 : decide (G.mail.length ≤ k) = false := decide_eq_false (by omega)
  have i1 : (k : Int) < (G.mail.length : Int) := by omega
  have t4 : decide (4096 ≤ (G.mail.length : Int)) = true := decide_eq_true (by omega)
  have t5 : decide (4096 ≤ G.mail.length) = true := decide_eq_true hf
  clear q hgr
  go_enter Try.func47, Try.ntmps47
  go_wp2_with fail
  go_ret
  exact ⟨rfl, rfl⟩
set_option maxRecDepth 100000 in
set_option maxHeartbeats 2000000 in
theorem rdouble_yes (k : Nat) (m : Ml) (h : RAt S w g G) (hk : k < G.mail.length) (hm : G.mail[k] = m) (hf : G.mail.length < 4096) : Calls Try.prog 47 #[.pointer (some ⟨g, 0, none⟩), .int .i64 k] w fun e w' => e = .returned (.bool true) ∧ RGo S w g (G.setMail (G.mail ++ [m])) w' := by
  obtain ⟨An, cn, Am, cm, a, q⟩ := h
  have hSlt := q.lt
  obtain ⟨c0, c1⟩ := q.cells
  obtain ⟨gr, cur, rfl, hgr⟩ := own_formS q.mrow.1 (by omega)
  have hgS := q.inS
  have hrS : S gr := q.mrow.2 gr rfl
  have hgg : g ≠ gr := q.blk.ne_ hgr (by decide)
  have hgl := hSlt _ hgS
  have hrl := hSlt _ hrS
  have t1 : decide ((k : Int) < 0) = false := by simp
  have t2 : decide ((G.mail.length : Int) ≤ (k : Int)) = false := decide_eq_false (by omega)
  have t3 : decide (G.mail.length ≤ k) = false := decide_eq_false (by omega)
  have i1 : (k : Int) < (G.mail.length : Int) := by omega
  have t4 : decide (4096 ≤ (G.mail.length : Int)) = false := decide_eq_false (by omega)
  have t5 : decide (4096 ≤ G.mail.length) = false := decide_eq_false (by omega)
  have m0 : w.cell? ⟨gr, k * 9, none⟩ = some (.int .i64 m.kind) := by
    rw [q.mrow.1.cellAt _ (by omega)]
    exact (mcells_at _ k 0 hk (by omega)).trans (by rw [hm]; rfl)
  have m1 : w.cell? ⟨gr, k * 9 + 1, none⟩ = some (.int .i64 m.fr) := by
    rw [q.mrow.1.cellAt _ (by omega)]
    exact (mcells_at _ k 1 hk (by omega)).trans (by rw [hm]; rfl)
  have m2 : w.cell? ⟨gr, k * 9 + 2, none⟩ = some (.int .i64 m.dst) := by
    rw [q.mrow.1.cellAt _ (by omega)]
    exact (mcells_at _ k 2 hk (by omega)).trans (by rw [hm]; rfl)
  have m3 : w.cell? ⟨gr, k * 9 + 3, none⟩ = some (.int .i64 m.slot) := by
    rw [q.mrow.1.cellAt _ (by omega)]
    exact (mcells_at _ k 3 hk (by omega)).trans (by rw [hm]; rfl)
  have m4 : w.cell? ⟨gr, k * 9 + 4, none⟩ = some (.int .i64 m.bal.rd) := by
    rw [q.mrow.1.cellAt _ (by omega)]
    exact (mcells_at _ k 4 hk (by omega)).trans (by rw [hm]; rfl)
  have m5 : w.cell? ⟨gr, k * 9 + 5, none⟩ = some (.int .i64 m.bal.nd) := by
    rw [q.mrow.1.cellAt _ (by omega)]
    exact (mcells_at _ k 5 hk (by omega)).trans (by rw [hm]; rfl)
  have m6 : w.cell? ⟨gr, k * 9 + 6, none⟩ = some (.int .i64 m.had.rd) := by
    rw [q.mrow.1.cellAt _ (by omega)]
    exact (mcells_at _ k 6 hk (by omega)).trans (by rw [hm]; rfl)
  have m7 : w.cell? ⟨gr, k * 9 + 7, none⟩ = some (.int .i64 m.had.nd) := by
    rw [q.mrow.1.cellAt _ (by omega)]
    exact (mcells_at _ k 7 hk (by omega)).trans (by rw [hm]; rfl)
  have m8 : w.cell? ⟨gr, k * 9 + 8, none⟩ = some (.string m.text) := by
    rw [q.mrow.1.cellAt _ (by omega)]
    exact (mcells_at _ k 8 hk (by omega)).trans (by rw [hm]; rfl)
  obtain ⟨im, him, hm0, hm1, hm2⟩ := info_parts info_mail
  have qf := fun j => q.blk.frozen j
  have hrow0 := q.mrow.1
  have hne0 : ∀ j, (Value.slice (some ⟨gr, 0, none⟩) G.mail.length cm).ownBlock = some j → j ≠ g ∧ S j ∧ ∃ cs, Blk w j 78 cs := fun j hj => by
    have : gr = j := by simpa [Value.ownBlock] using hj
    subst this
    exact ⟨hgg.symm, hrS, _, hgr⟩
  have hne := hid hne0
  have hq := hid q
  have hm' := hid hm
  clear q hne0 hgr hm
  go_enter Try.func47, Try.ntmps47
  go_upto_region 3 with fail
  go_region_law
    (refine step_append_rd _ rfl (.tmp 28) (.tmp 36) 58 rfl 0 78 im _ 9 80 Try.underlying58 him hm0 hm1 hm2 rfl (by omega) (.slice (some ⟨gr, 0, none⟩) G.mail.length cm) G.mail.length (mcells G.mail) rfl ?_ (fun b => b = w.heap.size) (some ⟨w.heap.size, 0, none⟩) 1 1 m.cells rfl ?_ ?_ ?_ ?_ ?_ (G.mail.length + 1) rfl (mcells G.mail ++ m.cells) rfl ?_
     go_must (
       · exact (hrow0.alloc _).drew
       · exact (Rd.new w 78 9 1 m.cells.toArray _ rfl rfl).drew
       · exact fun u hu => mcells_one [m] u (by simpa [mcells] using hu)
       · simp only [maxLen]; omega
       · omega
       · exact Nat.zero_le _
       intro A2 c2' w2 hown2 hg2 hat2
       have hu2 : Upd (fun k => (Value.slice (some ⟨gr, 0, none⟩) G.mail.length cm).ownBlock = some k) w w2 := (((Upd.refl _ w).alloc _).drew).grown hg2 fun k hk _ => hk
       have hk2 : w2.cell? ⟨g, 1, none⟩ = some (.slice (some ⟨gr, 0, none⟩) G.mail.length cm) := hu2.cell c1 fun hm => (hne.out g hm).1 rfl
       have hb2' := hq.out.blk.upd hu2 fun hm => (hne.out g hm).1 rfl
       have hf2' := fun j => hb2'.frozen j
       have hb2 := hid hb2'
       clear hb2'))
  all_goals
    go_wp2_with fail
    go_ret
    have q := hq.out
    have hu3 : Upd (fun k => (Value.slice (some ⟨gr, 0, none⟩) G.mail.length cm).ownBlock = some k ∨ k = g) w (w2.setCell ⟨g, 1, none⟩ (.slice A2 (G.mail.length + 1) c2')) := (hu2.mono fun k _ h => .inl h).setCell (p := ⟨g, 1, none⟩) (fun _ => .inr rfl) _
    have hl1 : (G.mail ++ [m]).length = G.mail.length + 1 := by simp
    have hpc : mcells (G.mail ++ [m]) = mcells G.mail ++ m.cells := by rw [mcells_app]; simp [mcells]
    have hz2 := hu2.size
    refine ⟨rfl, fun k => S k ∨ w.heap.size ≤ k ∧ k < w2.heap.size, ⟨_, _, A2, c2', _, q.post hu3 ?_ (fun k h => .inl h) ?_ (by rw [hl1]; exact hb2.out.set_ 1 _) ?_⟩, fun k h => h.imp id (·.1), ?_⟩
    · rintro k (h | h)
      · exact .inr (hne.out k h).2.2
      · exact .inl h
    · rintro k (h | h)
      · have := q.lt k h; simp; omega
      · simpa using h.2
    · rw [hl1, hpc]
      refine OwnS.keepT (w := w2) ⟨hown2, fun b hb => ?_⟩ fun b cs hb => Below.heap_setCell _ _ _ _ fun e => hb2.out.ne_ hb (by decide) e.symm
      have hlt := (hown2.lt b hb).2
      rcases hat2 with h | h
      · rw [h] at hb; exact .inl (hne.out b hb).2.1
      · rw [h] at hb; injection hb with hb; simp at hb; exact .inr ⟨by omega, hlt⟩
    · refine hu3.mono (M' := S) fun k _ h => ?_
      rcases h with h | rfl
      · exact (hne.out k h).2.1
      · exact q.inS
end
section
variable {S : Nat → Prop} {w : World} {g : Nat} {G : Gr}
theorem double_ex (k : Int) (h : GAt S w g G) (hl : G.mail.length ≤ 100000) : Calls Try.prog 31 #[.pointer (some ⟨g, 0, none⟩), .int .i64 k] w fun e w' => e = .returned (.bool (G.dblB k)) ∧ GGo S w g (G.double k) w' := by
  unfold Gr.double Gr.dblB
  by_cases h1 : 0 ≤ k ∧ k < G.mail.length
  · obtain ⟨j, rfl⟩ := Int.eq_ofNat_of_zero_le h1.1
    have hj : j < G.mail.length := by omega
    by_cases hf : G.mail.length < 4096
    · rw [if_pos ⟨h1.1, h1.2, hf⟩, decide_eq_true ⟨h1.1, h1.2, hf⟩, Int.toNat_natCast, List.getElem?_eq_getElem hj]
      exact double_yes j _ h hj rfl hf
    · rw [if_neg (fun hc => hf hc.2.2), decide_eq_false (fun hc => hf hc.2.2)]
      exact (double_full j h hj hl (by omega)).mono fun e w' ⟨he, hw⟩ => ⟨he, by subst hw; exact GGo.stay h⟩
  · rw [if_neg (fun hc => h1 ⟨hc.1, hc.2.1⟩), decide_eq_false (fun hc => h1 ⟨hc.1, hc.2.1⟩)]
    exact (double_no k h (by omega)).mono fun e w' ⟨he, hw⟩ => ⟨he, by subst hw; exact GGo.stay h⟩
theorem rdouble_ex (k : Int) (h : RAt S w g G) (hl : G.mail.length ≤ 100000) : Calls Try.prog 47 #[.pointer (some ⟨g, 0, none⟩), .int .i64 k] w fun e w' => e = .returned (.bool (G.dblB k)) ∧ RGo S w g (G.double k) w' := by
  unfold Gr.double Gr.dblB
  by_cases h1 : 0 ≤ k ∧ k < G.mail.length
  · obtain ⟨j, rfl⟩ := Int.eq_ofNat_of_zero_le h1.1
    have hj : j < G.mail.length := by omega
    by_cases hf : G.mail.length < 4096
    · rw [if_pos ⟨h1.1, h1.2, hf⟩, decide_eq_true ⟨h1.1, h1.2, hf⟩, Int.toNat_natCast, List.getElem?_eq_getElem hj]
      exact rdouble_yes j _ h hj rfl hf
    · rw [if_neg (fun hc => hf hc.2.2), decide_eq_false (fun hc => hf hc.2.2)]
      exact (rdouble_full j h hj hl (by omega)).mono fun e w' ⟨he, hw⟩ => ⟨he, by subst hw; exact RGo.stay h⟩
  · rw [if_neg (fun hc => h1 ⟨hc.1, hc.2.1⟩), decide_eq_false (fun hc => h1 ⟨hc.1, hc.2.1⟩)]
    exact (rdouble_no k h (by omega)).mono fun e w' ⟨he, hw⟩ => ⟨he, by subst hw; exact RGo.stay h⟩
theorem drop_ex (k : Int) (h : GAt S w g G) (hl : G.mail.length ≤ 100000) : Calls Try.prog 17 #[.pointer (some ⟨g, 0, none⟩), .int .i64 k] w fun e w' => e = .returned (.bool (G.inB k)) ∧ GGo S w g (G.drop k) w' := by
  unfold Gr.drop Gr.inB
  by_cases h1 : 0 ≤ k ∧ k < G.mail.length
  · obtain ⟨j, rfl⟩ := Int.eq_ofNat_of_zero_le h1.1
    have hj : j < G.mail.length := by omega
    rw [if_pos h1, decide_eq_true h1, Int.toNat_natCast]
    exact drop_yes j h hj hl
  · rw [if_neg h1, decide_eq_false h1]
    exact (drop_no k h (by omega)).mono fun e w' ⟨he, hw⟩ => ⟨he, by subst hw; exact GGo.stay h⟩
theorem crash_ex (n : Int) (h : GAt S w g G) : Calls Try.prog 32 #[.pointer (some ⟨g, 0, none⟩), .int .i64 n] w fun e w' => e = .returned (.bool (G.crashB n)) ∧ GGo S w g (G.crash n) w' := by
  unfold Gr.crash Gr.crashB
  by_cases h1 : 0 ≤ n ∧ n < G.nds.length
  · obtain ⟨i, rfl⟩ := Int.eq_ofNat_of_zero_le h1.1
    have hi : i < G.nds.length := by omega
    rw [Int.toNat_natCast]
    cases hu : (G.nd i).up with
    | true =>
      rw [if_pos ⟨h1.1, h1.2, rfl⟩, decide_eq_true ⟨h1.1, h1.2, rfl⟩]
      exact crash_yes i h hi hu
    | false =>
      rw [if_neg (fun hc => by have := hc.2.2; cases this), decide_eq_false (fun hc => by have := hc.2.2; cases this)]
      exact (crash_down i h hi hu).mono fun e w' ⟨he, hb⟩ => ⟨he, by subst hb; exact GGo.stay h⟩
  · rw [if_neg (fun hc => h1 ⟨hc.1, hc.2.1⟩), decide_eq_false (fun hc => h1 ⟨hc.1, hc.2.1⟩)]
    exact (crash_far n h (by omega)).mono fun e w' ⟨he, hb⟩ => ⟨he, by subst hb; exact GGo.stay h⟩
theorem restart_ex (n : Int) (h : GAt S w g G) : Calls Try.prog 33 #[.pointer (some ⟨g, 0, none⟩), .int .i64 n] w fun e w' => e = .returned (.bool (G.rstB n)) ∧ GGo S w g (G.restart n) w' := by
  unfold Gr.restart Gr.rstB
  by_cases h1 : 0 ≤ n ∧ n < G.nds.length
  · obtain ⟨i, rfl⟩ := Int.eq_ofNat_of_zero_le h1.1
    have hi : i < G.nds.length := by omega
    rw [Int.toNat_natCast]
    cases hu : (G.nd i).up with
    | false =>
      rw [if_pos ⟨h1.1, h1.2, rfl⟩, decide_eq_true ⟨h1.1, h1.2, rfl⟩]
      have := restart_yes i h hi hu
      exact this
    | true =>
      rw [if_neg (fun hc => by have := hc.2.2; cases this), decide_eq_false (fun hc => by have := hc.2.2; cases this)]
      exact (restart_up i h hi hu).mono fun e w' ⟨he, hb⟩ => ⟨he, by subst hb; exact GGo.stay h⟩
  · rw [if_neg (fun hc => h1 ⟨hc.1, hc.2.1⟩), decide_eq_false (fun hc => h1 ⟨hc.1, hc.2.1⟩)]
    exact (restart_far n h (by omega)).mono fun e w' ⟨he, hb⟩ => ⟨he, by subst hb; exact GGo.stay h⟩
end
section
variable {S : Nat → Prop} {w w' : World} {r : Nat} {G : Gr}
theorem rcrash_far (n : Int) (h : RAt S w r G) (hn : n < 0 ∨ (G.nds.length : Int) ≤ n) : Calls Try.prog 48 #[.pointer (some ⟨r, 0, none⟩), .int .i64 n] w fun e w' => e = .returned (.bool false) ∧ w' = w := by
  obtain ⟨An, cn, Am, cm, a, q⟩ := h
  have hth0 := there_any n q
  rw [decide_eq_false (by omega)] at hth0
  have hth := hid hth0
  clear q hth0
  go_enter Try.func48, Try.ntmps48
  go_wp2_with fail
  refine hth.out.mono ?_
  rintro e w2 ⟨rfl, rfl⟩
  go_wp2_with fail
  go_ret
  exact ⟨rfl, rfl⟩
theorem rrestart_far (n : Int) (h : RAt S w r G) (hn : n < 0 ∨ (G.nds.length : Int) ≤ n) : Calls Try.prog 49 #[.pointer (some ⟨r, 0, none⟩), .int .i64 n] w fun e w' => e = .returned (.bool false) ∧ w' = w := by
  obtain ⟨An, cn, Am, cm, a, q⟩ := h
  have hth0 := there_any n q
  rw [decide_eq_false (by omega)] at hth0
  have hth := hid hth0
  clear q hth0
  go_enter Try.func49, Try.ntmps49
  go_wp2_with fail
  refine hth.out.mono ?_
  rintro e w2 ⟨rfl, rfl⟩
  go_wp2_with fail
  go_ret
  exact ⟨rfl, rfl⟩
set_option maxRecDepth 100000 in
theorem rcrash_down (i : Nat) (h : RAt S w r G) (hi : i < G.nds.length) (hu : (G.nd i).up = false) : Calls Try.prog 48 #[.pointer (some ⟨r, 0, none⟩), .int .i64 i] w fun e w' => e = .returned (.bool false) ∧ w' = w := by
  obtain ⟨An, cn, Am, cm, a, q⟩ := h
  have hth0 := there_any (i : Int) q
  rw [decide_eq_true (by omega)] at hth0
  have hth := hid hth0
  obtain ⟨n1, _⟩ := q.nd i hi
  have xu : w.cell? ⟨a.nb i, 0, none⟩ = some (.bool false) := by have := n1.cell 0; rwa [hu] at this
  obtain ⟨pb, po, rfl, hpl, p0⟩ := q.ptr hi
  obtain ⟨c0, c1⟩ := q.cells
  have i1 : (i : Int) < (G.nds.length : Int) := by omega
  clear q hth0 n1 hu
  go_enter Try.func48, Try.ntmps48
  go_wp2_with fail
  refine hth.out.mono ?_
  rintro e w2 ⟨rfl, rfl⟩
  go_wp2_with fail
  go_ret
  exact ⟨rfl, rfl⟩
set_option maxRecDepth 100000 in
theorem rrestart_up (i : Nat) (h : RAt S w r G) (hi : i < G.nds.length) (hu : (G.nd i).up = true) : Calls Try.prog 49 #[.pointer (some ⟨r, 0, none⟩), .int .i64 i] w fun e w' => e = .returned (.bool false) ∧ w' = w := by
  obtain ⟨An, cn, Am, cm, a, q⟩ := h
  have hth0 := there_any (i : Int) q
  rw [decide_eq_true (by omega)] at hth0
  have hth := hid hth0
  obtain ⟨n1, _⟩ := q.nd i hi
  have xu : w.cell? ⟨a.nb i, 0, none⟩ = some (.bool true) := by have := n1.cell 0; rwa [hu] at this
  obtain ⟨pb, po, rfl, hpl, p0⟩ := q.ptr hi
  obtain ⟨c0, c1⟩ := q.cells
  have i1 : (i : Int) < (G.nds.length : Int) := by omega
  clear q hth0 n1 hu
  go_enter Try.func49, Try.ntmps49
  go_wp2_with fail
  refine hth.out.mono ?_
  rintro e w2 ⟨rfl, rfl⟩
  go_wp2_with fail
  go_ret
  exact ⟨rfl, rfl⟩
set_option maxRecDepth 100000 in
theorem rrestart_yes (i : Nat) (h : RAt S w r G) (hi : i < G.nds.length) (hu : (G.nd i).up = false) : Calls Try.prog 49 #[.pointer (some ⟨r, 0, none⟩), .int .i64 i] w fun e w' => e = .returned (.bool true) ∧ RGo S w r (G.setNd i { G.nd i with up := true }) w' := by
  obtain ⟨An, cn, Am, cm, a, q⟩ := h
  have hth0 := there_any (i : Int) q
  rw [decide_eq_true (by omega)] at hth0
  have hth := hid hth0
  obtain ⟨n1, n2, _, _⟩ := q.nd i hi
  have xu : w.cell? ⟨a.nb i, 0, none⟩ = some (.bool false) := by have := n1.cell 0; rwa [hu] at this
  have qf := fun j => n1.frozen j
  have hnl := n1.lt
  have hu3 : Upd (fun k => k = a.nb i) w (w.setCell ⟨a.nb i, 0, none⟩ (.bool true)) := (Upd.refl (fun k => k = a.nb i) w).setCell (p := ⟨a.nb i, 0, none⟩) (fun _ => rfl) _
  have hfin : Hid (RGo S w r (G.setNd i { G.nd i with up := true }) (w.setCell ⟨a.nb i, 0, none⟩ (.bool true))) := hid ⟨S, ⟨_, _, _, _, _, q.up hi hu3 (n1.set_ 0 _)⟩, fun _ h => .inl h, hu3.mono fun k _ h => h ▸ n2⟩
  obtain ⟨pb, po, rfl, hpl, p0⟩ := q.ptr hi
  obtain ⟨c0, c1⟩ := q.cells
  have i1 : (i : Int) < (G.nds.length : Int) := by omega
  clear q hth0 n1 hu hu3
  go_enter Try.func49, Try.ntmps49
  go_wp2_with fail
  refine hth.out.mono ?_
  rintro e w2 ⟨rfl, rfl⟩
  go_wp2_with fail
  go_ret
  exact ⟨rfl, hfin.out⟩
theorem rrestart_ex (n : Int) (h : RAt S w r G) : Calls Try.prog 49 #[.pointer (some ⟨r, 0, none⟩), .int .i64 n] w fun e w' => e = .returned (.bool (G.rstB n)) ∧ RGo S w r (G.restart n) w' := by
  unfold Gr.restart Gr.rstB
  by_cases h1 : 0 ≤ n ∧ n < G.nds.length
  · obtain ⟨i, rfl⟩ := Int.eq_ofNat_of_zero_le h1.1
    have hi : i < G.nds.length := by omega
    rw [Int.toNat_natCast]
    cases hu : (G.nd i).up with
    | false =>
      rw [if_pos ⟨h1.1, h1.2, rfl⟩, decide_eq_true ⟨h1.1, h1.2, rfl⟩]
      exact rrestart_yes i h hi hu
    | true =>
      rw [if_neg (fun hc => by have := hc.2.2; cases this), decide_eq_false (fun hc => by have := hc.2.2; cases this)]
      exact (rrestart_up i h hi hu).mono fun e w' ⟨he, hb⟩ => ⟨he, by subst hb; exact RGo.stay h⟩
  · rw [if_neg (fun hc => h1 ⟨hc.1, hc.2.1⟩), decide_eq_false (fun hc => h1 ⟨hc.1, hc.2.1⟩)]
    exact (rrestart_far n h (by omega)).mono fun e w' ⟨he, hb⟩ => ⟨he, by subst hb; exact RGo.stay h⟩
end

end Go.Proofs.Ytbgopicpdpkccaa

