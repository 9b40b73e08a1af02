/- quorum: Drop, Double, Restart. -/
import Derived.Test.YtbgopicpdpkccaaGMail
namespace Go.Proofs.Ytbgopicpdpkccaa
open Go.RowKit
set_option linter.unusedVariables false
set_option linter.unusedSimpArgs false

def Gr.double (G : Gr) (k : Int) : Gr := if 0 ≤ k ∧ k < G.mail.length ∧ G.mail.length < 4096 then G.setMail (G.mail ++ (G.mail[k.toNat]?).toList) else G
def Gr.drop (G : Gr) (k : Int) : Gr := if 0 ≤ k ∧ k < G.mail.length then G.gone k.toNat else G
def Gr.restart (G : Gr) (n : Int) : Gr := if 0 ≤ n ∧ n < G.nds.length ∧ (G.nd n.toNat).up = false then G.setNd n.toNat { G.nd n.toNat with up := true } else G
section
variable {S : Nat → Prop} {w w' : World} {g : Nat} {An Am : Option Addr} {cn cm : Nat} {G : Gr} {a : Ad}
set_option maxRecDepth 100000 in
set_option maxHeartbeats 1000000 in
theorem drop_no (k : Int) (h : GAt S w g G) (hk : k < 0 ∨ (G.mail.length : Int) ≤ k) : Calls Try.prog 17 #[.pointer (some ⟨g, 0, none⟩), .int .i64 k] w fun e w' => e = .returned (.bool false) ∧ w' = w := by
  obtain ⟨An, cn, Am, cm, a, q⟩ := h
  obtain ⟨c0, c1⟩ := q.cells
  clear q
  by_cases h0 : k < 0
  · have t1 : decide (k < 0) = true := decide_eq_true h0
    clear h0 hk
    go_enter Try.func17, Try.ntmps17
    go_wp2_with fail
    go_ret
    exact ⟨rfl, rfl⟩
  · have t1 : decide (k < 0) = false := decide_eq_false h0
    have t2 : decide ((G.mail.length : Int) ≤ k) = true := decide_eq_true (by omega)
    clear h0 hk
    go_enter Try.func17, Try.ntmps17
    go_wp2_with fail
    go_ret
    exact ⟨rfl, rfl⟩
set_option maxRecDepth 100000 in
set_option maxHeartbeats 1000000 in
theorem double_no (k : Int) (h : GAt S w g G) (hk : k < 0 ∨ (G.mail.length : Int) ≤ k) : Calls Try.prog 31 #[.pointer (some ⟨g, 0, none⟩), .int .i64 k] w fun e w' => e = .returned (.bool false) ∧ w' = w := by
  obtain ⟨An, cn, Am, cm, a, q⟩ := h
  obtain ⟨c0, c1⟩ := q.cells
  clear q
  by_cases h0 : k < 0
  · have t1 : decide (k < 0) = true := decide_eq_true h0
    clear h0 hk
    go_enter Try.func31, Try.ntmps31
    go_wp2_with fail
    go_ret
    exact ⟨rfl, rfl⟩
  · have t1 : decide (k < 0) = false := decide_eq_false h0
    have t2 : decide ((G.mail.length : Int) ≤ k) = true := decide_eq_true (by omega)
    clear h0 hk
    go_enter Try.func31, Try.ntmps31
    go_wp2_with fail
    go_ret
    exact ⟨rfl, rfl⟩
set_option maxRecDepth 100000 in
set_option maxHeartbeats 2000000 in
theorem drop_yes (k : Nat) (h : GAt S w g G) (hk : k < G.mail.length) (hl : G.mail.length ≤ 100000) : Calls Try.prog 17 #[.pointer (some ⟨g, 0, none⟩), .int .i64 k] w fun e w' => e = .returned (.bool true) ∧ GGo S w g (G.gone k) w' := by
  obtain ⟨An, cn, Am, cm, a, q⟩ := h
  have hSlt := q.lt
  obtain ⟨c0, c1⟩ := q.cells
  obtain ⟨gr, cur, rfl, hgr⟩ := own_formS q.mrow.1 (by omega)
  have hgS := q.inS
  have hrS : S gr := q.mrow.2 gr rfl
  have hgg : g ≠ gr := q.blk.ne_ hgr (by decide)
  have hgl := hSlt _ hgS
  have hrl := hSlt _ hrS
  have t1 : decide ((k : Int) < 0) = false := by simp
  have t2 : decide ((G.mail.length : Int) ≤ (k : Int)) = false := decide_eq_false (by omega)
  have t3 : decide (G.mail.length ≤ k) = false := decide_eq_false (by omega)
  have i1 : (k : Int) < (G.mail.length : Int) := by omega
  have hw1 : IntKind.i64.wrap ((k : Int) + 1) = (k : Int) + 1 := IntWalk.i64_in _ (by omega)
  have hdl := hid (delete_any gr cm k G.mail _ q.mrow.1 hk (by omega))
  have hq1 := hid q
  have hgr1 := hid hgr
  clear q hgr c0
  go_enter Try.func17, Try.ntmps17
  go_wp2_with fail
  refine hdl.out.mono ?_
  rintro e w2 ⟨rfl, hrow2, hu2⟩
  have hbk2 := hq1.out.blk.upd hu2 hgg
  have x1 : w2.cell? ⟨g, 1, none⟩ = some (.slice (some ⟨gr, 0, none⟩) G.mail.length cm) := hbk2.cell 1
  have qg := fun j => hbk2.frozen j
  have hl1 : (G.mail.take k ++ G.mail.drop (k + 1)).length = G.mail.length - 1 := by simp; omega
  have hu3 : Upd (fun j => j = gr ∨ j = g) w (w2.setCell ⟨g, 1, none⟩ (.slice (some ⟨gr, 0, none⟩) (G.mail.length - 1) cm)) := (hu2.mono fun j _ h => .inl h).setCell (p := ⟨g, 1, none⟩) (fun _ => .inr rfl) _
  have hz23 : (w2.setCell ⟨g, 1, none⟩ (.slice (some ⟨gr, 0, none⟩) (G.mail.length - 1) cm)).heap.size = w2.heap.size := by simp
  have hz2 := hu2.size
  have q3 : GIn S (w2.setCell ⟨g, 1, none⟩ (.slice (some ⟨gr, 0, none⟩) (G.mail.length - 1) cm)) g An cn (some ⟨gr, 0, none⟩) cm (G.gone k) a := by
    refine hq1.out.post hu3 ?_ (fun _ => id) (fun j hj => ?_) (by rw [hl1]; exact hbk2.set_ 1 _) ⟨?_, fun b hb => ?_⟩
    · rintro j (h | h)
      · exact .inr ⟨cur, h ▸ hgr1.out⟩
      · exact .inl h
    · have := hSlt j hj; omega
    · rw [hl1]
      exact own_upd hrow2 ((Upd.refl (fun j => j = g) w2).setCell (p := ⟨g, 1, none⟩) (fun _ => rfl) _) hgg.symm
    · have : gr = b := by simpa [Value.ownBlock] using hb
      exact this ▸ hrS
  have hfin : Hid (GGo S w g (G.gone k) (w2.setCell ⟨g, 1, none⟩ (.slice (some ⟨gr, 0, none⟩) (G.mail.length - 1) cm))) := hid ⟨S, ⟨_, _, _, _, _, q3⟩, fun _ h => .inl h, hu3.mono (M' := S) fun j _ h => by rcases h with h | h <;> (subst h; assumption)⟩
  clear q3 hu3 hrow2 hu2 hbk2 hdl
  go_wp2_with fail
  go_ret
  exact ⟨rfl, hfin.out⟩
set_option maxRecDepth 100000 in
set_option maxHeartbeats 1000000 in
theorem double_full (k : Nat) (h : GAt S w g G) (hk : k < G.mail.length) (hl : G.mail.length ≤ 100000) (hf : 4096 ≤ G.mail.length) : Calls Try.prog 31 #[.pointer (some ⟨g, 0, none⟩), .int .i64 k] w fun e w' => e = .returned (.bool false) ∧ w' = w := by
  obtain ⟨An, cn, Am, cm, a, q⟩ := h
  have hSlt := q.lt
  obtain ⟨c0, c1⟩ := q.cells
  obtain ⟨gr, cur, rfl, hgr⟩ := own_formS q.mrow.1 (by omega)
  have hgS := q.inS
  have hrS : S gr := q.mrow.2 gr rfl
  have hgg : g ≠ gr := q.blk.ne_ hgr (by decide)
  have hgl := hSlt _ hgS
  have hrl := hSlt _ hrS
  have t1 : decide ((k : Int) < 0) = false := by simp
  have t2 : decide ((G.mail.length : Int) ≤ (k : Int)) = false := decide_eq_false (by omega)
  have t3 : decide (G.mail.length ≤ k) = false := decide_eq_false (by omega)
  have i1 : (k : Int) < (G.mail.length : Int) := by omega
  have t4 : decide (4096 ≤ (G.mail.length : Int)) = true := decide_eq_true (by omega)
  have t5 : decide (4096 ≤ G.mail.length) = true := decide_eq_true hf
  clear q hgr
  go_enter Try.func31, Try.ntmps31
  go_wp2_with fail
  go_ret
  exact ⟨rfl, rfl⟩
set_option maxRecDepth 100000 in
set_option maxHeartbeats 2000000 in
theorem double_yes (k : Nat) (m : Ml) (h : GAt S w g G) (hk : k < G.mail.length) (hm : G.mail[k] = m) (hf : G.mail.length < 4096) : Calls Try.prog 31 #[.pointer (some ⟨g, 0, none⟩), .int .i64 k] w fun e w' => e = .returned (.bool true) ∧ GGo S w g (G.setMail (G.mail ++ [m])) w' := by
  obtain ⟨An, cn, Am, cm, a, q⟩ := h
  have hSlt := q.lt
  obtain ⟨c0, c1⟩ := q.cells
  obtain ⟨gr, cur, rfl, hgr⟩ := own_formS q.mrow.1 (by omega)
  have hgS := q.inS
  have hrS : S gr := q.mrow.2 gr rfl
  have hgg : g ≠ gr := q.blk.ne_ hgr (by decide)
  have hgl := hSlt _ hgS
  have hrl := hSlt _ hrS
  have t1 : decide ((k : Int) < 0) = false := by simp
  have t2 : decide ((G.mail.length : Int) ≤ (k : Int)) = false := decide_eq_false (by omega)
  have t3 : decide (G.mail.length ≤ k) = false := decide_eq_false (by omega)
  have i1 : (k : Int) < (G.mail.length : Int) := by omega
  have t4 : decide (4096 ≤ (G.mail.length : Int)) = false := decide_eq_false (by omega)
  have t5 : decide (4096 ≤ G.mail.length) = false := decide_eq_false (by omega)
  have m0 : w.cell? ⟨gr, k * 9, none⟩ = some (.int .i64 m.kind) := by
    rw [q.mrow.1.cellAt _ (by omega)]
    exact (mcells_at _ k 0 hk (by omega)).trans (by rw [hm]; rfl)
  have m1 : w.cell? ⟨gr, k * 9 + 1, none⟩ = some (.int .i64 m.fr) := by
    rw [q.mrow.1.cellAt _ (by omega)]
    exact (mcells_at _ k 1 hk (by omega)).trans (by rw [hm]; rfl)
  have m2 : w.cell? ⟨gr, k * 9 + 2, none⟩ = some (.int .i64 m.dst) := by
    rw [q.mrow.1.cellAt _ (by omega)]
    exact (mcells_at _ k 2 hk (by omega)).trans (by rw [hm]; rfl)
  have m3 : w.cell? ⟨gr, k * 9 + 3, none⟩ = some (.int .i64 m.slot) := by
    rw [q.mrow.1.cellAt _ (by omega)]
    exact (mcells_at _ k 3 hk (by omega)).trans (by rw [hm]; rfl)
  have m4 : w.cell? ⟨gr, k * 9 + 4, none⟩ = some (.int .i64 m.bal.rd) := by
    rw [q.mrow.1.cellAt _ (by omega)]
    exact (mcells_at _ k 4 hk (by omega)).trans (by rw [hm]; rfl)
  have m5 : w.cell? ⟨gr, k * 9 + 5, none⟩ = some (.int .i64 m.bal.nd) := by
    rw [q.mrow.1.cellAt _ (by omega)]
    exact (mcells_at _ k 5 hk (by omega)).trans (by rw [hm]; rfl)
  have m6 : w.cell? ⟨gr, k * 9 + 6, none⟩ = some (.int .i64 m.had.rd) := by
    rw [q.mrow.1.cellAt _ (by omega)]
    exact (mcells_at _ k 6 hk (by omega)).trans (by rw [hm]; rfl)
  have m7 : w.cell? ⟨gr, k * 9 + 7, none⟩ = some (.int .i64 m.had.nd) := by
    rw [q.mrow.1.cellAt _ (by omega)]
    exact (mcells_at _ k 7 hk (by omega)).trans (by rw [hm]; rfl)
  have m8 : w.cell? ⟨gr, k * 9 + 8, none⟩ = some (.string m.text) := by
    rw [q.mrow.1.cellAt _ (by omega)]
    exact (mcells_at _ k 8 hk (by omega)).trans (by rw [hm]; rfl)
  obtain ⟨im, him, hm0, hm1, hm2⟩ := info_parts info_mail
  have qf := fun j => q.blk.frozen j
  have hrow0 := q.mrow.1
  have hne0 : ∀ j, (Value.slice (some ⟨gr, 0, none⟩) G.mail.length cm).ownBlock = some j → j ≠ g ∧ S j ∧ ∃ cs, Blk w j 78 cs := fun j hj => by
    have : gr = j := by simpa [Value.ownBlock] using hj
    subst this
    exact ⟨hgg.symm, hrS, _, hgr⟩
  have hne := hid hne0
  have hq := hid q
  have hm' := hid hm
  clear q hne0 hgr hm
  go_enter Try.func31, Try.ntmps31
  go_upto_region 3 with fail
  go_region_law
    (refine step_append_rd _ rfl (.tmp 32) (.tmp 40) 58 rfl 0 78 im _ 9 80 Try.underlying58 him hm0 hm1 hm2 rfl (by omega) (.slice (some ⟨gr, 0, none⟩) G.mail.length cm) G.mail.length (mcells G.mail) rfl ?_ (fun b => b = w.heap.size) (some ⟨w.heap.size, 0, none⟩) 1 1 m.cells rfl ?_ ?_ ?_ ?_ ?_ (G.mail.length + 1) rfl (mcells G.mail ++ m.cells) rfl ?_
     go_must (
       · exact (hrow0.alloc _).drew
       · exact (Rd.new w 78 9 1 m.cells.toArray _ rfl rfl).drew
       · exact fun u hu => mcells_one [m] u (by simpa [mcells] using hu)
       · simp only [maxLen]; omega
       · omega
       · exact Nat.zero_le _
       intro A2 c2' w2 hown2 hg2 hat2
       have hu2 : Upd (fun k => (Value.slice (some ⟨gr, 0, none⟩) G.mail.length cm).ownBlock = some k) w w2 := (((Upd.refl _ w).alloc _).drew).grown hg2 fun k hk _ => hk
       have hk2 : w2.cell? ⟨g, 1, none⟩ = some (.slice (some ⟨gr, 0, none⟩) G.mail.length cm) := hu2.cell c1 fun hm => (hne.out g hm).1 rfl
       have hb2' := hq.out.blk.upd hu2 fun hm => (hne.out g hm).1 rfl
       have hf2' := fun j => hb2'.frozen j
       have hb2 := hid hb2'
       clear hb2'))
  all_goals
    go_wp2_with fail
    go_ret
    have q := hq.out
    have hu3 : Upd (fun k => (Value.slice (some ⟨gr, 0, none⟩) G.mail.length cm).ownBlock = some k ∨ k = g) w (w2.setCell ⟨g, 1, none⟩ (.slice A2 (G.mail.length + 1) c2')) := (hu2.mono fun k _ h => .inl h).setCell (p := ⟨g, 1, none⟩) (fun _ => .inr rfl) _
    have hl1 : (G.mail ++ [m]).length = G.mail.length + 1 := by simp
    have hpc : mcells (G.mail ++ [m]) = mcells G.mail ++ m.cells := by rw [mcells_app]; simp [mcells]
    have hz2 := hu2.size
    refine ⟨rfl, fun k => S k ∨ w.heap.size ≤ k ∧ k < w2.heap.size, ⟨_, _, A2, c2', _, q.post hu3 ?_ (fun k h => .inl h) ?_ (by rw [hl1]; exact hb2.out.set_ 1 _) ?_⟩, fun k h => h.imp id (·.1), ?_⟩
    · rintro k (h | h)
      · exact .inr (hne.out k h).2.2
      · exact .inl h
    · rintro k (h | h)
      · have := q.lt k h; simp; omega
      · simpa using h.2
    · rw [hl1, hpc]
      refine OwnS.keepT (w := w2) ⟨hown2, fun b hb => ?_⟩ fun b cs hb => Below.heap_setCell _ _ _ _ fun e => hb2.out.ne_ hb (by decide) e.symm
      have hlt := (hown2.lt b hb).2
      rcases hat2 with h | h
      · rw [h] at hb; exact .inl (hne.out b hb).2.1
      · rw [h] at hb; injection hb with hb; simp at hb; exact .inr ⟨by omega, hlt⟩
    · refine hu3.mono (M' := S) fun k _ h => ?_
      rcases h with h | rfl
      · exact (hne.out k h).2.1
      · exact q.inS
theorem double_any (k : Int) (h : GAt S w g G) (hl : G.mail.length ≤ 100000) : Calls Try.prog 31 #[.pointer (some ⟨g, 0, none⟩), .int .i64 k] w fun e w' => (∃ b, e = .returned (.bool b)) ∧ GGo S w g (G.double k) w' := by
  unfold Gr.double
  split
  · rename_i hc
    obtain ⟨i, rfl⟩ := Int.eq_ofNat_of_zero_le hc.1
    have hi : i < G.mail.length := by omega
    refine (double_yes i G.mail[i] h hi rfl hc.2.2).mono ?_
    rintro e w' ⟨rfl, hg⟩
    refine ⟨⟨_, rfl⟩, ?_⟩
    rw [Int.toNat_natCast, List.getElem?_eq_getElem hi]
    exact hg
  · rename_i hc
    by_cases h1 : 0 ≤ k ∧ k < G.mail.length
    · obtain ⟨i, rfl⟩ := Int.eq_ofNat_of_zero_le h1.1
      refine (double_full i h (by omega) hl (by omega)).mono ?_
      rintro e w' ⟨rfl, rfl⟩
      exact ⟨⟨_, rfl⟩, GGo.stay h⟩
    · refine (double_no k h (by omega)).mono ?_
      rintro e w' ⟨rfl, rfl⟩
      exact ⟨⟨_, rfl⟩, GGo.stay h⟩
theorem drop_any (k : Int) (h : GAt S w g G) (hl : G.mail.length ≤ 100000) : Calls Try.prog 17 #[.pointer (some ⟨g, 0, none⟩), .int .i64 k] w fun e w' => (∃ b, e = .returned (.bool b)) ∧ GGo S w g (G.drop k) w' := by
  unfold Gr.drop
  split
  · rename_i hc
    obtain ⟨i, rfl⟩ := Int.eq_ofNat_of_zero_le hc.1
    refine (drop_yes i h (by omega) hl).mono ?_
    rintro e w' ⟨rfl, hg⟩
    exact ⟨⟨_, rfl⟩, hg⟩
  · rename_i hc
    refine (drop_no k h (by omega)).mono ?_
    rintro e w' ⟨rfl, rfl⟩
    exact ⟨⟨_, rfl⟩, GGo.stay h⟩
set_option maxRecDepth 100000 in
theorem restart_yes (i : Nat) (h : GAt S w g G) (hi : i < G.nds.length) (hu : (G.nd i).up = false) : Calls Try.prog 33 #[.pointer (some ⟨g, 0, none⟩), .int .i64 i] w fun e w' => e = .returned (.bool true) ∧ GGo S w g (G.setNd i { G.nd i with up := true }) w' := by
  obtain ⟨An, cn, Am, cm, a, q⟩ := h
  have hcn := hid (node_yes i q hi)
  obtain ⟨n1, n2, n3, n4, _⟩ := q.nd i hi
  have xu : w.cell? ⟨a.nb i, 0, none⟩ = some (.bool false) := by have := n1.cell 0; rwa [hu] at this
  have qf := fun j => n1.frozen j
  have hnl := n1.lt
  have hu3 : Upd (fun k => k = a.nb i) w (w.setCell ⟨a.nb i, 0, none⟩ (.bool true)) := (Upd.refl (fun k => k = a.nb i) w).setCell (p := ⟨a.nb i, 0, none⟩) (fun _ => rfl) _
  have hfin : Hid (GGo S w g (G.setNd i { G.nd i with up := true }) (w.setCell ⟨a.nb i, 0, none⟩ (.bool true))) := hid ⟨S, ⟨_, _, _, _, _, q.up hi hu3 (n1.set_ 0 _)⟩, fun _ h => .inl h, hu3.mono fun k _ h => h ▸ n2⟩
  clear q n1 n4 hu hu3
  go_enter Try.func33, Try.ntmps33
  go_wp2_with fail
  refine hcn.out.mono ?_
  rintro e w2 ⟨rfl, rfl⟩
  go_wp2_with fail
  go_ret
  exact ⟨rfl, hfin.out⟩
set_option maxRecDepth 100000 in
theorem restart_up (i : Nat) (h : GAt S w g G) (hi : i < G.nds.length) (hu : (G.nd i).up = true) : Calls Try.prog 33 #[.pointer (some ⟨g, 0, none⟩), .int .i64 i] w fun e w' => e = .returned (.bool false) ∧ w' = w := by
  obtain ⟨An, cn, Am, cm, a, q⟩ := h
  have hcn := hid (node_yes i q hi)
  obtain ⟨n1, n2, n3, n4, _⟩ := q.nd i hi
  have xu : w.cell? ⟨a.nb i, 0, none⟩ = some (.bool true) := by have := n1.cell 0; rwa [hu] at this
  clear q n1 n4 hu
  go_enter Try.func33, Try.ntmps33
  go_wp2_with fail
  refine hcn.out.mono ?_
  rintro e w2 ⟨rfl, rfl⟩
  go_wp2_with fail
  go_ret
  exact ⟨rfl, rfl⟩
set_option maxRecDepth 100000 in
theorem restart_far (n : Int) (h : GAt S w g G) (hn : n < 0 ∨ (G.nds.length : Int) ≤ n) : Calls Try.prog 33 #[.pointer (some ⟨g, 0, none⟩), .int .i64 n] w fun e w' => e = .returned (.bool false) ∧ w' = w := by
  obtain ⟨An, cn, Am, cm, a, q⟩ := h
  have hcn := hid (node_no n q hn)
  clear q
  go_enter Try.func33, Try.ntmps33
  go_wp2_with fail
  refine hcn.out.mono ?_
  rintro e w2 ⟨rfl, rfl⟩
  go_wp2_with fail
  go_ret
  exact ⟨rfl, rfl⟩
theorem restart_any (n : Int) (h : GAt S w g G) : Calls Try.prog 33 #[.pointer (some ⟨g, 0, none⟩), .int .i64 n] w fun e w' => (∃ b, e = .returned (.bool b)) ∧ GGo S w g (G.restart n) w' := by
  unfold Gr.restart
  by_cases h1 : 0 ≤ n ∧ n < G.nds.length
  · obtain ⟨i, rfl⟩ := Int.eq_ofNat_of_zero_le h1.1
    have hi : i < G.nds.length := by omega
    cases hu : (G.nd i).up with
    | false =>
      rw [if_pos ⟨h1.1, h1.2, by rw [Int.toNat_natCast]; exact hu⟩]
      refine (restart_yes i h hi hu).mono ?_
      rintro e w' ⟨rfl, hg⟩
      exact ⟨⟨_, rfl⟩, hg⟩
    | true =>
      rw [if_neg (fun hc => by have := hc.2.2; rw [Int.toNat_natCast, hu] at this; cases this)]
      refine (restart_up i h hi hu).mono ?_
      rintro e w' ⟨rfl, rfl⟩
      exact ⟨⟨_, rfl⟩, GGo.stay h⟩
  · rw [if_neg (fun hc => h1 ⟨hc.1, hc.2.1⟩)]
    refine (restart_far n h (by omega)).mono ?_
    rintro e w' ⟨rfl, rfl⟩
    exact ⟨⟨_, rfl⟩, GGo.stay h⟩
end

end Go.Proofs.Ytbgopicpdpkccaa
