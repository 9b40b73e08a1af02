/- Texts of the proof, joined: GRMake, GRCrash. -/
import Derived.Test.YtbgopicpdpkccaaJ08
import Derived.Test.YtbgopicpdpkccaaJ07
import Derived.Test.YtbgopicpdpkccaaJ12
namespace Go.Proofs.Ytbgopicpdpkccaa
open Go.RowKit
set_option linter.unusedVariables false
set_option linter.unusedSimpArgs false

theorem info_rpn : (Try.prog.info? 95).map (fun i => (i.zero, i.size, i.bytes)) = some (some (.pointer none), 1, 8) := by kernel_rfl
section
variable {S S' : Nat → Prop} {w w' : World} {r : Nat} {An Am : Option Addr} {cn cm : Nat} {a : Ra}
theorem RIn.addNode {M : Nat → Prop} {k nb' : Nat} {An' : Option Addr} {cn' : Nat} (h : RIn S w r An cn none 0 (grN k) a) (hu : Upd M w w') (hM : ∀ j, M j → j = r ∨ ∃ cs, Blk w j 95 cs) (hS : ∀ j, S j → S' j) (hl : ∀ j, S' j → j < w'.heap.size)
    (hb : Blk w' r 94 #[.slice An' (k + 1) cn', .slice none 0 0])
    (hr : OwnS S' w' 95 1 (.slice An' (k + 1) cn') (k + 1) (((List.range k).map fun i => Value.pointer (some ⟨a.nb i, 0, none⟩)) ++ [.pointer (some ⟨nb', 0, none⟩)]))
    (hn : Blk w' nb' 98 #[.bool true, .slice none 0 0]) (hnw : w.heap.size ≤ nb') (hSn : S' nb') :
    RIn S' w' r An' cn' none 0 (grN (k + 1)) { a with nb := fun j => if j = k then nb' else a.nb j, lA := fun j => if j = k then none else a.lA j, lc := fun j => if j = k then 0 else a.lc j } := by
  have hlen : ∀ j, (grN j).nds.length = j := fun j => by simp [grN]
  have kB : ∀ (e : TypeId) b cs, e ≠ 95 → e ≠ 94 → Blk w b e cs → w'.heap[b]? = w.heap[b]? := fun e b cs h1 h2 hb' => hu.block b hb'.lt fun hm => by
    rcases hM b hm with rfl | ⟨cs', hb2⟩
    · exact hb'.ne_ h.blk h2 rfl
    · exact hb'.ne_ hb2 h1 rfl
  have hold : ∀ i, i < k → Blk w (a.nb i) 98 #[.bool true, .slice (a.lA i) 0 (a.lc i)] ∧ S (a.nb i) ∧ OwnS S w 103 15 (.slice (a.lA i) 0 (a.lc i)) 0 [] := fun i hi => by
    obtain ⟨h1, h2, h3, _⟩ := h.nd i (by rw [hlen]; exact hi)
    unfold Ra.row at h1 h3
    rw [grN_up k i hi] at h1 h3
    exact ⟨h1, h2, h3⟩
  refine ⟨by rw [hlen]; exact hb, ?_, ⟨World.ownsRow_nil _ _ _ _, fun b hb => by simp [Value.ownBlock] at hb⟩, fun i hi => ?_, fun i hi p hp => ?_, fun i j hi hj e => ?_, fun i j b hi hj e1 e2 => ?_, fun i j b hi hj p hp => ?_, hS _ h.inS, hl⟩
  · rw [hlen, List.range_succ, List.map_append]
    have e : (List.range k).map (fun i => Value.pointer (some ⟨if i = k then nb' else a.nb i, 0, none⟩)) = (List.range k).map (fun i => Value.pointer (some ⟨a.nb i, 0, none⟩)) :=
      List.map_congr_left fun i hi => by rw [if_neg (by have := List.mem_range.1 hi; omega)]
    rw [e]
    simpa using hr
  · rw [hlen] at hi
    unfold Ra.row
    rw [grN_up _ _ hi]
    by_cases e : i = k
    · subst e
      show Blk w' (if i = i then nb' else a.nb i) _ #[.bool true, .slice (if i = i then none else a.lA i) 0 (if i = i then 0 else a.lc i)] ∧ S' (if i = i then nb' else a.nb i) ∧ OwnS S' w' _ 15 (.slice (if i = i then none else a.lA i) 0 (if i = i then 0 else a.lc i)) 0 [] ∧ _
      rw [if_pos rfl, if_pos rfl, if_pos rfl]
      exact ⟨hn, hSn, ⟨World.ownsRow_nil _ _ _ _, fun b hb => by simp [Value.ownBlock] at hb⟩, by simp [Once]⟩
    · obtain ⟨h1, h2, h3⟩ := hold i (by omega)
      show Blk w' (if i = k then nb' else a.nb i) _ #[.bool true, .slice (if i = k then none else a.lA i) 0 (if i = k then 0 else a.lc i)] ∧ S' (if i = k then nb' else a.nb i) ∧ OwnS S' w' _ 15 (.slice (if i = k then none else a.lA i) 0 (if i = k then 0 else a.lc i)) 0 [] ∧ _
      rw [if_neg e, if_neg e, if_neg e]
      exact ⟨(kB _ _ _ (by decide) (by decide) h1).trans h1, hS _ h2, (h3.keepT fun b cs hb' => kB _ b cs (by decide) (by decide) hb').more' hS, by simp [Once]⟩
  · rw [grN_nd] at hp; cases hp
  · rw [hlen] at hi hj
    have e : (if i = k then nb' else a.nb i) = (if j = k then nb' else a.nb j) := e
    by_cases e1 : i = k
    · by_cases e2 : j = k
      · omega
      · rw [if_pos e1, if_neg e2] at e
        have := (hold j (by omega)).1.lt; omega
    · by_cases e2 : j = k
      · rw [if_neg e1, if_pos e2] at e
        have := (hold i (by omega)).1.lt; omega
      · rw [if_neg e1, if_neg e2] at e
        exact h.nbI i j (by rw [hlen]; omega) (by rw [hlen]; omega) e
  · rw [hlen] at hi hj
    have e1 : (Value.slice (if i = k then none else a.lA i) ((grN (k + 1)).nd i).sl.length (if i = k then 0 else a.lc i)).ownBlock = some b := e1
    have e2 : (Value.slice (if j = k then none else a.lA j) ((grN (k + 1)).nd j).sl.length (if j = k then 0 else a.lc j)).ownBlock = some b := e2
    rw [grN_nd] at e1 e2
    by_cases c1 : i = k
    · rw [if_pos c1] at e1; simp [Value.ownBlock] at e1
    · by_cases c2 : j = k
      · rw [if_pos c2] at e2; simp [Value.ownBlock] at e2
      · rw [if_neg c1, if_neg c1] at e1
        rw [if_neg c2, if_neg c2] at e2
        refine h.laI i j b (by rw [hlen]; omega) (by rw [hlen]; omega) ?_ ?_
        · unfold Ra.row; rw [grN_nd]; exact e1
        · unfold Ra.row; rw [grN_nd]; exact e2
  · rw [grN_nd] at hp; cases hp
end
set_option maxRecDepth 100000 in
set_option maxHeartbeats 1000000 in
theorem rnew_bad (n : Int) (w : World) (h : n < 1 ∨ 9 < n) : Calls Try.prog 28 #[.int .i64 n] w fun e w' => e = .returned (.tuple #[.pointer none, .int .i64 2]) ∧ w' = w := by
  by_cases h1 : n < 1
  · have t1 : decide (n < 1) = true := decide_eq_true h1
    clear h h1
    go_enter Try.func28, Try.ntmps28
    go_wp2_with fail
    go_ret2
    exact ⟨rfl, rfl⟩
  · have t1 : decide (n < 1) = false := decide_eq_false h1
    have t2 : decide (9 < n) = true := decide_eq_true (by omega)
    clear h h1
    go_enter Try.func28, Try.ntmps28
    go_wp2_with fail
    go_ret2
    exact ⟨rfl, rfl⟩
set_option maxRecDepth 100000 in
set_option maxHeartbeats 2000000 in
theorem rnew_ok (n : Nat) (w : World) (h : 1 ≤ n ∧ n ≤ 9) : Calls Try.prog 28 #[.int .i64 n] w fun e w' => ∃ S, e = .returned (.tuple #[.pointer (some ⟨w.heap.size, 0, none⟩), .int .i64 0]) ∧ RAt S w' w.heap.size (grN n) ∧ (∀ k, S k → w.heap.size ≤ k) ∧ Below w.heap.size w w' := by
  have t1 : decide ((n : Int) < 1) = false := decide_eq_false (by omega)
  have t2 : decide (9 < (n : Int)) = false := decide_eq_false (by omega)
  have t3 : decide (9 < n) = false := decide_eq_false (by omega)
  have hB : Below w.heap.size w (w.alloc (.cells #[.slice none 0 0, .slice none 0 0] 94)) := (Below.refl _ _).alloc (Nat.le_refl _) _
  have kb := Blk.new w 94 #[.slice none 0 0, .slice none 0 0]
  have q0 : RIn (fun k => k = w.heap.size) (w.alloc (.cells #[.slice none 0 0, .slice none 0 0] 94)) w.heap.size none 0 none 0 (grN 0) ⟨fun _ => 0, fun _ => none, fun _ => 0, fun _ _ => rj0⟩ :=
    ⟨kb, ⟨World.ownsRow_nil _ _ _ _, fun b hb => by simp [Value.ownBlock] at hb⟩, ⟨World.ownsRow_nil _ _ _ _, fun b hb => by simp [Value.ownBlock] at hb⟩, fun i hi => by simp [grN] at hi, fun i hi => by simp [grN] at hi, fun i j hi => by simp [grN] at hi, fun i j b hi => by simp [grN] at hi, fun i j b hi => by simp [grN] at hi, rfl, fun k hk => by subst hk; exact kb.lt⟩
  obtain ⟨ip, hip, hp0, hp1, hp2⟩ := info_parts info_rpn
  have q0 := hid q0
  go_enter Try.func28, Try.ntmps28
  go_upto_region 4 with fail
  generalize w.alloc (.cells #[.slice none 0 0, .slice none 0 0] 94) = W1 at *
  clear kb
  go_wp2_with fail
  go_loopw [5] (fun v wr => ∃ (k : Nat) (S : Nat → Prop) (An : Option Addr) (cn : Nat) (a : Ra), v = .int .i64 k ∧ k ≤ n ∧ RIn S wr w.heap.size An cn none 0 (grN k) a ∧ (∀ j, S j → w.heap.size ≤ j) ∧ Below w.heap.size w wr) (fun v _ => n - (intOf v).toNat)
  case atStart => exact ⟨0, _, _, _, _, rfl, Nat.zero_le _, q0.out, fun j hj => by omega, hB⟩
  case round =>
    clear q0 hB
    obtain ⟨k, S, An, cn, a, rfl, hk, q, hS, hBw⟩ := hrel
    have hlen : (grN k).nds.length = k := by simp [grN]
    have c0 : wr.cell? ⟨w.heap.size, 0, none⟩ = some (.slice An k cn) := by have := q.cells.1; rwa [hlen] at this
    by_cases hlt : k < n
    · have i1 : (k : Int) < (n : Int) := by omega
      have hnr := q.nrow
      rw [hlen] at hnr
      obtain ⟨W3, hW3⟩ : ∃ W3, W3 = wr.alloc (.cells #[.bool true, .slice none 0 0] 98) := ⟨_, rfl⟩
      have hs3 : W3.heap.size = wr.heap.size + 1 := by subst hW3; simp
      have b3 : Below wr.heap.size wr W3 := by subst hW3; exact (Below.refl _ _).alloc (Nat.le_refl _) _
      have q3 := q.below b3
      have n3 : Blk W3 wr.heap.size 98 #[.bool true, .slice none 0 0] := by subst hW3; exact Blk.new _ _ _
      have hnr3 := q3.nrow
      rw [hlen] at hnr3
      have hne0 : ∀ j, (Value.slice An k cn).ownBlock = some j → j ≠ w.heap.size ∧ S j ∧ j < wr.heap.size ∧ ∃ cs, Blk W3 j 95 cs := fun j hj => by
        have hSj := q3.nrow.2 j (by rw [hlen]; exact hj)
        rcases hnr3.1.2 with ⟨h0, _⟩ | ⟨gr, cap, cur, hvv, _, hbb, _⟩
        · rw [h0] at hj; simp [Value.ownBlock] at hj
        · rw [hvv] at hj
          have : gr = j := by simpa [Value.ownBlock] using hj
          subst this
          exact ⟨(q3.blk.ne_ (t' := 95) (cs' := cur) hbb (by decide)).symm, hSj, q.lt _ hSj, _, hbb⟩
      have hg0 := q3.lt _ q3.inS
      have hne := hid hne0
      have Hq := hid q; have Hq3 := hid q3; have Hn3 := hid n3; have HnB := hid b3; have HW := hid hW3; have Hs3 := hid hs3
      have hrow := hid hnr3.1
      have c3 : W3.cell? ⟨w.heap.size, 0, none⟩ = some (.slice An k cn) := by have := q3.cells.1; rwa [hlen] at this
      clear q q3 n3 b3 hnr hnr3 hne0 hs3 hW3
      go_wp2_with (
                        at_builtin
                        rw [← HW.out]
                        refine wpList_append_rd _ rfl (.tmp 23) (.tmp 26) 92 rfl 0 95 ip _ 1 8 Try.underlying92 hip hp0 hp1 hp2 rfl (by omega) (.slice An k cn) k _ rfl (hrow.out.alloc _) (fun b => b = wr.heap.size + 1) (some ⟨wr.heap.size + 1, 0, none⟩) 1 1 [.pointer (some ⟨wr.heap.size, 0, none⟩)] rfl (Rd.new W3 95 1 1 #[.pointer (some ⟨wr.heap.size, 0, none⟩)] _ Hs3.out.symm rfl) (by intro u hu; simp at hu; subst hu; rfl) (by simp only [maxLen]; omega) (by omega) (Nat.zero_le _) ?_
                        intro v9 w9 hown9 hg9 hat9
                        have hu9 := ((Upd.refl (fun j => (Value.slice An k cn).ownBlock = some j) W3).alloc (.cells #[.pointer (some ⟨wr.heap.size, 0, none⟩)] 95)).grown hg9 fun j hj _ => hj
                        obtain ⟨A9, c9, rfl, hc9, _⟩ := own_form hown9
                        have hb9 := Hq3.out.blk.upd hu9 fun hm => (hne.out _ hm).1 rfl
                        have hk9 : w9.cell? ⟨w.heap.size, 0, none⟩ = some (.slice An k cn) := by have := hb9.cell 0; simpa [hlen] using this
                        have hf9 : w9.frozen? ⟨w.heap.size, 0, none⟩ = false := hb9.frozen 0
                        have Hb9 := hid hb9; have Hu9 := hid hu9; have Hg9 := hid hg9; have Hat9 := hid hat9; have Hown9 := hid hown9
                        clear hb9 hu9 hg9 hat9 hown9)
      have u1 : Upd (fun j => (Value.slice An k cn).ownBlock = some j ∨ j = w.heap.size) W3 (w9.setCell ⟨w.heap.size, 0, none⟩ (.slice A9 (k + 1) c9)) := (Hu9.out.mono fun j _ h => .inl h).setCell (p := ⟨w.heap.size, 0, none⟩) (fun _ => .inr rfl) _
      have u2 : Upd (fun j => (Value.slice An k cn).ownBlock = some j ∨ j = w.heap.size) wr (w9.setCell ⟨w.heap.size, 0, none⟩ (.slice A9 (k + 1) c9)) := (Upd.of_below' HnB.out _).trans u1 fun _ _ h => h
      have hz := u1.size
      have h3 := Hs3.out
      have u9z := Hu9.out.size
      have hgz := Hg9.out.size
      have hnn : Blk (w9.setCell ⟨w.heap.size, 0, none⟩ (.slice A9 (k + 1) c9)) wr.heap.size 98 #[.bool true, .slice none 0 0] := Hn3.out.upd u1 fun hm => by
        rcases hm with hm | hm
        · have := (hne.out _ hm).2.2.1; omega
        · have := Hq.out.lt _ Hq.out.inS; omega
      have hlt := Hq.out.lt _ Hq.out.inS
      refine ⟨⟨k + 1, fun j => S j ∨ (wr.heap.size ≤ j ∧ j < w9.heap.size), A9, c9, _, by simp, by omega, Hq.out.addNode u2 ?_ (fun j h => .inl h) ?_ (by simpa [show (grN k).mail.length = 0 from rfl] using Hb9.out.set_ 0 _) ?_ hnn (Nat.le_refl _) (.inr ⟨Nat.le_refl _, by omega⟩), ?_, ?_⟩, ?_⟩
      · rintro j (h | h)
        · obtain ⟨_, _, h5, cs, hb⟩ := hne.out j h
          exact .inr ⟨cs, (HnB.out.block j h5).symm.trans hb⟩
        · exact .inl h
      · rintro j (h | h)
        · have := Hq.out.lt j h; simp; omega
        · simpa using h.2
      · refine OwnS.keepT (w := w9) ⟨Hown9.out, fun b hb => ?_⟩ fun b cs hb => Below.heap_setCell _ _ _ _ fun e => Hb9.out.ne_ hb (by decide) e.symm
        have hlt := (Hown9.out.lt b hb).2
        rcases Hat9.out with h | h
        · rw [h] at hb; exact .inl (hne.out b hb).2.1
        · rw [h] at hb; injection hb with hb; exact .inr ⟨by simp at hb; omega, hlt⟩
      · rintro j (h | h)
        · exact hS j h
        · have := hBw.size; omega
      · refine hBw.trans (Upd.below u2 hBw.size fun j hj hm => ?_)
        rcases hm with h | h
        · have := hS j (hne.out j h).2.1; omega
        · omega
      · simp [intOf]; omega
    · obtain rfl : k = n := by omega
      have hfin : Hid (∃ S, RAt S wr w.heap.size (grN k) ∧ (∀ j, S j → w.heap.size ≤ j) ∧ Below w.heap.size w wr) := hid ⟨S, ⟨_, _, _, _, _, q⟩, hS, hBw⟩
      clear q hBw
      go_wp2_with fail
      go_ret2
      obtain ⟨S, h1, h2, h3⟩ := hfin.out
      first | exact ⟨S, rfl, h1, h2, h3⟩ | exact ⟨rfl, S, h1, h2, h3⟩

end Go.Proofs.Ytbgopicpdpkccaa

namespace Go.Proofs.Ytbgopicpdpkccaa
open Go.RowKit
set_option linter.unusedVariables false
set_option linter.unusedSimpArgs false

/-- the first slots, by their keys -/
def firstK (l : List (Int × Sl)) (k : Nat) (t : Int) : Bool := decide (t ∈ (l.take k).map (·.1))
theorem firstK_succ {l : List (Int × Sl)} {k : Nat} {s : Int} {x : Sl} (h : l[k]? = some (s, x)) : (fun j => decide (j = s) || firstK l k j) = firstK l (k + 1) := by
  funext j
  unfold firstK
  obtain ⟨hk, he⟩ := List.getElem?_eq_some_iff.1 h
  rw [List.take_succ_eq_append_getElem hk, he, List.map_append, Bool.eq_iff_iff]
  simp only [Bool.or_eq_true, decide_eq_true_eq, List.mem_append, List.map_cons, List.map_nil, List.mem_singleton]
  exact ⟨fun h => h.symm, fun h => h.symm⟩
section
variable {S : Nat → Prop} {w w' : World} {r : Nat} {G : Gr}
set_option maxRecDepth 100000 in
set_option maxHeartbeats 4000000 in
theorem rcrash_yes (i : Nat) (h : RAt S w r G) (hi : i < G.nds.length) (hu : (G.nd i).up = true) (hl : (G.nd i).sl.length ≤ 1000) : Calls Try.prog 48 #[.pointer (some ⟨r, 0, none⟩), .int .i64 i] w fun e w' => e = .returned (.bool true) ∧ RGo S w r (G.clr i fun _ => true) w' := by
  obtain ⟨An, cn, Am, cm, a, q⟩ := h
  have hth0 := there_any (i : Int) q
  rw [decide_eq_true (by omega)] at hth0
  have hth := hid hth0
  obtain ⟨n1, n2, _, ho⟩ := q.nd i hi
  have xu : w.cell? ⟨a.nb i, 0, none⟩ = some (.bool true) := by have := n1.cell 0; rwa [hu] at this
  have qf := fun j => n1.frozen j
  have hnl := n1.lt
  have hu3 : Upd (fun k => k = a.nb i) w (w.setCell ⟨a.nb i, 0, none⟩ (.bool false)) := (Upd.refl (fun k => k = a.nb i) w).setCell (p := ⟨a.nb i, 0, none⟩) (fun _ => rfl) _
  have q3 := q.up (u := false) hi hu3 (n1.set_ 0 _)
  rw [← clr_none hi] at q3
  have hUp : Hid (Upd S w (w.setCell ⟨a.nb i, 0, none⟩ (.bool false))) := hid (hu3.mono fun k _ h => h ▸ n2)
  obtain ⟨pb, po, rfl, hpl, p0⟩ := q.ptr hi
  obtain ⟨c0, c1⟩ := q.cells
  have i1 : (i : Int) < (G.nds.length : Int) := by omega
  have HL : (((G.nd i).sl.length : Nat) : Int) ≤ 1000 := by omega
  have HO := hid ho
  have hSlt := hid q.lt
  clear q hth0 n1 hu hu3 ho hl
  go_enter Try.func48, Try.ntmps48
  go_wp2_with fail
  refine hth.out.mono ?_
  rintro e w2 ⟨rfl, rfl⟩
  go_upto_region 5 with fail
  have hz3 : (w2.setCell ⟨a.nb i, 0, none⟩ (.bool false)).heap.size = w2.heap.size := by simp
  generalize w2.setCell ⟨a.nb i, 0, none⟩ (.bool false) = w3 at *
  have HZ := hid hz3
  have Q3 := hid q3
  clear xu qf q3 p0 c0 c1 hz3
  go_wp2_with fail
  go_loopw [6] (fun v wr => ∃ (k : Nat) (a' : Ra), v = .int .i64 k ∧ k ≤ (G.nd i).sl.length ∧ RIn S wr r (some ⟨pb, po, none⟩) cn Am cm (G.clr i (firstK (G.nd i).sl k)) a' ∧ a'.nb = a.nb ∧ Upd S w2 wr) (fun v _ => (G.nd i).sl.length - (intOf v).toNat)
  case atStart =>
    refine ⟨0, a, rfl, Nat.zero_le _, ?_, rfl, hUp.out⟩
    have e : G.clr i (firstK (G.nd i).sl 0) = G.clr i fun _ => false := clr_congr fun p _ => by simp [firstK]
    rw [e]
    exact Q3.out
  case round =>
    clear Q3
    obtain ⟨k, a', rfl, hk, q0, hnb0, hU0⟩ := hrel
    have hi' : i < (G.clr i (firstK (G.nd i).sl k)).nds.length := by rw [clr_len]; exact hi
    obtain ⟨n1, n2', _, _⟩ := q0.nd i hi'
    have x1 := n1.cell 1
    have hsl : ((G.clr i (firstK (G.nd i).sl k)).nd i).sl.length = (G.nd i).sl.length := by rw [clr_nd hi]; simp
    simp only [List.getElem?_toArray, List.getElem?_cons_zero, List.getElem?_cons_succ, Ra.row, hsl, hnb0] at x1
    have HU := hid hU0
    have HQ := hid q0
    have hnb := hid hnb0
    clear n1 n2' hU0 hnb0 hsl
    by_cases hkl2 : k < (G.nd i).sl.length
    · have hkl : (k : Int) < (((G.nd i).sl.length : Nat) : Int) := by omega
      have hke : (G.nd i).sl[k]? = some (((G.nd i).sl[k]).1, ((G.nd i).sl[k]).2) := List.getElem?_eq_getElem hkl2
      generalize ((G.nd i).sl[k]).1 = s at *
      generalize ((G.nd i).sl[k]).2 = x at *
      have hg := HO.out.get (List.mem_of_getElem? hke)
      have hke' : ((G.clr i (firstK (G.nd i).sl k)).nd i).sl[k]? = some (s, if firstK (G.nd i).sl k s then x.calm else x) := by
        rw [clr_nd hi]
        simp only
        rw [List.getElem?_map, hke]
        rfl
      obtain ⟨b, hA, hbl, hSb, hbk, hc⟩ := q0.seg hi' hke'
      obtain ⟨cs, hbk⟩ := hbk
      rw [hA] at x1
      have y9 : ∃ u, wr.cell? ⟨b, k * 15 + 9, none⟩ = some u := ⟨_, hc 9 (by omega)⟩
      have y14 : ∃ u, wr.cell? ⟨b, k * 15 + 14, none⟩ = some u := ⟨_, hc 14 (by omega)⟩
      obtain ⟨u9, y9⟩ := y9
      obtain ⟨u14, y14⟩ := y14
      have qf := fun j => hbk.frozen j
      have hne : a.nb i ≠ b := fun e => by
        obtain ⟨m1, _⟩ := q0.nd i hi'
        rw [hnb.out, e] at m1
        exact m1.ne_ hbk (by decide) rfl
      have hne2 : b ≠ a.nb i := fun e => hne e.symm
      have hu5 : Upd (fun k => k = b) wr ((wr.setCell ⟨b, k * 15 + 9, none⟩ (.bool false)).setCell ⟨b, k * 15 + 14, none⟩ (.slice none 0 0)) := ((Upd.refl (fun k => k = b) wr).setCell (p := ⟨b, k * 15 + 9, none⟩) (fun _ => rfl) _).setCell (p := ⟨b, k * 15 + 14, none⟩) (fun _ => rfl) _
      have hz5 : ((wr.setCell ⟨b, k * 15 + 9, none⟩ (.bool false)).setCell ⟨b, k * 15 + 14, none⟩ (.slice none 0 0)).heap.size = wr.heap.size := by simp
      have hfin : Hid (RIn S ((wr.setCell ⟨b, k * 15 + 9, none⟩ (.bool false)).setCell ⟨b, k * 15 + 14, none⟩ (.slice none 0 0)) r (some ⟨pb, po, none⟩) cn Am cm (G.clr i (firstK (G.nd i).sl (k + 1))) (a'.setZ i s { a'.z i s with A := none, n := 0, c := 0 }) ∧ Upd S w2 ((wr.setCell ⟨b, k * 15 + 9, none⟩ (.bool false)).setCell ⟨b, k * 15 + 14, none⟩ (.slice none 0 0))) := hid (by
        refine ⟨?_, HU.out.trans (hu5.mono (M' := S) fun k _ h => h ▸ hSb) fun _ _ h => h⟩
        have h1 := q0.put (x' := x.calm) (z' := { a'.z i s with A := none, n := 0, c := 0 }) hi' hke' hA hu5 (fun k hk => .inl hk) (fun _ h => h) (fun k hk => by rw [hz5]; exact q0.lt k hk) (fun A B hrow hA => by
          have h1 := own_seg (f := 14) (own_seg (f := 9) hrow hA (by simp [rcells]) (.bool false)) hA (by simp [rcells]) (.slice none 0 0)
          have e : ((rcells s (if firstK (G.nd i).sl k s then x.calm else x) (a'.z i s)).set 9 (.bool false)).set 14 (.slice none 0 0) = rcells s x.calm { a'.z i s with A := none, n := 0, c := 0 } := by
            cases firstK (G.nd i).sl k s <;> rfl
          rw [e] at h1
          exact h1) (fun d hd => by cases hd) (fun hs => by cases hs)
        rw [clr_set hi HO.out _ hg, firstK_succ hke] at h1
        exact h1)
      clear hc hbk q0 hu5 hke hke' hg
      go_wp2_with fail
      go_roundw
      case rel => exact ⟨k + 1, _, by go_num, by omega, hfin.out.1, hnb.out, hfin.out.2⟩
      case measure => simp [intOf]; omega
    · obtain rfl : k = (G.nd i).sl.length := by omega
      have e : G.clr i (firstK (G.nd i).sl (G.nd i).sl.length) = G.clr i fun _ => true := clr_congr fun p hp => by
        unfold firstK
        rw [List.take_length]
        exact decide_eq_true (List.mem_map.2 ⟨p, hp, rfl⟩)
      rw [e] at q0
      have hfin : Hid (RGo S w2 r (G.clr i fun _ => true) wr) := hid ⟨S, ⟨_, _, _, _, _, q0⟩, fun _ h => .inl h, HU.out⟩
      clear q0
      go_wp2_with fail
      go_ret
      exact ⟨rfl, hfin.out⟩
theorem rcrash_ex (n : Int) (h : RAt S w r G) (hl : ∀ i, (G.nd i).sl.length ≤ 1000) : Calls Try.prog 48 #[.pointer (some ⟨r, 0, none⟩), .int .i64 n] w fun e w' => e = .returned (.bool (G.crashB n)) ∧ RGo S w r (G.crash n) w' := by
  unfold Gr.crash Gr.crashB
  by_cases h1 : 0 ≤ n ∧ n < G.nds.length
  · obtain ⟨i, rfl⟩ := Int.eq_ofNat_of_zero_le h1.1
    have hi : i < G.nds.length := by omega
    rw [Int.toNat_natCast]
    cases hu : (G.nd i).up with
    | true =>
      rw [if_pos ⟨h1.1, h1.2, rfl⟩, decide_eq_true ⟨h1.1, h1.2, rfl⟩]
      exact rcrash_yes i h hi hu (hl i)
    | false =>
      rw [if_neg (fun hc => by have := hc.2.2; cases this), decide_eq_false (fun hc => by have := hc.2.2; cases this)]
      exact (rcrash_down i h hi hu).mono fun e w' ⟨he, hb⟩ => ⟨he, by subst hb; exact RGo.stay h⟩
  · rw [if_neg (fun hc => h1 ⟨hc.1, hc.2.1⟩), decide_eq_false (fun hc => h1 ⟨hc.1, hc.2.1⟩)]
    exact (rcrash_far n h (by omega)).mono fun e w' ⟨he, hb⟩ => ⟨he, by subst hb; exact RGo.stay h⟩
end

end Go.Proofs.Ytbgopicpdpkccaa

