/- quorum: New. -/
import Derived.Test.YtbgopicpdpkccaaGDel2
namespace Go.Proofs.Ytbgopicpdpkccaa
open Go.RowKit
set_option linter.unusedVariables false
set_option linter.unusedSimpArgs false

def grN (k : Nat) : Gr := ⟨List.replicate k ⟨true, []⟩, []⟩
theorem grN_nd (k i : Nat) : ((grN k).nd i).sl = [] := by
  unfold grN Gr.nd
  simp only [List.getD_eq_getElem?_getD, List.getElem?_replicate]
  split <;> rfl
theorem grN_up (k i : Nat) (h : i < k) : (grN k).nd i = ⟨true, []⟩ := by
  unfold grN Gr.nd
  simp [List.getElem?_replicate, h]
theorem info_pn : (Try.prog.info? 64).map (fun i => (i.zero, i.size, i.bytes)) = some (some (.pointer none), 1, 8) := by kernel_rfl
section
variable {S S' : Nat → Prop} {w w' : World} {g : Nat} {An Am : Option Addr} {cn cm : Nat} {a : Ad}
theorem GIn.addNode {M : Nat → Prop} {k nb' mb' : Nat} {An' : Option Addr} {cn' : Nat} (h : GIn S w g An cn none 0 (grN k) a) (hu : Upd M w w') (hM : ∀ j, M j → j = g ∨ ∃ cs, Blk w j 64 cs) (hS : ∀ j, S j → S' j) (hl : ∀ j, S' j → j < w'.heap.size)
    (hb : Blk w' g 63 #[.slice An' (k + 1) cn', .slice none 0 0])
    (hr : OwnS S' w' 64 1 (.slice An' (k + 1) cn') (k + 1) (((List.range k).map fun i => Value.pointer (some ⟨a.nb i, 0, none⟩)) ++ [.pointer (some ⟨nb', 0, none⟩)]))
    (hn : Blk w' nb' 67 #[.bool true, .map (some mb')]) (hm : MapIs intE w' mb' []) (hnw : w.heap.size ≤ nb') (hmw : w.heap.size ≤ mb') (hSn : S' nb' ∧ S' mb') :
    GIn S' w' g An' cn' none 0 (grN (k + 1)) { a with nb := fun j => if j = k then nb' else a.nb j, mb := fun j => if j = k then mb' else a.mb j } := by
  have hlen : ∀ j, (grN j).nds.length = j := fun j => by simp [grN]
  have kB : ∀ (e : TypeId) b cs, e ≠ 64 → e ≠ 63 → Blk w b e cs → w'.heap[b]? = w.heap[b]? := fun e b cs h1 h2 hb' => hu.block b hb'.lt fun hm => by
    rcases hM b hm with rfl | ⟨cs', hb2⟩
    · exact hb'.ne_ h.blk h2 rfl
    · exact hb'.ne_ hb2 h1 rfl
  have kM : ∀ {l : List (Int × Value)} {b}, MapIs intE w b l → w'.heap[b]? = w.heap[b]? := fun {l b} hm' => hu.block b hm'.lt fun hm => by
    rcases hM b hm with rfl | ⟨cs', hb2⟩
    · exact hm'.ne_blk h.blk rfl
    · exact hm'.ne_blk hb2 rfl
  have hold : ∀ i, i < k → Blk w (a.nb i) 67 #[.bool true, .map (some (a.mb i))] ∧ S (a.nb i) ∧ S (a.mb i) ∧ MapIs intE w (a.mb i) [] := fun i hi => by
    obtain ⟨h1, h2, h3, h4, _⟩ := h.nd i (by rw [hlen]; exact hi)
    rw [grN_up k i hi] at h1 h4
    exact ⟨h1, h2, h3, h4⟩
  refine ⟨by rw [hlen]; exact hb, ?_, ⟨World.ownsRow_nil _ _ _ _, fun b hb => by simp [Value.ownBlock] at hb⟩, fun i hi => ?_, fun i hi p hp => ?_, fun i j hi hj e => ?_, fun i j hi hj e => ?_, fun i j hi hj p hp => ?_, fun i j hi hj p hp => ?_, fun i j hi hj p hp => ?_, fun i j hi hj q hq => ?_, hS _ h.inS, hl⟩
  · rw [hlen, List.range_succ, List.map_append]
    have e : (List.range k).map (fun i => Value.pointer (some ⟨if i = k then nb' else a.nb i, 0, none⟩)) = (List.range k).map (fun i => Value.pointer (some ⟨a.nb i, 0, none⟩)) :=
      List.map_congr_left fun i hi => by rw [if_neg (by have := List.mem_range.1 hi; omega)]
    rw [e]
    simpa using hr
  · rw [hlen] at hi
    rw [grN_up _ _ hi]
    by_cases e : i = k
    · subst e
      show Blk w' (if i = i then nb' else a.nb i) _ #[.bool true, .map (some (if i = i then mb' else a.mb i))] ∧ _
      rw [if_pos rfl, if_pos rfl]
      exact ⟨hn, by show S' (if i = i then nb' else a.nb i); rw [if_pos rfl]; exact hSn.1, by show S' (if i = i then mb' else a.mb i); rw [if_pos rfl]; exact hSn.2, by show MapIs intE w' (if i = i then mb' else a.mb i) []; rw [if_pos rfl]; exact hm, by simp [Once]⟩
    · obtain ⟨h1, h2, h3, h4⟩ := hold i (by omega)
      show Blk w' (if i = k then nb' else a.nb i) _ #[.bool true, .map (some (if i = k then mb' else a.mb i))] ∧ _
      rw [if_neg e, if_neg e]
      exact ⟨(kB _ _ _ (by decide) (by decide) h1).trans h1, by show S' (if i = k then nb' else a.nb i); rw [if_neg e]; exact hS _ h2, by show S' (if i = k then mb' else a.mb i); rw [if_neg e]; exact hS _ h3, by show MapIs intE w' (if i = k then mb' else a.mb i) []; rw [if_neg e]; exact h4.keep (kM h4), by simp [Once]⟩
  · rw [grN_nd] at hp; cases hp
  · rw [hlen] at hi hj
    have e : (if i = k then nb' else a.nb i) = (if j = k then nb' else a.nb j) := e
    by_cases e1 : i = k
    · by_cases e2 : j = k
      · omega
      · rw [if_pos e1, if_neg e2] at e
        have := (hold j (by omega)).1.lt; omega
    · by_cases e2 : j = k
      · rw [if_neg e1, if_pos e2] at e
        have := (hold i (by omega)).1.lt; omega
      · rw [if_neg e1, if_neg e2] at e
        exact h.nbI i j (by rw [hlen]; omega) (by rw [hlen]; omega) e
  · rw [hlen] at hi hj
    have e : (if i = k then mb' else a.mb i) = (if j = k then mb' else a.mb j) := e
    by_cases e1 : i = k
    · by_cases e2 : j = k
      · omega
      · rw [if_pos e1, if_neg e2] at e
        have := (hold j (by omega)).2.2.2.lt; omega
    · by_cases e2 : j = k
      · rw [if_neg e1, if_pos e2] at e
        have := (hold i (by omega)).2.2.2.lt; omega
      · rw [if_neg e1, if_neg e2] at e
        exact h.mbI i j (by rw [hlen]; omega) (by rw [hlen]; omega) e
  · rw [grN_nd] at hp; cases hp
  · rw [grN_nd] at hp; cases hp
  · rw [grN_nd] at hp; cases hp
  · rw [grN_nd] at hq; cases hq
end
set_option maxRecDepth 100000 in
set_option maxHeartbeats 1000000 in
theorem new_bad (n : Int) (w : World) (h : n < 1 ∨ 9 < n) : Calls Try.prog 13 #[.int .i64 n] w fun e w' => e = .returned (.tuple #[.pointer none, .int .i64 2]) ∧ w' = w := by
  by_cases h1 : n < 1
  · have t1 : decide (n < 1) = true := decide_eq_true h1
    clear h h1
    go_enter Try.func13, Try.ntmps13
    go_wp2_with fail
    go_ret2
    exact ⟨rfl, rfl⟩
  · have t1 : decide (n < 1) = false := decide_eq_false h1
    have t2 : decide (9 < n) = true := decide_eq_true (by omega)
    clear h h1
    go_enter Try.func13, Try.ntmps13
    go_wp2_with fail
    go_ret2
    exact ⟨rfl, rfl⟩
set_option maxRecDepth 100000 in
set_option maxHeartbeats 2000000 in
theorem new_ok (n : Nat) (w : World) (h : 1 ≤ n ∧ n ≤ 9) : Calls Try.prog 13 #[.int .i64 n] w fun e w' => ∃ S, e = .returned (.tuple #[.pointer (some ⟨w.heap.size, 0, none⟩), .int .i64 0]) ∧ GAt S w' w.heap.size (grN n) ∧ (∀ k, S k → w.heap.size ≤ k) ∧ Below w.heap.size w w' := by
  have t1 : decide ((n : Int) < 1) = false := decide_eq_false (by omega)
  have t2 : decide (9 < (n : Int)) = false := decide_eq_false (by omega)
  have t3 : decide (9 < n) = false := decide_eq_false (by omega)
  have hmm := @run_makeMap Try.prog
  have hB : Below w.heap.size w (w.alloc (.cells #[.slice none 0 0, .slice none 0 0] 63)) := (Below.refl _ _).alloc (Nat.le_refl _) _
  have kb := Blk.new w 63 #[.slice none 0 0, .slice none 0 0]
  have q0 : GIn (fun k => k = w.heap.size) (w.alloc (.cells #[.slice none 0 0, .slice none 0 0] 63)) w.heap.size none 0 none 0 (grN 0) ⟨id, id, fun _ _ => 0, fun _ _ => 0, fun _ _ => 0⟩ :=
    ⟨kb, ⟨World.ownsRow_nil _ _ _ _, fun b hb => by simp [Value.ownBlock] at hb⟩, ⟨World.ownsRow_nil _ _ _ _, fun b hb => by simp [Value.ownBlock] at hb⟩, fun i hi => by simp [grN] at hi, fun i hi => by simp [grN] at hi, fun i j hi => by simp [grN] at hi, fun i j hi => by simp [grN] at hi, fun i j hi => by simp [grN] at hi, fun i j hi => by simp [grN] at hi, fun i j hi => by simp [grN] at hi, fun i j hi => by simp [grN] at hi, rfl, fun k hk => by subst hk; exact kb.lt⟩
  obtain ⟨ip, hip, hp0, hp1, hp2⟩ := info_parts info_pn
  have q0 := hid q0
  go_enter Try.func13, Try.ntmps13
  go_upto_region 4 with fail
  generalize w.alloc (.cells #[.slice none 0 0, .slice none 0 0] 63) = W1 at *
  clear kb
  go_wp2_with fail
  go_loopw [14] (fun v wr => ∃ (k : Nat) (S : Nat → Prop) (An : Option Addr) (cn : Nat) (a : Ad), v = .int .i64 k ∧ k ≤ n ∧ GIn S wr w.heap.size An cn none 0 (grN k) a ∧ (∀ j, S j → w.heap.size ≤ j) ∧ Below w.heap.size w wr) (fun v _ => n - (intOf v).toNat)
  case atStart => exact ⟨0, _, _, _, _, rfl, Nat.zero_le _, q0.out, fun j hj => by omega, hB⟩
  case round =>
    clear q0 hB
    obtain ⟨k, S, An, cn, a, rfl, hk, q, hS, hBw⟩ := hrel
    have hlen : (grN k).nds.length = k := by simp [grN]
    have c0 : wr.cell? ⟨w.heap.size, 0, none⟩ = some (.slice An k cn) := by have := q.cells.1; rwa [hlen] at this
    by_cases hlt : k < n
    · have i1 : (k : Int) < (n : Int) := by omega
      have hnr := q.nrow
      rw [hlen] at hnr
      obtain ⟨W3, hW3⟩ : ∃ W3, W3 = (wr.alloc (.map #[] 0)).alloc (.cells #[.bool true, .map (some wr.heap.size)] 67) := ⟨_, rfl⟩
      have hs3 : W3.heap.size = wr.heap.size + 2 := by subst hW3; simp
      have b3 : Below wr.heap.size wr W3 := by subst hW3; exact ((Below.refl _ _).alloc (Nat.le_refl _) _).alloc (by simp) _
      have q3 := q.below b3
      have n3 : Blk W3 (wr.heap.size + 1) 67 #[.bool true, .map (some wr.heap.size)] := by subst hW3; exact Blk.new' _ _ _ (by simp)
      have m3 : MapIs intE W3 wr.heap.size [] := by subst hW3; exact (MapIs.new wr).keep (Below.heap_alloc _ _ _ (by simp))
      have hnr3 := q3.nrow
      rw [hlen] at hnr3
      have hne0 : ∀ j, (Value.slice An k cn).ownBlock = some j → j ≠ w.heap.size ∧ S j ∧ j < wr.heap.size ∧ ∃ cs, Blk W3 j 64 cs := fun j hj => by
        have hSj := q3.nrow.2 j (by rw [hlen]; exact hj)
        rcases hnr3.1.2 with ⟨h0, _⟩ | ⟨gr, cap, cur, hvv, _, hbb, _⟩
        · rw [h0] at hj; simp [Value.ownBlock] at hj
        · rw [hvv] at hj
          have : gr = j := by simpa [Value.ownBlock] using hj
          subst this
          exact ⟨(q3.blk.ne_ (t' := 64) (cs' := cur) hbb (by decide)).symm, hSj, q.lt _ hSj, _, hbb⟩
      have hg0 := q3.lt _ q3.inS
      have hne := hid hne0
      have Hq := hid q; have Hq3 := hid q3; have Hn3 := hid n3; have Hm3 := hid m3; have HnB := hid b3; have HW := hid hW3; have Hs3 := hid hs3
      have hrow := hid hnr3.1
      clear q q3 n3 m3 b3 hnr hnr3 hne0 hs3 hW3
      go_wp2_with (
                        at_builtin
                        rw [← HW.out]
                        refine wpList_append_rd _ rfl (.tmp 20) (.tmp 24) 61 rfl 0 64 ip _ 1 8 Try.underlying61 hip hp0 hp1 hp2 rfl (by omega) (.slice An k cn) k _ rfl (hrow.out.alloc _) (fun b => b = wr.heap.size + 1 + 1) (some ⟨wr.heap.size + 1 + 1, 0, none⟩) 1 1 [.pointer (some ⟨wr.heap.size + 1, 0, none⟩)] rfl (Rd.new W3 64 1 1 #[.pointer (some ⟨wr.heap.size + 1, 0, none⟩)] _ Hs3.out.symm rfl) (by intro u hu; simp at hu; subst hu; rfl) (by simp only [maxLen]; omega) (by omega) (Nat.zero_le _) ?_
                        intro v9 w9 hown9 hg9 hat9
                        have hu9 := ((Upd.refl (fun j => (Value.slice An k cn).ownBlock = some j) W3).alloc (.cells #[.pointer (some ⟨wr.heap.size + 1, 0, none⟩)] 64)).grown hg9 fun j hj _ => hj
                        obtain ⟨A9, c9, rfl, hc9, _⟩ := own_form hown9
                        have hb9 := Hq3.out.blk.upd hu9 fun hm => (hne.out _ hm).1 rfl
                        have hk9 : w9.cell? ⟨w.heap.size, 0, none⟩ = some (.slice An k cn) := by have := hb9.cell 0; simpa [hlen] using this
                        have hf9 : w9.frozen? ⟨w.heap.size, 0, none⟩ = false := hb9.frozen 0
                        have Hb9 := hid hb9; have Hu9 := hid hu9; have Hg9 := hid hg9; have Hat9 := hid hat9; have Hown9 := hid hown9
                        clear hb9 hu9 hg9 hat9 hown9)
      have u1 : Upd (fun j => (Value.slice An k cn).ownBlock = some j ∨ j = w.heap.size) W3 (w9.setCell ⟨w.heap.size, 0, none⟩ (.slice A9 (k + 1) c9)) := (Hu9.out.mono fun j _ h => .inl h).setCell (p := ⟨w.heap.size, 0, none⟩) (fun _ => .inr rfl) _
      have u2 : Upd (fun j => (Value.slice An k cn).ownBlock = some j ∨ j = w.heap.size) wr (w9.setCell ⟨w.heap.size, 0, none⟩ (.slice A9 (k + 1) c9)) := (Upd.of_below' HnB.out _).trans u1 fun _ _ h => h
      have hz := u1.size
      have h3 := Hs3.out
      have u9z := Hu9.out.size
      have hgz := Hg9.out.size
      have hnn : Blk (w9.setCell ⟨w.heap.size, 0, none⟩ (.slice A9 (k + 1) c9)) (wr.heap.size + 1) 67 #[.bool true, .map (some wr.heap.size)] := Hn3.out.upd u1 fun hm => by
        rcases hm with hm | hm
        · have := (hne.out _ hm).2.2.1; omega
        · have := Hq.out.lt _ Hq.out.inS; omega
      have hmm2 : MapIs intE (w9.setCell ⟨w.heap.size, 0, none⟩ (.slice A9 (k + 1) c9)) wr.heap.size [] := Hm3.out.upd u1 fun hm => by
        rcases hm with hm | hm
        · have := (hne.out _ hm).2.2.1; omega
        · have := Hq.out.lt _ Hq.out.inS; omega
      have hlt := Hq.out.lt _ Hq.out.inS
      refine ⟨⟨k + 1, fun j => S j ∨ (wr.heap.size ≤ j ∧ j < w9.heap.size), A9, c9, _, by simp, by omega, Hq.out.addNode u2 ?_ (fun j h => .inl h) ?_ (by simpa [show (grN k).mail.length = 0 from rfl] using Hb9.out.set_ 0 _) ?_ hnn hmm2 (by omega) (Nat.le_refl _) ⟨.inr ⟨by omega, by omega⟩, .inr ⟨by omega, by omega⟩⟩, ?_, ?_⟩, ?_⟩
      · rintro j (h | h)
        · obtain ⟨_, _, h5, cs, hb⟩ := hne.out j h
          exact .inr ⟨cs, (HnB.out.block j h5).symm.trans hb⟩
        · exact .inl h
      · rintro j (h | h)
        · have := Hq.out.lt j h; simp; omega
        · simpa using h.2
      · refine OwnS.keepT (w := w9) ⟨Hown9.out, fun b hb => ?_⟩ fun b cs hb => Below.heap_setCell _ _ _ _ fun e => Hb9.out.ne_ hb (by decide) e.symm
        have hlt := (Hown9.out.lt b hb).2
        rcases Hat9.out with h | h
        · rw [h] at hb; exact .inl (hne.out b hb).2.1
        · rw [h] at hb; injection hb with hb; exact .inr ⟨by simp at hb; omega, hlt⟩
      · rintro j (h | h)
        · exact hS j h
        · have := hBw.size; omega
      · refine hBw.trans (Upd.below u2 hBw.size fun j hj hm => ?_)
        rcases hm with h | h
        · have := hS j (hne.out j h).2.1; omega
        · omega
      · simp [intOf]; omega
    · obtain rfl : k = n := by omega
      have hfin : Hid (∃ S, GAt S wr w.heap.size (grN k) ∧ (∀ j, S j → w.heap.size ≤ j) ∧ Below w.heap.size w wr) := hid ⟨S, ⟨_, _, _, _, _, q⟩, hS, hBw⟩
      clear q hBw
      go_wp2_with fail
      go_ret2
      obtain ⟨S, h1, h2, h3⟩ := hfin.out
      first | exact ⟨S, rfl, h1, h2, h3⟩ | exact ⟨rfl, S, h1, h2, h3⟩

end Go.Proofs.Ytbgopicpdpkccaa
