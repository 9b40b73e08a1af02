/- Texts of the proof, joined: GMake, GProp, GMail, GActs, GClr. -/
import Derived.Test.YtbgopicpdpkccaaJ06
namespace Go.Proofs.Ytbgopicpdpkccaa
open Go.RowKit
set_option linter.unusedVariables false
set_option linter.unusedSimpArgs false

def grN (k : Nat) : Gr := ⟨List.replicate k ⟨true, []⟩, []⟩
theorem grN_nd (k i : Nat) : ((grN k).nd i).sl = [] := by
  unfold grN Gr.nd
  simp only [List.getD_eq_getElem?_getD, List.getElem?_replicate]
  split <;> rfl
theorem grN_up (k i : Nat) (h : i < k) : (grN k).nd i = ⟨true, []⟩ := by
  unfold grN Gr.nd
  simp [List.getElem?_replicate, h]
theorem info_pn : (Try.prog.info? 64).map (fun i => (i.zero, i.size, i.bytes)) = some (some (.pointer none), 1, 8) := by kernel_rfl
section
variable {S S' : Nat → Prop} {w w' : World} {g : Nat} {An Am : Option Addr} {cn cm : Nat} {a : Ad}
theorem GIn.addNode {M : Nat → Prop} {k nb' mb' : Nat} {An' : Option Addr} {cn' : Nat} (h : GIn S w g An cn none 0 (grN k) a) (hu : Upd M w w') (hM : ∀ j, M j → j = g ∨ ∃ cs, Blk w j 64 cs) (hS : ∀ j, S j → S' j) (hl : ∀ j, S' j → j < w'.heap.size)
    (hb : Blk w' g 63 #[.slice An' (k + 1) cn', .slice none 0 0])
    (hr : OwnS S' w' 64 1 (.slice An' (k + 1) cn') (k + 1) (((List.range k).map fun i => Value.pointer (some ⟨a.nb i, 0, none⟩)) ++ [.pointer (some ⟨nb', 0, none⟩)]))
    (hn : Blk w' nb' 67 #[.bool true, .map (some mb')]) (hm : MapIs intE w' mb' []) (hnw : w.heap.size ≤ nb') (hmw : w.heap.size ≤ mb') (hSn : S' nb' ∧ S' mb') :
    GIn S' w' g An' cn' none 0 (grN (k + 1)) { a with nb := fun j => if j = k then nb' else a.nb j, mb := fun j => if j = k then mb' else a.mb j } := by
  have hlen : ∀ j, (grN j).nds.length = j := fun j => by simp [grN]
  have kB : ∀ (e : TypeId) b cs, e ≠ 64 → e ≠ 63 → Blk w b e cs → w'.heap[b]? = w.heap[b]? := fun e b cs h1 h2 hb' => hu.block b hb'.lt fun hm => by
    rcases hM b hm with rfl | ⟨cs', hb2⟩
    · exact hb'.ne_ h.blk h2 rfl
    · exact hb'.ne_ hb2 h1 rfl
  have kM : ∀ {l : List (Int × Value)} {b}, MapIs intE w b l → w'.heap[b]? = w.heap[b]? := fun {l b} hm' => hu.block b hm'.lt fun hm => by
    rcases hM b hm with rfl | ⟨cs', hb2⟩
    · exact hm'.ne_blk h.blk rfl
    · exact hm'.ne_blk hb2 rfl
  have hold : ∀ i, i < k → Blk w (a.nb i) 67 #[.bool true, .map (some (a.mb i))] ∧ S (a.nb i) ∧ S (a.mb i) ∧ MapIs intE w (a.mb i) [] := fun i hi => by
    obtain ⟨h1, h2, h3, h4, _⟩ := h.nd i (by rw [hlen]; exact hi)
    rw [grN_up k i hi] at h1 h4
    exact ⟨h1, h2, h3, h4⟩
  refine ⟨by rw [hlen]; exact hb, ?_, ⟨World.ownsRow_nil _ _ _ _, fun b hb => by simp [Value.ownBlock] at hb⟩, fun i hi => ?_, fun i hi p hp => ?_, fun i j hi hj e => ?_, fun i j hi hj e => ?_, fun i j hi hj p hp => ?_, fun i j hi hj p hp => ?_, fun i j hi hj p hp => ?_, fun i j hi hj q hq => ?_, hS _ h.inS, hl⟩
  · rw [hlen, List.range_succ, List.map_append]
    have e : (List.range k).map (fun i => Value.pointer (some ⟨if i = k then nb' else a.nb i, 0, none⟩)) = (List.range k).map (fun i => Value.pointer (some ⟨a.nb i, 0, none⟩)) :=
      List.map_congr_left fun i hi => by rw [if_neg (by have := List.mem_range.1 hi; omega)]
    rw [e]
    simpa using hr
  · rw [hlen] at hi
    rw [grN_up _ _ hi]
    by_cases e : i = k
    · subst e
      show Blk w' (if i = i then nb' else a.nb i) _ #[.bool true, .map (some (if i = i then mb' else a.mb i))] ∧ _
      rw [if_pos rfl, if_pos rfl]
      exact ⟨hn, by show S' (if i = i then nb' else a.nb i); rw [if_pos rfl]; exact hSn.1, by show S' (if i = i then mb' else a.mb i); rw [if_pos rfl]; exact hSn.2, by show MapIs intE w' (if i = i then mb' else a.mb i) []; rw [if_pos rfl]; exact hm, by simp [Once]⟩
    · obtain ⟨h1, h2, h3, h4⟩ := hold i (by omega)
      show Blk w' (if i = k then nb' else a.nb i) _ #[.bool true, .map (some (if i = k then mb' else a.mb i))] ∧ _
      rw [if_neg e, if_neg e]
      exact ⟨(kB _ _ _ (by decide) (by decide) h1).trans h1, by show S' (if i = k then nb' else a.nb i); rw [if_neg e]; exact hS _ h2, by show S' (if i = k then mb' else a.mb i); rw [if_neg e]; exact hS _ h3, by show MapIs intE w' (if i = k then mb' else a.mb i) []; rw [if_neg e]; exact h4.keep (kM h4), by simp [Once]⟩
  · rw [grN_nd] at hp; cases hp
  · rw [hlen] at hi hj
    have e : (if i = k then nb' else a.nb i) = (if j = k then nb' else a.nb j) := e
    by_cases e1 : i = k
    · by_cases e2 : j = k
      · omega
      · rw [if_pos e1, if_neg e2] at e
        have := (hold j (by omega)).1.lt; omega
    · by_cases e2 : j = k
      · rw [if_neg e1, if_pos e2] at e
        have := (hold i (by omega)).1.lt; omega
      · rw [if_neg e1, if_neg e2] at e
        exact h.nbI i j (by rw [hlen]; omega) (by rw [hlen]; omega) e
  · rw [hlen] at hi hj
    have e : (if i = k then mb' else a.mb i) = (if j = k then mb' else a.mb j) := e
    by_cases e1 : i = k
    · by_cases e2 : j = k
      · omega
      · rw [if_pos e1, if_neg e2] at e
        have := (hold j (by omega)).2.2.2.lt; omega
    · by_cases e2 : j = k
      · rw [if_neg e1, if_pos e2] at e
        have := (hold i (by omega)).2.2.2.lt; omega
      · rw [if_neg e1, if_neg e2] at e
        exact h.mbI i j (by rw [hlen]; omega) (by rw [hlen]; omega) e
  · rw [grN_nd] at hp; cases hp
  · rw [grN_nd] at hp; cases hp
  · rw [grN_nd] at hp; cases hp
  · rw [grN_nd] at hq; cases hq
end
set_option maxRecDepth 100000 in
set_option maxHeartbeats 1000000 in
theorem new_bad (n : Int) (w : World) (h : n < 1 ∨ 9 < n) : Calls Try.prog 13 #[.int .i64 n] w fun e w' => e = .returned (.tuple #[.pointer none, .int .i64 2]) ∧ w' = w := by
  by_cases h1 : n < 1
  · have t1 : decide (n < 1) = true := decide_eq_true h1
    clear h h1
    go_enter Try.func13, Try.ntmps13
    go_wp2_with fail
    go_ret2
    exact ⟨rfl, rfl⟩
  · have t1 : decide (n < 1) = false := decide_eq_false h1
    have t2 : decide (9 < n) = true := decide_eq_true (by omega)
    clear h h1
    go_enter Try.func13, Try.ntmps13
    go_wp2_with fail
    go_ret2
    exact ⟨rfl, rfl⟩
set_option maxRecDepth 100000 in
set_option maxHeartbeats 2000000 in
theorem new_ok (n : Nat) (w : World) (h : 1 ≤ n ∧ n ≤ 9) : Calls Try.prog 13 #[.int .i64 n] w fun e w' => ∃ S, e = .returned (.tuple #[.pointer (some ⟨w.heap.size, 0, none⟩), .int .i64 0]) ∧ GAt S w' w.heap.size (grN n) ∧ (∀ k, S k → w.heap.size ≤ k) ∧ Below w.heap.size w w' := by
  have t1 : decide ((n : Int) < 1) = false := decide_eq_false (by omega)
  have t2 : decide (9 < (n : Int)) = false := decide_eq_false (by omega)
  have t3 : decide (9 < n) = false := decide_eq_false (by omega)
  have hmm := @run_makeMap Try.prog
  have hB : Below w.heap.size w (w.alloc (.cells #[.slice none 0 0, .slice none 0 0] 63)) := (Below.refl _ _).alloc (Nat.le_refl _) _
  have kb := Blk.new w 63 #[.slice none 0 0, .slice none 0 0]
  have q0 : GIn (fun k => k = w.heap.size) (w.alloc (.cells #[.slice none 0 0, .slice none 0 0] 63)) w.heap.size none 0 none 0 (grN 0) ⟨id, id, fun _ _ => 0, fun _ _ => 0, fun _ _ => 0⟩ :=
    ⟨kb, ⟨World.ownsRow_nil _ _ _ _, fun b hb => by simp [Value.ownBlock] at hb⟩, ⟨World.ownsRow_nil _ _ _ _, fun b hb => by simp [Value.ownBlock] at hb⟩, fun i hi => by simp [grN] at hi, fun i hi => by simp [grN] at hi, fun i j hi => by simp [grN] at hi, fun i j hi => by simp [grN] at hi, fun i j hi => by simp [grN] at hi, fun i j hi => by simp [grN] at hi, fun i j hi => by simp [grN] at hi, fun i j hi => by simp [grN] at hi, rfl, fun k hk => by subst hk; exact kb.lt⟩
  obtain ⟨ip, hip, hp0, hp1, hp2⟩ := info_parts info_pn
  have q0 := hid q0
  go_enter Try.func13, Try.ntmps13
  go_upto_region 4 with fail
  generalize w.alloc (.cells #[.slice none 0 0, .slice none 0 0] 63) = W1 at *
  clear kb
  go_wp2_with fail
  go_loopw [14] (fun v wr => ∃ (k : Nat) (S : Nat → Prop) (An : Option Addr) (cn : Nat) (a : Ad), v = .int .i64 k ∧ k ≤ n ∧ GIn S wr w.heap.size An cn none 0 (grN k) a ∧ (∀ j, S j → w.heap.size ≤ j) ∧ Below w.heap.size w wr) (fun v _ => n - (intOf v).toNat)
  case atStart => exact ⟨0, _, _, _, _, rfl, Nat.zero_le _, q0.out, fun j hj => by omega, hB⟩
  case round =>
    clear q0 hB
    obtain ⟨k, S, An, cn, a, rfl, hk, q, hS, hBw⟩ := hrel
    have hlen : (grN k).nds.length = k := by simp [grN]
    have c0 : wr.cell? ⟨w.heap.size, 0, none⟩ = some (.slice An k cn) := by have := q.cells.1; rwa [hlen] at this
    by_cases hlt : k < n
    · have i1 : (k : Int) < (n : Int) := by omega
      have hnr := q.nrow
      rw [hlen] at hnr
      obtain ⟨W3, hW3⟩ : ∃ W3, W3 = (wr.alloc (.map #[] 0)).alloc (.cells #[.bool true, .map (some wr.heap.size)] 67) := ⟨_, rfl⟩
      have hs3 : W3.heap.size = wr.heap.size + 2 := by subst hW3; simp
      have b3 : Below wr.heap.size wr W3 := by subst hW3; exact ((Below.refl _ _).alloc (Nat.le_refl _) _).alloc (by simp) _
      have q3 := q.below b3
      have n3 : Blk W3 (wr.heap.size + 1) 67 #[.bool true, .map (some wr.heap.size)] := by subst hW3; exact Blk.new' _ _ _ (by simp)
      have m3 : MapIs intE W3 wr.heap.size [] := by subst hW3; exact (MapIs.new wr).keep (Below.heap_alloc _ _ _ (by simp))
      have hnr3 := q3.nrow
      rw [hlen] at hnr3
      have hne0 : ∀ j, (Value.slice An k cn).ownBlock = some j → j ≠ w.heap.size ∧ S j ∧ j < wr.heap.size ∧ ∃ cs, Blk W3 j 64 cs := fun j hj => by
        have hSj := q3.nrow.2 j (by rw [hlen]; exact hj)
        rcases hnr3.1.2 with ⟨h0, _⟩ | ⟨gr, cap, cur, hvv, _, hbb, _⟩
        · rw [h0] at hj; simp [Value.ownBlock] at hj
        · rw [hvv] at hj
          have : gr = j := by simpa [Value.ownBlock] using hj
          subst this
          exact ⟨(q3.blk.ne_ (t' := 64) (cs' := cur) hbb (by decide)).symm, hSj, q.lt _ hSj, _, hbb⟩
      have hg0 := q3.lt _ q3.inS
      have hne := hid hne0
      have Hq := hid q; have Hq3 := hid q3; have Hn3 := hid n3; have Hm3 := hid m3; have HnB := hid b3; have HW := hid hW3; have Hs3 := hid hs3
      have hrow := hid hnr3.1
      clear q q3 n3 m3 b3 hnr hnr3 hne0 hs3 hW3
      go_wp2_with (
                        at_builtin
                        rw [← HW.out]
                        refine wpList_append_rd _ rfl (.tmp 20) (.tmp 24) 61 rfl 0 64 ip _ 1 8 Try.underlying61 hip hp0 hp1 hp2 rfl (by omega) (.slice An k cn) k _ rfl (hrow.out.alloc _) (fun b => b = wr.heap.size + 1 + 1) (some ⟨wr.heap.size + 1 + 1, 0, none⟩) 1 1 [.pointer (some ⟨wr.heap.size + 1, 0, none⟩)] rfl (Rd.new W3 64 1 1 #[.pointer (some ⟨wr.heap.size + 1, 0, none⟩)] _ Hs3.out.symm rfl) (by intro u hu; simp at hu; subst hu; rfl) (by simp only [maxLen]; omega) (by omega) (Nat.zero_le _) ?_
                        intro v9 w9 hown9 hg9 hat9
                        have hu9 := ((Upd.refl (fun j => (Value.slice An k cn).ownBlock = some j) W3).alloc (.cells #[.pointer (some ⟨wr.heap.size + 1, 0, none⟩)] 64)).grown hg9 fun j hj _ => hj
                        obtain ⟨A9, c9, rfl, hc9, _⟩ := own_form hown9
                        have hb9 := Hq3.out.blk.upd hu9 fun hm => (hne.out _ hm).1 rfl
                        have hk9 : w9.cell? ⟨w.heap.size, 0, none⟩ = some (.slice An k cn) := by have := hb9.cell 0; simpa [hlen] using this
                        have hf9 : w9.frozen? ⟨w.heap.size, 0, none⟩ = false := hb9.frozen 0
                        have Hb9 := hid hb9; have Hu9 := hid hu9; have Hg9 := hid hg9; have Hat9 := hid hat9; have Hown9 := hid hown9
                        clear hb9 hu9 hg9 hat9 hown9)
      have u1 : Upd (fun j => (Value.slice An k cn).ownBlock = some j ∨ j = w.heap.size) W3 (w9.setCell ⟨w.heap.size, 0, none⟩ (.slice A9 (k + 1) c9)) := (Hu9.out.mono fun j _ h => .inl h).setCell (p := ⟨w.heap.size, 0, none⟩) (fun _ => .inr rfl) _
      have u2 : Upd (fun j => (Value.slice An k cn).ownBlock = some j ∨ j = w.heap.size) wr (w9.setCell ⟨w.heap.size, 0, none⟩ (.slice A9 (k + 1) c9)) := (Upd.of_below' HnB.out _).trans u1 fun _ _ h => h
      have hz := u1.size
      have h3 := Hs3.out
      have u9z := Hu9.out.size
      have hgz := Hg9.out.size
      have hnn : Blk (w9.setCell ⟨w.heap.size, 0, none⟩ (.slice A9 (k + 1) c9)) (wr.heap.size + 1) 67 #[.bool true, .map (some wr.heap.size)] := Hn3.out.upd u1 fun hm => by
        rcases hm with hm | hm
        · have := (hne.out _ hm).2.2.1; omega
        · have := Hq.out.lt _ Hq.out.inS; omega
      have hmm2 : MapIs intE (w9.setCell ⟨w.heap.size, 0, none⟩ (.slice A9 (k + 1) c9)) wr.heap.size [] := Hm3.out.upd u1 fun hm => by
        rcases hm with hm | hm
        · have := (hne.out _ hm).2.2.1; omega
        · have := Hq.out.lt _ Hq.out.inS; omega
      have hlt := Hq.out.lt _ Hq.out.inS
      refine ⟨⟨k + 1, fun j => S j ∨ (wr.heap.size ≤ j ∧ j < w9.heap.size), A9, c9, _, by simp, by omega, Hq.out.addNode u2 ?_ (fun j h => .inl h) ?_ (by simpa [show (grN k).mail.length = 0 from rfl] using Hb9.out.set_ 0 _) ?_ hnn hmm2 (by omega) (Nat.le_refl _) ⟨.inr ⟨by omega, by omega⟩, .inr ⟨by omega, by omega⟩⟩, ?_, ?_⟩, ?_⟩
      · rintro j (h | h)
        · obtain ⟨_, _, h5, cs, hb⟩ := hne.out j h
          exact .inr ⟨cs, (HnB.out.block j h5).symm.trans hb⟩
        · exact .inl h
      · rintro j (h | h)
        · have := Hq.out.lt j h; simp; omega
        · simpa using h.2
      · refine OwnS.keepT (w := w9) ⟨Hown9.out, fun b hb => ?_⟩ fun b cs hb => Below.heap_setCell _ _ _ _ fun e => Hb9.out.ne_ hb (by decide) e.symm
        have hlt := (Hown9.out.lt b hb).2
        rcases Hat9.out with h | h
        · rw [h] at hb; exact .inl (hne.out b hb).2.1
        · rw [h] at hb; injection hb with hb; exact .inr ⟨by simp at hb; omega, hlt⟩
      · rintro j (h | h)
        · exact hS j h
        · have := hBw.size; omega
      · refine hBw.trans (Upd.below u2 hBw.size fun j hj hm => ?_)
        rcases hm with h | h
        · have := hS j (hne.out j h).2.1; omega
        · omega
      · simp [intOf]; omega
    · obtain rfl : k = n := by omega
      have hfin : Hid (∃ S, GAt S wr w.heap.size (grN k) ∧ (∀ j, S j → w.heap.size ≤ j) ∧ Below w.heap.size w wr) := hid ⟨S, ⟨_, _, _, _, _, q⟩, hS, hBw⟩
      clear q hBw
      go_wp2_with fail
      go_ret2
      obtain ⟨S, h1, h2, h3⟩ := hfin.out
      first | exact ⟨S, rfl, h1, h2, h3⟩ | exact ⟨rfl, S, h1, h2, h3⟩

end Go.Proofs.Ytbgopicpdpkccaa

namespace Go.Proofs.Ytbgopicpdpkccaa
open Go.RowKit
set_option linter.unusedVariables false
set_option linter.unusedSimpArgs false

def Gr.code (G : Gr) (n s : Int) (t : ByteArray) : Int :=
  if ¬ (0 ≤ n ∧ n < G.nds.length ∧ (G.nd n.toNat).up = true) then 271
  else if s < 0 ∨ 256 ≤ s then 270
  else if 4096 < t.size then 272
  else if 4096 < G.mail.length + G.nds.length then 5 else 0
def Gr.bid (G : Gr) (i : Nat) (s : Int) (t : ByteArray) : Gr := ((G.touch i s).setSl i s { G.at_ i s with rd := (G.at_ i s).rd + 1, bid := some ⟨⟨(G.at_ i s).rd + 1, i⟩, t, false, []⟩ }).sendAll ⟨1, i, 0, s, ⟨(G.at_ i s).rd + 1, i⟩, bal0, ⟨#[]⟩⟩
def Gr.propose (G : Gr) (n s : Int) (t : ByteArray) : Gr := if G.code n s t = 0 then G.bid n.toNat s t else G
section
variable {S : Nat → Prop} {w w' : World} {g : Nat} {An Am : Option Addr} {cn cm : Nat} {G : Gr} {a : Ad}
set_option maxRecDepth 100000 in
set_option maxHeartbeats 2000000 in
theorem propose_far (n s : Int) (t : ByteArray) (h : GAt S w g G) (hn : n < 0 ∨ (G.nds.length : Int) ≤ n) : Calls Try.prog 18 #[.pointer (some ⟨g, 0, none⟩), .int .i64 n, .int .i64 s, .string t] w fun e w' => e = .returned (.int .i64 271) ∧ w' = w := by
  obtain ⟨An, cn, Am, cm, a, q⟩ := h
  have hcn := hid (node_no n q hn)
  clear q
  go_enter Try.func18, Try.ntmps18
  go_wp2_with fail
  refine hcn.out.mono ?_
  rintro e w2 ⟨rfl, rfl⟩
  go_wp2_with fail
  go_ret
  exact ⟨rfl, rfl⟩
set_option maxRecDepth 100000 in
set_option maxHeartbeats 2000000 in
theorem propose_down (i : Nat) (s : Int) (t : ByteArray) (h : GAt S w g G) (hi : i < G.nds.length) (hu : (G.nd i).up = false) : Calls Try.prog 18 #[.pointer (some ⟨g, 0, none⟩), .int .i64 i, .int .i64 s, .string t] w fun e w' => e = .returned (.int .i64 271) ∧ Below w.heap.size w w' := by
  obtain ⟨An, cn, Am, cm, a, q⟩ := h
  have hcn := hid (node_yes i q hi)
  obtain ⟨n1, n2, n3, n4, _⟩ := q.nd i hi
  have xu : w.cell? ⟨a.nb i, 0, none⟩ = some (.bool false) := by have := n1.cell 0; rwa [hu] at this
  clear q n1 n4
  go_enter Try.func18, Try.ntmps18
  go_wp2_with fail
  refine hcn.out.mono ?_
  rintro e w2 ⟨rfl, rfl⟩
  go_wp2_with fail
  go_ret
  exact ⟨rfl, Below.refl _ _⟩
set_option maxRecDepth 100000 in
set_option maxHeartbeats 2000000 in
theorem propose_low (i : Nat) (s : Int) (t : ByteArray) (h : GAt S w g G) (hi : i < G.nds.length) (hu : (G.nd i).up = true) (hs : s < 0) : Calls Try.prog 18 #[.pointer (some ⟨g, 0, none⟩), .int .i64 i, .int .i64 s, .string t] w fun e w' => e = .returned (.int .i64 270) ∧ Below w.heap.size w w' := by
  obtain ⟨An, cn, Am, cm, a, q⟩ := h
  have hcn := hid (node_yes i q hi)
  obtain ⟨n1, n2, n3, n4, _⟩ := q.nd i hi
  obtain ⟨c0, c1⟩ := q.cells
  have xu : w.cell? ⟨a.nb i, 0, none⟩ = some (.bool true) := by have := n1.cell 0; rwa [hu] at this
  have t1 : decide (s < 0) = true := decide_eq_true hs
  clear q n1 n4 hu
  go_enter Try.func18, Try.ntmps18
  go_wp2_with fail
  refine hcn.out.mono ?_
  rintro e w2 ⟨rfl, rfl⟩
  go_wp2_with fail
  go_ret
  exact ⟨rfl, Below.refl _ _⟩
set_option maxRecDepth 100000 in
set_option maxHeartbeats 2000000 in
theorem propose_high (i : Nat) (s : Int) (t : ByteArray) (h : GAt S w g G) (hi : i < G.nds.length) (hu : (G.nd i).up = true) (hs0 : 0 ≤ s) (hs : 256 ≤ s) : Calls Try.prog 18 #[.pointer (some ⟨g, 0, none⟩), .int .i64 i, .int .i64 s, .string t] w fun e w' => e = .returned (.int .i64 270) ∧ Below w.heap.size w w' := by
  obtain ⟨An, cn, Am, cm, a, q⟩ := h
  have hcn := hid (node_yes i q hi)
  obtain ⟨n1, n2, n3, n4, _⟩ := q.nd i hi
  obtain ⟨c0, c1⟩ := q.cells
  have xu : w.cell? ⟨a.nb i, 0, none⟩ = some (.bool true) := by have := n1.cell 0; rwa [hu] at this
  have t1 : decide (s < 0) = false := decide_eq_false (by omega)
  have t2 : decide (256 ≤ s) = true := decide_eq_true hs
  clear q n1 n4 hu
  go_enter Try.func18, Try.ntmps18
  go_wp2_with fail
  refine hcn.out.mono ?_
  rintro e w2 ⟨rfl, rfl⟩
  go_wp2_with fail
  go_ret
  exact ⟨rfl, Below.refl _ _⟩
set_option maxRecDepth 100000 in
set_option maxHeartbeats 2000000 in
theorem propose_long (i : Nat) (s : Int) (t : ByteArray) (h : GAt S w g G) (hi : i < G.nds.length) (hu : (G.nd i).up = true) (hs : 0 ≤ s ∧ s < 256) (ht : 4096 < t.size) : Calls Try.prog 18 #[.pointer (some ⟨g, 0, none⟩), .int .i64 i, .int .i64 s, .string t] w fun e w' => e = .returned (.int .i64 272) ∧ Below w.heap.size w w' := by
  obtain ⟨An, cn, Am, cm, a, q⟩ := h
  have hcn := hid (node_yes i q hi)
  obtain ⟨n1, n2, n3, n4, _⟩ := q.nd i hi
  obtain ⟨c0, c1⟩ := q.cells
  have xu : w.cell? ⟨a.nb i, 0, none⟩ = some (.bool true) := by have := n1.cell 0; rwa [hu] at this
  have t1 : decide (s < 0) = false := decide_eq_false (by omega)
  have t2 : decide (256 ≤ s) = false := decide_eq_false (by omega)
  have t3 : decide (4096 < (t.size : Int)) = true := decide_eq_true (by omega)
  have t4 : decide (4096 < t.size) = true := decide_eq_true ht
  clear q n1 n4 hu
  go_enter Try.func18, Try.ntmps18
  go_wp2_with fail
  refine hcn.out.mono ?_
  rintro e w2 ⟨rfl, rfl⟩
  go_wp2_with fail
  go_ret
  exact ⟨rfl, Below.refl _ _⟩
set_option maxRecDepth 100000 in
set_option maxHeartbeats 2000000 in
theorem propose_full (i : Nat) (s : Int) (t : ByteArray) (h : GAt S w g G) (hi : i < G.nds.length) (hu : (G.nd i).up = true) (hs : 0 ≤ s ∧ s < 256) (ht : t.size ≤ 4096) (hf : 4096 < G.mail.length + G.nds.length) (hl : G.mail.length ≤ 1000000 ∧ G.nds.length ≤ 1000) : Calls Try.prog 18 #[.pointer (some ⟨g, 0, none⟩), .int .i64 i, .int .i64 s, .string t] w fun e w' => e = .returned (.int .i64 5) ∧ Below w.heap.size w w' := by
  obtain ⟨An, cn, Am, cm, a, q⟩ := h
  have hcn := hid (node_yes i q hi)
  obtain ⟨n1, n2, n3, n4, _⟩ := q.nd i hi
  obtain ⟨c0, c1⟩ := q.cells
  have xu : w.cell? ⟨a.nb i, 0, none⟩ = some (.bool true) := by have := n1.cell 0; rwa [hu] at this
  have t1 : decide (s < 0) = false := decide_eq_false (by omega)
  have t2 : decide (256 ≤ s) = false := decide_eq_false (by omega)
  have t3 : decide (4096 < (t.size : Int)) = false := decide_eq_false (by omega)
  have t4 : decide (4096 < t.size) = false := decide_eq_false (by omega)
  have hw : IntKind.i64.wrap ((G.mail.length : Int) + (G.nds.length : Int)) = (G.mail.length : Int) + (G.nds.length : Int) := IntWalk.i64_in _ (by omega)
  have t5 : decide (4096 < (G.mail.length : Int) + (G.nds.length : Int)) = true := decide_eq_true (by omega)
  clear q n1 n4 hu
  go_enter Try.func18, Try.ntmps18
  go_wp2_with fail
  refine hcn.out.mono ?_
  rintro e w2 ⟨rfl, rfl⟩
  go_upto_region 10 with fail
  go_quiet (fail)
  have hB : Below w2.heap.size w2 (w2.drewN nq) := below_drewN (Below.refl _ w2) nq
  generalize w2.drewN nq = w3 at *
  clear c0 c1 xu
  go_wp2_with fail
  go_ret
  exact ⟨rfl, hB⟩
set_option maxRecDepth 100000 in
set_option maxHeartbeats 2000000 in
theorem propose_ok (i : Nat) (s : Int) (t : ByteArray) (h : GAt S w g G) (hi : i < G.nds.length) (hu : (G.nd i).up = true) (hs : 0 ≤ s ∧ s < 256) (ht : t.size ≤ 4096) (hf : G.mail.length + G.nds.length ≤ 4096) (hl : G.nds.length ≤ 1000) (hr : -9223372036854775808 ≤ (G.at_ i s).rd + 1 ∧ (G.at_ i s).rd + 1 < 9223372036854775808) : Calls Try.prog 18 #[.pointer (some ⟨g, 0, none⟩), .int .i64 i, .int .i64 s, .string t] w fun e w' => e = .returned (.int .i64 0) ∧ GGo S w g (G.bid i s t) w' := by
  obtain ⟨An, cn, Am, cm, a, q⟩ := h
  have hcn := hid (node_yes i q hi)
  obtain ⟨n1, n2, n3, n4, _⟩ := q.nd i hi
  obtain ⟨c0, c1⟩ := q.cells
  have xu : w.cell? ⟨a.nb i, 0, none⟩ = some (.bool true) := by have := n1.cell 0; rwa [hu] at this
  have t1 : decide (s < 0) = false := decide_eq_false (by omega)
  have t2 : decide (256 ≤ s) = false := decide_eq_false (by omega)
  have t3 : decide (4096 < (t.size : Int)) = false := decide_eq_false (by omega)
  have t4 : decide (4096 < t.size) = false := decide_eq_false (by omega)
  have hw : IntKind.i64.wrap ((G.mail.length : Int) + (G.nds.length : Int)) = (G.mail.length : Int) + (G.nds.length : Int) := IntWalk.i64_in _ (by omega)
  have t5 : decide (4096 < (G.mail.length : Int) + (G.nds.length : Int)) = false := decide_eq_false (by omega)
  obtain ⟨x, hx0⟩ : ∃ x, x = G.at_ i s := ⟨_, rfl⟩
  rw [← hx0] at hr
  have hwr : IntKind.i64.wrap (x.rd + 1) = x.rd + 1 := IntWalk.i64_in _ (by omega)
  have hx := hid hx0
  have hq := hid q
  have hi' := hid hi
  clear hx0
  clear q n1 n4 hu
  go_enter Try.func18, Try.ntmps18
  go_wp2_with fail
  refine hcn.out.mono ?_
  rintro e w2 ⟨rfl, rfl⟩
  go_upto_region 10 with fail
  go_quiet (fail)
  have hB0 : Below w2.heap.size w2 (w2.drewN nq) := below_drewN (Below.refl _ w2) nq
  have q3 := hq.out.below hB0
  have hB := hid hB0
  have hmk := @run_makeMap Try.prog
  generalize w2.drewN nq = w3 at *
  clear c0 c1 xu hB0 hcn hw
  have hsl := hid (slot_any i s q3 hi'.out)
  go_upto_region 12 with fail
  go_wp2_with fail
  refine hsl.out.mono ?_
  rintro e w4 ⟨S4, a4, ⟨rfl, hS4⟩, q4, hx4, hu4⟩
  rw [← hx.out] at hx4
  have hi4 : i < (G.touch i s).nds.length := by rw [Gr.touch_len]; exact hi'.out
  obtain ⟨kS, hSs, hbd⟩ := q4.sl i hi4 (s, x) (getA_mem hx4)
  have s0 : w4.cell? ⟨a4.sb i s, 0, none⟩ = some (.int .i64 x.rd) := kS.cell 0
  have s8 : w4.cell? ⟨a4.sb i s, 8, none⟩ = some (.pointer (if x.bid.isSome then some ⟨a4.bb i s, 0, none⟩ else none)) := kS.cell 8
  have qs := fun j => kS.frozen j
  have hslt := kS.lt
  have hSs4 : S4 (a4.sb i s) := hSs
  have Hq4 := hid q4; have Hx4 := hid hx4; have Hi4 := hid hi4; have HkS := hid kS; have HS4 := hid hS4; have Hu4 := hid hu4
  clear q3 q4 hx4 hi4 kS hbd hsl hS4 hu4 hSs
  go_upto_region 14 with fail
  obtain ⟨w5, hw5⟩ : ∃ w5, w5 = w4.setCell ⟨a4.sb i s, 0, none⟩ (.int .i64 (x.rd + 1)) := ⟨_, rfl⟩
  rw [← hw5]
  have hu5 : Upd (fun k => k = a4.sb i s) w4 w5 := by rw [hw5]; exact (Upd.refl (fun k => k = a4.sb i s) w4).setCell (p := ⟨a4.sb i s, 0, none⟩) (fun _ => rfl) _
  have kS5 : Blk w5 (a4.sb i s) 74 ({ x with rd := x.rd + 1 }.cells (a4.bb i s)) := by rw [hw5]; exact HkS.out.set_ 0 _
  have hz5 : w5.heap.size = w4.heap.size := by rw [hw5]; simp
  clear s0 s8 qs
  have s0 : w5.cell? ⟨a4.sb i s, 0, none⟩ = some (.int .i64 (x.rd + 1)) := kS5.cell 0
  have s8 : w5.cell? ⟨a4.sb i s, 8, none⟩ = some (.pointer (if x.bid.isSome then some ⟨a4.bb i s, 0, none⟩ else none)) := kS5.cell 8
  have qs := fun j => kS5.frozen j
  have hslt5 := kS5.lt
  clear hw5
  have hB6 : Below w5.heap.size w5 ((w5.alloc (.map #[] 0)).alloc (.cells #[.int .i64 (x.rd + 1), .int .i64 i, .string t, .bool false, .map (some w4.heap.size)] 83)) := ((Below.refl _ _).alloc (Nat.le_refl _) _).alloc (by simp) _
  have kS6 := kS5.below_all hB6
  have s86 : ((w5.alloc (.map #[] 0)).alloc (.cells #[.int .i64 (x.rd + 1), .int .i64 i, .string t, .bool false, .map (some w4.heap.size)] 83)).cell? ⟨a4.sb i s, 8, none⟩ = some (.pointer (if x.bid.isSome then some ⟨a4.bb i s, 0, none⟩ else none)) := kS6.cell 8
  have q86 : ((w5.alloc (.map #[] 0)).alloc (.cells #[.int .i64 (x.rd + 1), .int .i64 i, .string t, .bool false, .map (some w4.heap.size)] 83)).frozen? ⟨a4.sb i s, 8, none⟩ = false := kS6.frozen 8
  have Hu5 := hid hu5; have HkS5 := hid kS5; have HB6 := hid hB6; have HkS6 := hid kS6; have Hz5 := hid hz5
  clear hu5 kS5 hB6 kS6
  go_upto_region 15 with fail
  have hz5b : (w5.setCell ⟨a4.sb i s, 8, none⟩ (.pointer (some ⟨w4.heap.size + 1, 0, none⟩))).heap.size = w4.heap.size := by simp [Hz5.out]
  have hu7 : Upd (fun k => k = a4.sb i s) w5 (w5.setCell ⟨a4.sb i s, 8, none⟩ (.pointer (some ⟨w4.heap.size + 1, 0, none⟩))) := (Upd.refl (fun k => k = a4.sb i s) _).setCell (p := ⟨a4.sb i s, 8, none⟩) (fun _ => rfl) _
  have hB7 : Below (w5.setCell ⟨a4.sb i s, 8, none⟩ (.pointer (some ⟨w4.heap.size + 1, 0, none⟩))).heap.size (w5.setCell ⟨a4.sb i s, 8, none⟩ (.pointer (some ⟨w4.heap.size + 1, 0, none⟩))) (((w5.setCell ⟨a4.sb i s, 8, none⟩ (.pointer (some ⟨w4.heap.size + 1, 0, none⟩))).alloc (.map #[] 0)).alloc (.cells #[.int .i64 (x.rd + 1), .int .i64 i, .string t, .bool false, .map (some w4.heap.size)] 83)) := ((Below.refl _ _).alloc (Nat.le_refl _) _).alloc (by simp) _
  have kS7 : Blk (((w5.setCell ⟨a4.sb i s, 8, none⟩ (.pointer (some ⟨w4.heap.size + 1, 0, none⟩))).alloc (.map #[] 0)).alloc (.cells #[.int .i64 (x.rd + 1), .int .i64 i, .string t, .bool false, .map (some w4.heap.size)] 83)) (a4.sb i s) 74 (Sl.cells { x with rd := x.rd + 1, bid := some ⟨⟨x.rd + 1, i⟩, t, false, []⟩ } (w4.heap.size + 1)) := Blk.below_all (HkS5.out.set_ 8 _) hB7
  have kB7 : Blk (((w5.setCell ⟨a4.sb i s, 8, none⟩ (.pointer (some ⟨w4.heap.size + 1, 0, none⟩))).alloc (.map #[] 0)).alloc (.cells #[.int .i64 (x.rd + 1), .int .i64 i, .string t, .bool false, .map (some w4.heap.size)] 83)) (w4.heap.size + 1) 83 (Bd.cells ⟨⟨x.rd + 1, i⟩, t, false, []⟩ w4.heap.size) := Blk.new' _ _ _ (by simp [Hz5.out])
  have m7 : MapIs intE (((w5.setCell ⟨a4.sb i s, 8, none⟩ (.pointer (some ⟨w4.heap.size + 1, 0, none⟩))).alloc (.map #[] 0)).alloc (.cells #[.int .i64 (x.rd + 1), .int .i64 i, .string t, .bool false, .map (some w4.heap.size)] 83)) w4.heap.size [] := (MapIs.new' (w5.setCell ⟨a4.sb i s, 8, none⟩ (.pointer (some ⟨w4.heap.size + 1, 0, none⟩))) hz5b.symm).keep (Below.heap_alloc _ _ _ (by simp [Hz5.out]))
  have hu57 : Upd (fun k => k = a4.sb i s) w4 (((w5.setCell ⟨a4.sb i s, 8, none⟩ (.pointer (some ⟨w4.heap.size + 1, 0, none⟩))).alloc (.map #[] 0)).alloc (.cells #[.int .i64 (x.rd + 1), .int .i64 i, .string t, .bool false, .map (some w4.heap.size)] 83)) := (Hu5.out.trans hu7 fun _ _ h => h).trans (Upd.of_below' hB7 _) fun _ _ h => h
  have hz7 : (((w5.setCell ⟨a4.sb i s, 8, none⟩ (.pointer (some ⟨w4.heap.size + 1, 0, none⟩))).alloc (.map #[] 0)).alloc (.cells #[.int .i64 (x.rd + 1), .int .i64 i, .string t, .bool false, .map (some w4.heap.size)] 83)).heap.size = w4.heap.size + 2 := by simp [Hz5.out]
  clear hu7 hz5 hB7 hz5b s86 q86 s0 s8 qs
  generalize hN7 : (((w5.setCell ⟨a4.sb i s, 8, none⟩ (.pointer (some ⟨w4.heap.size + 1, 0, none⟩))).alloc (.map #[] 0)).alloc (.cells #[.int .i64 (x.rd + 1), .int .i64 i, .string t, .bool false, .map (some w4.heap.size)] 83)) = w7 at *
  have hlt4 := Hq4.out.lt
  have q7 := Hq4.out.slot (S' := fun k => S4 k ∨ (w4.heap.size ≤ k ∧ k < w7.heap.size)) (x' := { x with rd := x.rd + 1, bid := some ⟨⟨x.rd + 1, i⟩, t, false, []⟩ }) (bb' := w4.heap.size + 1) (ab' := w4.heap.size) Hi4.out Hx4.out hu57 (fun k hk => .inl hk) (fun _ => .inl) (fun k hk => by
    rcases hk with hk | hk
    · have := hlt4 k hk; omega
    · exact hk.2) ⟨kS7, .inl hSs4, fun d hd => by
      injection hd with hd
      subst hd
      exact ⟨kB7, .inr ⟨by omega, by omega⟩, .inr ⟨by omega, by omega⟩, m7, by simp [Once]⟩⟩ (fun _ => .inr ⟨by omega, Nat.le_refl _⟩)
  have s8 : w7.cell? ⟨a4.sb i s, 8, none⟩ = some (.pointer (some ⟨w4.heap.size + 1, 0, none⟩)) := kS7.cell 8
  have b0 : w7.cell? ⟨w4.heap.size + 1, 0, none⟩ = some (.int .i64 (x.rd + 1)) := kB7.cell 0
  have b1 : w7.cell? ⟨w4.heap.size + 1, 1, none⟩ = some (.int .i64 i) := kB7.cell 1
  have hlen7 : ((G.touch i s).setSl i s { x with rd := x.rd + 1, bid := some ⟨⟨x.rd + 1, i⟩, t, false, []⟩ }).nds.length ≤ 1000 := by
    show (List.set _ _ _).length ≤ 1000
    rw [List.length_set, Gr.touch_len]; exact hl
  have hgo7 : GGo S w2 g (G.bid i s t) w7 ∨ True := .inr trivial
  have hpre : Hid (∃ S1, (∀ k, S1 k → S k ∨ w2.heap.size ≤ k) ∧ Upd S w2 w7 ∧ GAt S1 w7 g ((G.touch i s).setSl i s { x with rd := x.rd + 1, bid := some ⟨⟨x.rd + 1, i⟩, t, false, []⟩ }) ) := hid ⟨_, (fun k hk => by
      have hz3 := hB.out.size
      have hz4 := Hu4.out.size
      rcases hk with hk | hk
      · rcases HS4.out k hk with h | h
        · exact .inl h
        · exact .inr (by omega)
      · exact .inr (by omega)), (by
      refine ((Upd.of_below' hB.out S).trans Hu4.out fun _ _ h => h).trans hu57 fun k hk h => ?_
      subst h
      rcases HS4.out _ hSs4 with h | h
      · exact h
      · exact absurd hk (by have := hB.out.size; omega)), ⟨_, _, _, _, _, q7⟩⟩
  obtain ⟨S1, hp1, hp2, hp3⟩ := hpre.out
  have hsd := hid (sendAll_any ⟨1, i, 0, s, ⟨x.rd + 1, i⟩, bal0, ⟨#[]⟩⟩ hp3 hlen7)
  have hp := hid hp1; have hu7 := hid hp2
  clear hp1 hp2 hp3 q7 kS7 kB7 m7 hu57 hpre hgo7
  go_wp2_with fail
  refine hsd.out.mono ?_
  rintro e w8 ⟨rfl, h8⟩
  go_wp2_with fail
  go_ret
  refine ⟨rfl, ?_⟩
  unfold Gr.bid
  rw [← hx.out]
  exact GGo.then ⟨S1, hp.out, hu7.out, h8⟩

theorem propose_any (n s : Int) (t : ByteArray) (h : GAt S w g G) (hl : G.mail.length ≤ 1000000 ∧ G.nds.length ≤ 1000) (hr : -9223372036854775808 ≤ (G.at_ n.toNat s).rd + 1 ∧ (G.at_ n.toNat s).rd + 1 < 9223372036854775808) : Calls Try.prog 18 #[.pointer (some ⟨g, 0, none⟩), .int .i64 n, .int .i64 s, .string t] w fun e w' => e = .returned (.int .i64 (G.code n s t)) ∧ GGo S w g (G.propose n s t) w' := by
  have hst : ∀ {c : Int} {e : Ending} {w'}, G.code n s t = c → c ≠ 0 → e = .returned (.int .i64 c) ∧ Below w.heap.size w w' → e = .returned (.int .i64 (G.code n s t)) ∧ GGo S w g (G.propose n s t) w' := fun {c e w'} hc h0 hp => by
    unfold Gr.propose
    rw [if_neg (by rw [hc]; exact h0), hc]
    exact ⟨hp.1, GGo.of_below h hp.2⟩
  by_cases h0 : 0 ≤ n ∧ n < G.nds.length
  · obtain ⟨i, rfl⟩ := Int.eq_ofNat_of_zero_le h0.1
    have hi : i < G.nds.length := by omega
    rw [Int.toNat_natCast] at hr
    cases hu : (G.nd i).up with
    | false => exact (propose_down i s t h hi hu).mono fun e w' hp => hst (by unfold Gr.code; rw [if_pos (by rw [Int.toNat_natCast, hu]; simp)]) (by decide) hp
    | true =>
      have c1 : ¬ ¬ (0 ≤ (i : Int) ∧ (i : Int) < G.nds.length ∧ (G.nd (i : Int).toNat).up = true) := fun hn => hn ⟨h0.1, h0.2, by rw [Int.toNat_natCast, hu]⟩
      by_cases c2 : s < 0 ∨ 256 ≤ s
      · have hc : G.code i s t = 270 := by unfold Gr.code; rw [if_neg c1, if_pos c2]
        by_cases c3 : s < 0
        · exact (propose_low i s t h hi hu c3).mono fun e w' hp => hst hc (by decide) hp
        · exact (propose_high i s t h hi hu (by omega) (by omega)).mono fun e w' hp => hst hc (by decide) hp
      · by_cases c3 : 4096 < t.size
        · exact (propose_long i s t h hi hu (by omega) c3).mono fun e w' hp => hst (by unfold Gr.code; rw [if_neg c1, if_neg c2, if_pos c3]) (by decide) hp
        · by_cases c4 : 4096 < G.mail.length + G.nds.length
          · exact (propose_full i s t h hi hu (by omega) (by omega) c4 hl).mono fun e w' hp => hst (by unfold Gr.code; rw [if_neg c1, if_neg c2, if_neg c3, if_pos c4]) (by decide) hp
          · have hc : G.code i s t = 0 := by unfold Gr.code; rw [if_neg c1, if_neg c2, if_neg c3, if_neg c4]
            unfold Gr.propose
            rw [hc, if_pos rfl]
            exact propose_ok i s t h hi hu (by omega) (by omega) (by omega) hl.2 hr
  · exact (propose_far n s t h (by omega)).mono fun e w' hp => hst (by unfold Gr.code; rw [if_pos (by omega)]) (by decide) ⟨hp.1, hp.2 ▸ Below.refl _ _⟩
end

end Go.Proofs.Ytbgopicpdpkccaa

namespace Go.Proofs.Ytbgopicpdpkccaa
open Go.RowKit
set_option linter.unusedVariables false
set_option linter.unusedSimpArgs false

set_option maxHeartbeats 400000 in
theorem cloneM_any (S : Nat → Prop) (A : Option Addr) (n c : Nat) (xs : List Value) (w : World) (ha : Rd S w 9 A n xs) (h1 : ∀ u ∈ xs, u.oneCell' = true) (hn : n ≤ 1000000000) :
    Calls Try.prog 55 #[.slice A n c] w fun e w' => ∃ v, e = .returned v ∧ Cloned 78 9 xs n w v w' := by
  obtain ⟨i0, hi0, hz0, hz1, hz2⟩ := info_parts info_mail
  have hq := fun w a n c => eql_nil 58 78 Try.underlying58 w a n c
  cases A with
  | none =>
    obtain rfl : n = 0 := by
      rcases Nat.eq_zero_or_pos n with h | h
      · exact h
      · obtain ⟨_, _, h, _⟩ := ha.2 h; cases h
    obtain rfl : xs = [] := List.eq_nil_of_length_eq_zero (by simpa using ha.1)
    go_enter Try.func55, Try.ntmps55
    go_wp2
    go_ret
    exact ⟨_, rfl, cloned_nil _ _ _ _ (Below.refl _ _)⟩
  | some a =>
    have hown : (w.alloc (.cells #[] 78)).ownsRow w.heap.size 78 9 (.slice (some ⟨w.heap.size, 0, none⟩) 0 0) 0 [] := World.ownsRow_made w #[] 0 (Nat.le_refl _) (by simp [maxLen]) (by simp)
    have hr := ha.alloc (.cells #[] 78)
    go_enter Try.func55, Try.ntmps55
    go_wp2_with (at_builtin; refine wpList_append_rd _ rfl (.tmp 5) (.tmp 6) 58 rfl w.heap.size 78 i0 _ 9 80 Try.underlying58 hi0 hz0 hz1 hz2 rfl (by omega) (.slice (some ⟨w.heap.size, 0, none⟩) 0 0) 0 [] rfl hown S (some a) n c xs rfl hr h1 (by simp only [maxLen]; omega) (by omega) (by simp) ?_; intro v1 w1 hown1 hg1 hat1)
    go_ret
    refine ⟨v1, rfl, by simpa using hown1, ((Below.refl _ _).alloc (Nat.le_refl _) _).grown hg1 (by simp) (fun k hk => ?_)⟩
    have hk' : w.heap.size = k := by simpa [Value.ownBlock] using hk
    omega
section
variable {S : Nat → Prop} {w w' : World} {g : Nat} {An Am : Option Addr} {cn cm : Nat} {G : Gr} {a : Ad}
set_option maxRecDepth 100000 in
set_option maxHeartbeats 1000000 in
theorem mail_any (h : GAt S w g G) (hl : G.mail.length ≤ 1000000) : Calls Try.prog 34 #[.pointer (some ⟨g, 0, none⟩)] w fun e w' => ∃ v, e = .returned v ∧ Cloned 78 9 (mcells G.mail) G.mail.length w v w' := by
  obtain ⟨An, cn, Am, cm, a, q⟩ := h
  obtain ⟨c0, c1⟩ := q.cells
  have hcl := hid (cloneM_any _ Am G.mail.length cm _ w q.mrow.rd (mcells_one _) (by omega))
  clear q c0
  go_enter Try.func34, Try.ntmps34
  go_wp2_with fail
  refine hcl.out.mono ?_
  rintro e w2 ⟨v, rfl, hv⟩
  have hv := hid hv
  go_wp2_with fail
  go_ret
  exact ⟨_, rfl, hv.out⟩
end

end Go.Proofs.Ytbgopicpdpkccaa

namespace Go.Proofs.Ytbgopicpdpkccaa
open Go.RowKit
set_option linter.unusedVariables false
set_option linter.unusedSimpArgs false

def Gr.double (G : Gr) (k : Int) : Gr := if 0 ≤ k ∧ k < G.mail.length ∧ G.mail.length < 4096 then G.setMail (G.mail ++ (G.mail[k.toNat]?).toList) else G
def Gr.drop (G : Gr) (k : Int) : Gr := if 0 ≤ k ∧ k < G.mail.length then G.gone k.toNat else G
def Gr.restart (G : Gr) (n : Int) : Gr := if 0 ≤ n ∧ n < G.nds.length ∧ (G.nd n.toNat).up = false then G.setNd n.toNat { G.nd n.toNat with up := true } else G
section
variable {S : Nat → Prop} {w w' : World} {g : Nat} {An Am : Option Addr} {cn cm : Nat} {G : Gr} {a : Ad}
set_option maxRecDepth 100000 in
set_option maxHeartbeats 1000000 in
theorem drop_no (k : Int) (h : GAt S w g G) (hk : k < 0 ∨ (G.mail.length : Int) ≤ k) : Calls Try.prog 17 #[.pointer (some ⟨g, 0, none⟩), .int .i64 k] w fun e w' => e = .returned (.bool false) ∧ w' = w := by
  obtain ⟨An, cn, Am, cm, a, q⟩ := h
  obtain ⟨c0, c1⟩ := q.cells
  clear q
  by_cases h0 : k < 0
  · have t1 : decide (k < 0) = true := decide_eq_true h0
    clear h0 hk
    go_enter Try.func17, Try.ntmps17
    go_wp2_with fail
    go_ret
    exact ⟨rfl, rfl⟩
  · have t1 : decide (k < 0) = false := decide_eq_false h0
    have t2 : decide ((G.mail.length : Int) ≤ k) = true := decide_eq_true (by omega)
    clear h0 hk
    go_enter Try.func17, Try.ntmps17
    go_wp2_with fail
    go_ret
    exact ⟨rfl, rfl⟩
set_option maxRecDepth 100000 in
set_option maxHeartbeats 1000000 in
theorem double_no (k : Int) (h : GAt S w g G) (hk : k < 0 ∨ (G.mail.length : Int) ≤ k) : Calls Try.prog 31 #[.pointer (some ⟨g, 0, none⟩), .int .i64 k] w fun e w' => e = .returned (.bool false) ∧ w' = w := by
  obtain ⟨An, cn, Am, cm, a, q⟩ := h
  obtain ⟨c0, c1⟩ := q.cells
  clear q
  by_cases h0 : k < 0
  · have t1 : decide (k < 0) = true := decide_eq_true h0
    clear h0 hk
    go_enter Try.func31, Try.ntmps31
    go_wp2_with fail
    go_ret
    exact ⟨rfl, rfl⟩
  · have t1 : decide (k < 0) = false := decide_eq_false h0
    have t2 : decide ((G.mail.length : Int) ≤ k) = true := decide_eq_true (by omega)
    clear h0 hk
    go_enter Try.func31, Try.ntmps31
    go_wp2_with fail
    go_ret
    exact ⟨rfl, rfl⟩
set_option maxRecDepth 100000 in
set_option maxHeartbeats 2000000 in
theorem drop_yes (k : Nat) (h : GAt S w g G) (hk : k < G.mail.length) (hl : G.mail.length ≤ 100000) : Calls Try.prog 17 #[.pointer (some ⟨g, 0, none⟩), .int .i64 k] w fun e w' => e = .returned (.bool true) ∧ GGo S w g (G.gone k) w' := by
  obtain ⟨An, cn, Am, cm, a, q⟩ := h
  have hSlt := q.lt
  obtain ⟨c0, c1⟩ := q.cells
  obtain ⟨gr, cur, rfl, hgr⟩ := own_formS q.mrow.1 (by omega)
  have hgS := q.inS
  have hrS : S gr := q.mrow.2 gr rfl
  have hgg : g ≠ gr := q.blk.ne_ hgr (by decide)
  have hgl := hSlt _ hgS
  have hrl := hSlt _ hrS
  have t1 : decide ((k : Int) < 0) = false := by simp
  have t2 : decide ((G.mail.length : Int) ≤ (k : Int)) = false := decide_eq_false (by omega)
  have t3 : decide (G.mail.length ≤ k) = false := decide_eq_false (by omega)
  have i1 : (k : Int) < (G.mail.length : Int) := by omega
  have hw1 : IntKind.i64.wrap ((k : Int) + 1) = (k : Int) + 1 := IntWalk.i64_in _ (by omega)
  have hdl := hid (delete_any gr cm k G.mail _ q.mrow.1 hk (by omega))
  have hq1 := hid q
  have hgr1 := hid hgr
  clear q hgr c0
  go_enter Try.func17, Try.ntmps17
  go_wp2_with fail
  refine hdl.out.mono ?_
  rintro e w2 ⟨rfl, hrow2, hu2⟩
  have hbk2 := hq1.out.blk.upd hu2 hgg
  have x1 : w2.cell? ⟨g, 1, none⟩ = some (.slice (some ⟨gr, 0, none⟩) G.mail.length cm) := hbk2.cell 1
  have qg := fun j => hbk2.frozen j
  have hl1 : (G.mail.take k ++ G.mail.drop (k + 1)).length = G.mail.length - 1 := by simp; omega
  have hu3 : Upd (fun j => j = gr ∨ j = g) w (w2.setCell ⟨g, 1, none⟩ (.slice (some ⟨gr, 0, none⟩) (G.mail.length - 1) cm)) := (hu2.mono fun j _ h => .inl h).setCell (p := ⟨g, 1, none⟩) (fun _ => .inr rfl) _
  have hz23 : (w2.setCell ⟨g, 1, none⟩ (.slice (some ⟨gr, 0, none⟩) (G.mail.length - 1) cm)).heap.size = w2.heap.size := by simp
  have hz2 := hu2.size
  have q3 : GIn S (w2.setCell ⟨g, 1, none⟩ (.slice (some ⟨gr, 0, none⟩) (G.mail.length - 1) cm)) g An cn (some ⟨gr, 0, none⟩) cm (G.gone k) a := by
    refine hq1.out.post hu3 ?_ (fun _ => id) (fun j hj => ?_) (by rw [hl1]; exact hbk2.set_ 1 _) ⟨?_, fun b hb => ?_⟩
    · rintro j (h | h)
      · exact .inr ⟨cur, h ▸ hgr1.out⟩
      · exact .inl h
    · have := hSlt j hj; omega
    · rw [hl1]
      exact own_upd hrow2 ((Upd.refl (fun j => j = g) w2).setCell (p := ⟨g, 1, none⟩) (fun _ => rfl) _) hgg.symm
    · have : gr = b := by simpa [Value.ownBlock] using hb
      exact this ▸ hrS
  have hfin : Hid (GGo S w g (G.gone k) (w2.setCell ⟨g, 1, none⟩ (.slice (some ⟨gr, 0, none⟩) (G.mail.length - 1) cm))) := hid ⟨S, ⟨_, _, _, _, _, q3⟩, fun _ h => .inl h, hu3.mono (M' := S) fun j _ h => by rcases h with h | h <;> (subst h; assumption)⟩
  clear q3 hu3 hrow2 hu2 hbk2 hdl
  go_wp2_with fail
  go_ret
  exact ⟨rfl, hfin.out⟩
set_option maxRecDepth 100000 in
set_option maxHeartbeats 1000000 in
theorem double_full (k : Nat) (h : GAt S w g G) (hk : k < G.mail.length) (hl : G.mail.length ≤ 100000) (hf : 4096 ≤ G.mail.length) : Calls Try.prog 31 #[.pointer (some ⟨g, 0, none⟩), .int .i64 k] w fun e w' => e = .returned (.bool false) ∧ w' = w := by
  obtain ⟨An, cn, Am, cm, a, q⟩ := h
  have hSlt := q.lt
  obtain ⟨c0, c1⟩ := q.cells
  obtain ⟨gr, cur, rfl, hgr⟩ := own_formS q.mrow.1 (by omega)
  have hgS := q.inS
  have hrS : S gr := q.mrow.2 gr rfl
  have hgg : g ≠ gr := q.blk.ne_ hgr (by decide)
  have hgl := hSlt _ hgS
  have hrl := hSlt _ hrS
  have t1 : decide ((k : Int) < 0) = false := by simp
  have t2 : decide ((G.mail.length : Int) ≤ (k : Int)) = false := decide_eq_false (by omega)
  have t3 : decide (G.mail.length ≤ k) = false := decide_eq_false (by omega)
  have i1 : (k : Int) < (G.mail.length : Int) := by omega
  have t4 : decide (4096 ≤ (G.mail.length : Int)) = true := decide_eq_true (by omega)
  have t5 : decide (4096 ≤ G.mail.length) = true := decide_eq_true hf
  clear q hgr
  go_enter Try.func31, Try.ntmps31
  go_wp2_with fail
  go_ret
  exact ⟨rfl, rfl⟩
set_option maxRecDepth 100000 in
set_option maxHeartbeats 2000000 in
theorem double_yes (k : Nat) (m : Ml) (h : GAt S w g G) (hk : k < G.mail.length) (hm : G.mail[k] = m) (hf : G.mail.length < 4096) : Calls Try.prog 31 #[.pointer (some ⟨g, 0, none⟩), .int .i64 k] w fun e w' => e = .returned (.bool true) ∧ GGo S w g (G.setMail (G.mail ++ [m])) w' := by
  obtain ⟨An, cn, Am, cm, a, q⟩ := h
  have hSlt := q.lt
  obtain ⟨c0, c1⟩ := q.cells
  obtain ⟨gr, cur, rfl, hgr⟩ := own_formS q.mrow.1 (by omega)
  have hgS := q.inS
  have hrS : S gr := q.mrow.2 gr rfl
  have hgg : g ≠ gr := q.blk.ne_ hgr (by decide)
  have hgl := hSlt _ hgS
  have hrl := hSlt _ hrS
  have t1 : decide ((k : Int) < 0) = false := by simp
  have t2 : decide ((G.mail.length : Int) ≤ (k : Int)) = false := decide_eq_false (by omega)
  have t3 : decide (G.mail.length ≤ k) = false := decide_eq_false (by omega)
  have i1 : (k : Int) < (G.mail.length : Int) := by omega
  have t4 : decide (4096 ≤ (G.mail.length : Int)) = false := decide_eq_false (by omega)
  have t5 : decide (4096 ≤ G.mail.length) = false := decide_eq_false (by omega)
  have m0 : w.cell? ⟨gr, k * 9, none⟩ = some (.int .i64 m.kind) := by
    rw [q.mrow.1.cellAt _ (by omega)]
    exact (mcells_at _ k 0 hk (by omega)).trans (by rw [hm]; rfl)
  have m1 : w.cell? ⟨gr, k * 9 + 1, none⟩ = some (.int .i64 m.fr) := by
    rw [q.mrow.1.cellAt _ (by omega)]
    exact (mcells_at _ k 1 hk (by omega)).trans (by rw [hm]; rfl)
  have m2 : w.cell? ⟨gr, k * 9 + 2, none⟩ = some (.int .i64 m.dst) := by
    rw [q.mrow.1.cellAt _ (by omega)]
    exact (mcells_at _ k 2 hk (by omega)).trans (by rw [hm]; rfl)
  have m3 : w.cell? ⟨gr, k * 9 + 3, none⟩ = some (.int .i64 m.slot) := by
    rw [q.mrow.1.cellAt _ (by omega)]
    exact (mcells_at _ k 3 hk (by omega)).trans (by rw [hm]; rfl)
  have m4 : w.cell? ⟨gr, k * 9 + 4, none⟩ = some (.int .i64 m.bal.rd) := by
    rw [q.mrow.1.cellAt _ (by omega)]
    exact (mcells_at _ k 4 hk (by omega)).trans (by rw [hm]; rfl)
  have m5 : w.cell? ⟨gr, k * 9 + 5, none⟩ = some (.int .i64 m.bal.nd) := by
    rw [q.mrow.1.cellAt _ (by omega)]
    exact (mcells_at _ k 5 hk (by omega)).trans (by rw [hm]; rfl)
  have m6 : w.cell? ⟨gr, k * 9 + 6, none⟩ = some (.int .i64 m.had.rd) := by
    rw [q.mrow.1.cellAt _ (by omega)]
    exact (mcells_at _ k 6 hk (by omega)).trans (by rw [hm]; rfl)
  have m7 : w.cell? ⟨gr, k * 9 + 7, none⟩ = some (.int .i64 m.had.nd) := by
    rw [q.mrow.1.cellAt _ (by omega)]
    exact (mcells_at _ k 7 hk (by omega)).trans (by rw [hm]; rfl)
  have m8 : w.cell? ⟨gr, k * 9 + 8, none⟩ = some (.string m.text) := by
    rw [q.mrow.1.cellAt _ (by omega)]
    exact (mcells_at _ k 8 hk (by omega)).trans (by rw [hm]; rfl)
  obtain ⟨im, him, hm0, hm1, hm2⟩ := info_parts info_mail
  have qf := fun j => q.blk.frozen j
  have hrow0 := q.mrow.1
  have hne0 : ∀ j, (Value.slice (some ⟨gr, 0, none⟩) G.mail.length cm).ownBlock = some j → j ≠ g ∧ S j ∧ ∃ cs, Blk w j 78 cs := fun j hj => by
    have : gr = j := by simpa [Value.ownBlock] using hj
    subst this
    exact ⟨hgg.symm, hrS, _, hgr⟩
  have hne := hid hne0
  have hq := hid q
  have hm' := hid hm
  clear q hne0 hgr hm
  go_enter Try.func31, Try.ntmps31
  go_upto_region 3 with fail
  go_region_law
    (refine step_append_rd _ rfl (.tmp 32) (.tmp 40) 58 rfl 0 78 im _ 9 80 Try.underlying58 him hm0 hm1 hm2 rfl (by omega) (.slice (some ⟨gr, 0, none⟩) G.mail.length cm) G.mail.length (mcells G.mail) rfl ?_ (fun b => b = w.heap.size) (some ⟨w.heap.size, 0, none⟩) 1 1 m.cells rfl ?_ ?_ ?_ ?_ ?_ (G.mail.length + 1) rfl (mcells G.mail ++ m.cells) rfl ?_
     go_must (
       · exact (hrow0.alloc _).drew
       · exact (Rd.new w 78 9 1 m.cells.toArray _ rfl rfl).drew
       · exact fun u hu => mcells_one [m] u (by simpa [mcells] using hu)
       · simp only [maxLen]; omega
       · omega
       · exact Nat.zero_le _
       intro A2 c2' w2 hown2 hg2 hat2
       have hu2 : Upd (fun k => (Value.slice (some ⟨gr, 0, none⟩) G.mail.length cm).ownBlock = some k) w w2 := (((Upd.refl _ w).alloc _).drew).grown hg2 fun k hk _ => hk
       have hk2 : w2.cell? ⟨g, 1, none⟩ = some (.slice (some ⟨gr, 0, none⟩) G.mail.length cm) := hu2.cell c1 fun hm => (hne.out g hm).1 rfl
       have hb2' := hq.out.blk.upd hu2 fun hm => (hne.out g hm).1 rfl
       have hf2' := fun j => hb2'.frozen j
       have hb2 := hid hb2'
       clear hb2'))
  all_goals
    go_wp2_with fail
    go_ret
    have q := hq.out
    have hu3 : Upd (fun k => (Value.slice (some ⟨gr, 0, none⟩) G.mail.length cm).ownBlock = some k ∨ k = g) w (w2.setCell ⟨g, 1, none⟩ (.slice A2 (G.mail.length + 1) c2')) := (hu2.mono fun k _ h => .inl h).setCell (p := ⟨g, 1, none⟩) (fun _ => .inr rfl) _
    have hl1 : (G.mail ++ [m]).length = G.mail.length + 1 := by simp
    have hpc : mcells (G.mail ++ [m]) = mcells G.mail ++ m.cells := by rw [mcells_app]; simp [mcells]
    have hz2 := hu2.size
    refine ⟨rfl, fun k => S k ∨ w.heap.size ≤ k ∧ k < w2.heap.size, ⟨_, _, A2, c2', _, q.post hu3 ?_ (fun k h => .inl h) ?_ (by rw [hl1]; exact hb2.out.set_ 1 _) ?_⟩, fun k h => h.imp id (·.1), ?_⟩
    · rintro k (h | h)
      · exact .inr (hne.out k h).2.2
      · exact .inl h
    · rintro k (h | h)
      · have := q.lt k h; simp; omega
      · simpa using h.2
    · rw [hl1, hpc]
      refine OwnS.keepT (w := w2) ⟨hown2, fun b hb => ?_⟩ fun b cs hb => Below.heap_setCell _ _ _ _ fun e => hb2.out.ne_ hb (by decide) e.symm
      have hlt := (hown2.lt b hb).2
      rcases hat2 with h | h
      · rw [h] at hb; exact .inl (hne.out b hb).2.1
      · rw [h] at hb; injection hb with hb; simp at hb; exact .inr ⟨by omega, hlt⟩
    · refine hu3.mono (M' := S) fun k _ h => ?_
      rcases h with h | rfl
      · exact (hne.out k h).2.1
      · exact q.inS
theorem double_any (k : Int) (h : GAt S w g G) (hl : G.mail.length ≤ 100000) : Calls Try.prog 31 #[.pointer (some ⟨g, 0, none⟩), .int .i64 k] w fun e w' => (∃ b, e = .returned (.bool b)) ∧ GGo S w g (G.double k) w' := by
  unfold Gr.double
  split
  · rename_i hc
    obtain ⟨i, rfl⟩ := Int.eq_ofNat_of_zero_le hc.1
    have hi : i < G.mail.length := by omega
    refine (double_yes i G.mail[i] h hi rfl hc.2.2).mono ?_
    rintro e w' ⟨rfl, hg⟩
    refine ⟨⟨_, rfl⟩, ?_⟩
    rw [Int.toNat_natCast, List.getElem?_eq_getElem hi]
    exact hg
  · rename_i hc
    by_cases h1 : 0 ≤ k ∧ k < G.mail.length
    · obtain ⟨i, rfl⟩ := Int.eq_ofNat_of_zero_le h1.1
      refine (double_full i h (by omega) hl (by omega)).mono ?_
      rintro e w' ⟨rfl, rfl⟩
      exact ⟨⟨_, rfl⟩, GGo.stay h⟩
    · refine (double_no k h (by omega)).mono ?_
      rintro e w' ⟨rfl, rfl⟩
      exact ⟨⟨_, rfl⟩, GGo.stay h⟩
theorem drop_any (k : Int) (h : GAt S w g G) (hl : G.mail.length ≤ 100000) : Calls Try.prog 17 #[.pointer (some ⟨g, 0, none⟩), .int .i64 k] w fun e w' => (∃ b, e = .returned (.bool b)) ∧ GGo S w g (G.drop k) w' := by
  unfold Gr.drop
  split
  · rename_i hc
    obtain ⟨i, rfl⟩ := Int.eq_ofNat_of_zero_le hc.1
    refine (drop_yes i h (by omega) hl).mono ?_
    rintro e w' ⟨rfl, hg⟩
    exact ⟨⟨_, rfl⟩, hg⟩
  · rename_i hc
    refine (drop_no k h (by omega)).mono ?_
    rintro e w' ⟨rfl, rfl⟩
    exact ⟨⟨_, rfl⟩, GGo.stay h⟩
set_option maxRecDepth 100000 in
theorem restart_yes (i : Nat) (h : GAt S w g G) (hi : i < G.nds.length) (hu : (G.nd i).up = false) : Calls Try.prog 33 #[.pointer (some ⟨g, 0, none⟩), .int .i64 i] w fun e w' => e = .returned (.bool true) ∧ GGo S w g (G.setNd i { G.nd i with up := true }) w' := by
  obtain ⟨An, cn, Am, cm, a, q⟩ := h
  have hcn := hid (node_yes i q hi)
  obtain ⟨n1, n2, n3, n4, _⟩ := q.nd i hi
  have xu : w.cell? ⟨a.nb i, 0, none⟩ = some (.bool false) := by have := n1.cell 0; rwa [hu] at this
  have qf := fun j => n1.frozen j
  have hnl := n1.lt
  have hu3 : Upd (fun k => k = a.nb i) w (w.setCell ⟨a.nb i, 0, none⟩ (.bool true)) := (Upd.refl (fun k => k = a.nb i) w).setCell (p := ⟨a.nb i, 0, none⟩) (fun _ => rfl) _
  have hfin : Hid (GGo S w g (G.setNd i { G.nd i with up := true }) (w.setCell ⟨a.nb i, 0, none⟩ (.bool true))) := hid ⟨S, ⟨_, _, _, _, _, q.up hi hu3 (n1.set_ 0 _)⟩, fun _ h => .inl h, hu3.mono fun k _ h => h ▸ n2⟩
  clear q n1 n4 hu hu3
  go_enter Try.func33, Try.ntmps33
  go_wp2_with fail
  refine hcn.out.mono ?_
  rintro e w2 ⟨rfl, rfl⟩
  go_wp2_with fail
  go_ret
  exact ⟨rfl, hfin.out⟩
set_option maxRecDepth 100000 in
theorem restart_up (i : Nat) (h : GAt S w g G) (hi : i < G.nds.length) (hu : (G.nd i).up = true) : Calls Try.prog 33 #[.pointer (some ⟨g, 0, none⟩), .int .i64 i] w fun e w' => e = .returned (.bool false) ∧ w' = w := by
  obtain ⟨An, cn, Am, cm, a, q⟩ := h
  have hcn := hid (node_yes i q hi)
  obtain ⟨n1, n2, n3, n4, _⟩ := q.nd i hi
  have xu : w.cell? ⟨a.nb i, 0, none⟩ = some (.bool true) := by have := n1.cell 0; rwa [hu] at this
  clear q n1 n4 hu
  go_enter Try.func33, Try.ntmps33
  go_wp2_with fail
  refine hcn.out.mono ?_
  rintro e w2 ⟨rfl, rfl⟩
  go_wp2_with fail
  go_ret
  exact ⟨rfl, rfl⟩
set_option maxRecDepth 100000 in
theorem restart_far (n : Int) (h : GAt S w g G) (hn : n < 0 ∨ (G.nds.length : Int) ≤ n) : Calls Try.prog 33 #[.pointer (some ⟨g, 0, none⟩), .int .i64 n] w fun e w' => e = .returned (.bool false) ∧ w' = w := by
  obtain ⟨An, cn, Am, cm, a, q⟩ := h
  have hcn := hid (node_no n q hn)
  clear q
  go_enter Try.func33, Try.ntmps33
  go_wp2_with fail
  refine hcn.out.mono ?_
  rintro e w2 ⟨rfl, rfl⟩
  go_wp2_with fail
  go_ret
  exact ⟨rfl, rfl⟩
theorem restart_any (n : Int) (h : GAt S w g G) : Calls Try.prog 33 #[.pointer (some ⟨g, 0, none⟩), .int .i64 n] w fun e w' => (∃ b, e = .returned (.bool b)) ∧ GGo S w g (G.restart n) w' := by
  unfold Gr.restart
  by_cases h1 : 0 ≤ n ∧ n < G.nds.length
  · obtain ⟨i, rfl⟩ := Int.eq_ofNat_of_zero_le h1.1
    have hi : i < G.nds.length := by omega
    cases hu : (G.nd i).up with
    | false =>
      rw [if_pos ⟨h1.1, h1.2, by rw [Int.toNat_natCast]; exact hu⟩]
      refine (restart_yes i h hi hu).mono ?_
      rintro e w' ⟨rfl, hg⟩
      exact ⟨⟨_, rfl⟩, hg⟩
    | true =>
      rw [if_neg (fun hc => by have := hc.2.2; rw [Int.toNat_natCast, hu] at this; cases this)]
      refine (restart_up i h hi hu).mono ?_
      rintro e w' ⟨rfl, rfl⟩
      exact ⟨⟨_, rfl⟩, GGo.stay h⟩
  · rw [if_neg (fun hc => h1 ⟨hc.1, hc.2.1⟩)]
    refine (restart_far n h (by omega)).mono ?_
    rintro e w' ⟨rfl, rfl⟩
    exact ⟨⟨_, rfl⟩, GGo.stay h⟩
end

end Go.Proofs.Ytbgopicpdpkccaa

namespace Go.Proofs.Ytbgopicpdpkccaa
open Go.RowKit
set_option linter.unusedVariables false
set_option linter.unusedSimpArgs false

theorem getA_mapv {α β : Type} (f : Int → α → β) (k : Int) : ∀ (l : List (Int × α)), getA k (l.map fun p => (p.1, f p.1 p.2)) = (getA k l).map (f k) := by
  intro l
  induction l with
  | nil => rfl
  | cons p l ih =>
    by_cases h : k = p.1
    · simp [getA, h]
    · simp [getA, h, ih]
theorem Once.get {α : Type} {l : List (Int × α)} (h : Once l) {p : Int × α} (hp : p ∈ l) : getA p.1 l = some p.2 := by
  unfold Once at h
  induction l with
  | nil => cases hp
  | cons q l ih =>
    rw [List.map_cons, List.nodup_cons] at h
    rcases List.mem_cons.1 hp with rfl | hp
    · simp [getA]
    · have hne : ¬ p.1 = q.1 := fun e => h.1 (List.mem_map.2 ⟨p, hp, e⟩)
      simp only [getA, hne, if_false]
      exact ih h.2 hp
theorem setA_mapv {α β : Type} (f : Int → α → β) (k : Int) (y : β) : ∀ {l : List (Int × α)}, Once l → (getA k l).isSome → setA k y (l.map fun p => (p.1, f p.1 p.2)) = l.map fun p => (p.1, if p.1 = k then y else f p.1 p.2) := by
  intro l
  induction l with
  | nil => intro _ h; cases h
  | cons p l ih =>
    intro ho hg
    have ho' := ho
    unfold Once at ho'
    rw [List.map_cons, List.nodup_cons] at ho'
    by_cases h : k = p.1
    · subst h
      simp only [List.map_cons, setA, if_true]
      congr 1
      refine List.map_congr_left fun q hq => ?_
      rw [if_neg fun e => ho'.1 (List.mem_map.2 ⟨q, hq, e⟩)]
    · have h2 : ¬ p.1 = k := fun e => h e.symm
      have hg2 : (getA k l).isSome := by simpa [getA, h] using hg
      simp only [List.map_cons, setA, h, if_false, h2]
      rw [ih (show Once l from ho'.2) hg2]
def Sl.calm (x : Sl) : Sl := { x with bid := none }
def Gr.clr (G : Gr) (i : Nat) (done : Int → Bool) : Gr := G.setNd i ⟨false, (G.nd i).sl.map fun p => (p.1, if done p.1 then p.2.calm else p.2)⟩
def Gr.crash (G : Gr) (n : Int) : Gr := if 0 ≤ n ∧ n < G.nds.length ∧ (G.nd n.toNat).up = true then G.clr n.toNat fun _ => true else G
theorem clr_len (G : Gr) (i : Nat) (d : Int → Bool) : (G.clr i d).nds.length = G.nds.length := Gr.len_set _ _ _
theorem clr_nd {G : Gr} {i : Nat} (hi : i < G.nds.length) (d : Int → Bool) : (G.clr i d).nd i = ⟨false, (G.nd i).sl.map fun p => (p.1, if d p.1 then p.2.calm else p.2)⟩ := by
  unfold Gr.clr
  rw [Gr.nd_set _ _ _ _ hi, if_pos rfl]
theorem clr_get {G : Gr} {i : Nat} (hi : i < G.nds.length) (d : Int → Bool) (k : Int) : getA k ((G.clr i d).nd i).sl = (getA k (G.nd i).sl).map fun x => if d k then x.calm else x := by
  rw [clr_nd hi]
  exact getA_mapv (fun (k : Int) (x : Sl) => if d k then x.calm else x) k _
theorem clr_set {G : Gr} {i : Nat} (hi : i < G.nds.length) (ho : Once (G.nd i).sl) (d : Int → Bool) {k : Int} {x : Sl} (hx : getA k (G.nd i).sl = some x) : (G.clr i d).setSl i k x.calm = G.clr i fun j => decide (j = k) || d j := by
  unfold Gr.setSl
  rw [clr_nd hi]
  simp only
  rw [setA_mapv (fun (k : Int) (x : Sl) => if d k then x.calm else x) k x.calm ho (by rw [hx]; rfl)]
  unfold Gr.clr Gr.setNd
  simp only [List.set_set]
  congr 3
  refine List.map_congr_left fun p hp => ?_
  have hg := ho.get hp
  by_cases e : p.1 = k
  · rw [e] at hg ⊢
    rw [hx] at hg
    injection hg with hg
    simp [hg]
  · simp [e]
theorem clr_congr {G : Gr} {i : Nat} {d d' : Int → Bool} (h : ∀ p ∈ (G.nd i).sl, d p.1 = d' p.1) : G.clr i d = G.clr i d' := by
  unfold Gr.clr
  congr 2
  refine List.map_congr_left fun p hp => ?_
  rw [h p hp]
section
variable {G : Gr}
theorem clr_none {i : Nat} (hi : i < G.nds.length) : G.clr i (fun _ => false) = G.setNd i { G.nd i with up := false } := by
  unfold Gr.clr
  congr 1
  simp
end

end Go.Proofs.Ytbgopicpdpkccaa

