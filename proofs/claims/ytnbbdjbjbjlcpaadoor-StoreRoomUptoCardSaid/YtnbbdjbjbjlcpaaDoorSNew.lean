/- store: New. -/
import Derived.Test.YtnbbdjbjbjlcpaaDoorSOf
namespace Go.Proofs.YtnbbdjbjbjlcpaaDoor
open Go.RowKit
set_option linter.unusedVariables false
set_option linter.unusedSimpArgs false

theorem info_map : (Tryd.prog.info? 60).map (fun i => (i.zero, i.size, i.bytes)) = some (some (.map none), 1, 8) := by kernel_rfl
theorem st_ok {p r : Nat} (hp : 1 ≤ p ∧ p ≤ 64) (hr : 1 ≤ r ∧ r ≤ 4096) : St.Ok ⟨p, r, []⟩ := ⟨hp, hr, by simp [Asc], by simp, by simp, fun q _ => by simp [cntP]⟩
def goodPR (p r : Int) : Bool := decide (1 ≤ p) && decide (p ≤ 64) && decide (1 ≤ r) && decide (r ≤ 4096)
theorem new_bad (p r : Int) (w : World) (h : goodPR p r = false) : Calls Tryd.prog 6 #[.int .i64 p, .int .i64 r] w fun e w' => e = .returned (.tuple #[.pointer none, .int .i64 2]) ∧ w' = w := by
  have hc : p < 1 ∨ (1 ≤ p ∧ 64 < p) ∨ (1 ≤ p ∧ p ≤ 64 ∧ r < 1) ∨ (1 ≤ p ∧ p ≤ 64 ∧ 1 ≤ r ∧ 4096 < r) := by
    unfold goodPR at h
    simp at h
    omega
  clear h
  rcases hc with h | ⟨h1, h⟩ | ⟨h1, h2, h⟩ | ⟨h1, h2, h3, h⟩
  · have t1 : decide (p < 1) = true := decide_eq_true h
    clear h
    go_enter Tryd.func6, Tryd.ntmps6
    go_wp2_with fail
    go_ret2
    exact ⟨rfl, rfl⟩
  · have t1 : decide (p < 1) = false := decide_eq_false (by omega)
    have t2 : decide (64 < p) = true := decide_eq_true h
    clear h h1
    go_enter Tryd.func6, Tryd.ntmps6
    go_wp2_with fail
    go_ret2
    exact ⟨rfl, rfl⟩
  · have t1 : decide (p < 1) = false := decide_eq_false (by omega)
    have t2 : decide (64 < p) = false := decide_eq_false (by omega)
    have t3 : decide (r < 1) = true := decide_eq_true h
    clear h h1 h2
    go_enter Tryd.func6, Tryd.ntmps6
    go_wp2_with fail
    go_ret2
    exact ⟨rfl, rfl⟩
  · have t1 : decide (p < 1) = false := decide_eq_false (by omega)
    have t2 : decide (64 < p) = false := decide_eq_false (by omega)
    have t3 : decide (r < 1) = false := decide_eq_false (by omega)
    have t4 : decide (4096 < r) = true := decide_eq_true h
    clear h h1 h2 h3
    go_enter Tryd.func6, Tryd.ntmps6
    go_wp2_with fail
    go_ret2
    exact ⟨rfl, rfl⟩
/-- under way: k maps are made -/
structure NewRel (w wr : World) (r k : Nat) (A : Option Addr) (c : Nat) (mb : Nat → Nat) : Prop where
  blk : Blk wr (w.heap.size + 1) 59 #[.int .i64 r, .slice A k c, .map (some w.heap.size)]
  own : wr.ownsRow (w.heap.size + 2) 60 1 (.slice A k c) k ((List.range k).map fun i => .map (some (mb i)))
  mp : ∀ i, i < k → MapF strE wr (mb i) (fun _ => none) ∧ w.heap.size + 2 ≤ mb i
  inj : ∀ i j, i < k → j < k → mb i = mb j → i = j
  vals : MapF strE wr w.heap.size fun _ => none
  bel : Below w.heap.size w wr
theorem NewRel.fin {w wr : World} {r k : Nat} {A : Option Addr} {c : Nat} {mb : Nat → Nat} (h : NewRel w wr r k A c mb) (hk : 1 ≤ k ∧ k ≤ 64) (hr : 1 ≤ r ∧ r ≤ 4096) : PAt (fun j => w.heap.size ≤ j ∧ j < wr.heap.size) wr (w.heap.size + 1) ⟨k, r, []⟩ := by
  rcases h.own.2 with ⟨_, h0⟩ | ⟨g, cap, cur, hv, hbase, hb, h1, h2, h3, h4⟩
  · omega
  · injection hv with hA _ _
    subst hA
    have hgl : g < wr.heap.size := (Array.getElem?_eq_some_iff.1 hb).1
    refine ⟨g, c, mb, w.heap.size, h.blk, ⟨cur, hb, fun p hp => ?_⟩, fun p hp => ?_, fun p q hp hq => h.inj p q hp hq, ?_, fun p hp => ?_, ⟨⟨by omega, h.blk.lt⟩, ⟨by omega, hgl⟩, ⟨Nat.le_refl _, h.vals.lt⟩, fun p hp => ⟨by have := (h.mp p hp).2; omega, (h.mp p hp).1.lt⟩⟩, fun j hj => hj.2, st_ok hk hr⟩
    · have hp' : p < k := hp
      have := congrArg (fun l => l[p]?) h4
      simp only [Nat.mul_one] at this
      rw [List.getElem?_take_of_lt hp', Array.getElem?_toList] at this
      rw [this, List.getElem?_map, List.getElem?_range hp']; rfl
    · refine (h.mp p hp).1.congr fun y => ?_
      simp [Dc, hasK]
    · refine h.vals.congr fun y => ?_
      simp [Dv, valK, vl0]
    · have := (h.mp p hp).2; omega
set_option maxRecDepth 100000 in
set_option maxHeartbeats 4000000 in
theorem new_ok (p r : Nat) (w : World) (hp : 1 ≤ p ∧ p ≤ 64) (hr : 1 ≤ r ∧ r ≤ 4096) : Calls Tryd.prog 6 #[.int .i64 p, .int .i64 r] w fun e w' => ∃ S g, e = .returned (.tuple #[.pointer (some ⟨g, 0, none⟩), .int .i64 0]) ∧ PAt S w' g ⟨p, r, []⟩ ∧ (∀ j, S j → w.heap.size ≤ j) ∧ Below w.heap.size w w' := by
  have t1 : decide ((p : Int) < 1) = false := decide_eq_false (by omega)
  have t2 : decide (64 < (p : Int)) = false := decide_eq_false (by omega)
  have t3 : decide ((r : Int) < 1) = false := decide_eq_false (by omega)
  have t4 : decide (4096 < (r : Int)) = false := decide_eq_false (by omega)
  have t2n : decide (64 < p) = false := decide_eq_false (by omega)
  have t4n : decide (4096 < r) = false := decide_eq_false (by omega)
  have hmm := @run_makeMap Tryd.prog
  obtain ⟨ip, hip, hp0, hp1, hp2⟩ := info_parts info_map
  have hpp := hid hp
  have hrr := hid hr
  have hP : (p : Int) ≤ 64 := by omega
  clear hp hr
  go_enter Tryd.func6, Tryd.ntmps6
  go_upto_region 4 with fail
  have hb0 : Below w.heap.size w ((w.alloc (.map #[] 0)).alloc (.cells #[.int .i64 r, .slice none 0 0, .map (some w.heap.size)] 59)) := below_two _ _
  have R0 : NewRel w ((w.alloc (.map #[] 0)).alloc (.cells #[.int .i64 r, .slice none 0 0, .map (some w.heap.size)] 59)) r 0 none 0 (fun _ => 0) :=
    ⟨Blk.new' _ _ _ (by simp), World.ownsRow_nil _ _ _ _, fun i hi => by omega, fun i j hi => by omega, (MapF.new w).keep (Below.heap_alloc _ _ _ (by simp)), hb0⟩
  have R0 := hid R0
  generalize (w.alloc (.map #[] 0)).alloc (.cells #[.int .i64 r, .slice none 0 0, .map (some w.heap.size)] 59) = W1 at *
  clear hb0
  go_wp2_with fail
  go_loopw [26] (fun v wr => ∃ (k : Nat) (A : Option Addr) (c : Nat) (mb : Nat → Nat), v = .int .i64 k ∧ k ≤ p ∧ NewRel w wr r k A c mb) (fun v _ => p - (intOf v).toNat)
  case atStart => exact ⟨0, none, 0, _, rfl, Nat.zero_le _, R0.out⟩
  case round =>
    clear R0
    obtain ⟨k, A, c, mb, rfl, hk, R⟩ := hrel
    have R := hid R
    have c1 : wr.cell? ⟨w.heap.size + 1, 1, none⟩ = some (.slice A k c) := R.out.blk.cell 1
    by_cases hlt : k < p
    · have i1 : (k : Int) < (p : Int) := by omega
      have hsz := R.out.bel.size
      have c1a : ((wr.alloc (.map #[] 0)).alloc (.cells #[.map (some wr.heap.size)] 60)).cell? ⟨w.heap.size + 1, 1, none⟩ = some (.slice A k c) := ((R.out.blk.alloc _).alloc _).cell 1
      have hgl := hid R.out.blk.lt
      have hownA := hid ((R.out.own.alloc (.map #[] 0)).alloc (.cells #[.map (some wr.heap.size)] 60))
      have hsz' := hid hsz
      have hPk := hid (show k ≤ 64 by omega)
      clear hsz c1a
      go_wp2_with (
        at_builtin
        refine wpList_append_rd _ rfl (.tmp 32) (.tmp 34) 57 rfl (w.heap.size + 2) 60 ip _ 1 8 Tryd.underlying57 hip hp0 hp1 hp2 rfl (by omega) (.slice A k c) k _ rfl hownA.out (fun b => b = wr.heap.size + 1) (some ⟨wr.heap.size + 1, 0, none⟩) 1 1 [.map (some wr.heap.size)] rfl (Rd.new _ 60 1 1 #[.map (some wr.heap.size)] _ (by simp) rfl) (by simp [Value.oneCell']) (by have := hPk.out; simp only [maxLen]; omega) (by have := hPk.out; omega) (by have := hgl.out; simp; omega) ?_
        intro v3 w3 hown3 hg3 hat3
        obtain ⟨A3, c3, rfl, hc3, _⟩ := own_form hown3
        have hgn : some (w.heap.size + 1) ≠ (Value.slice A k c).ownBlock := fun e => by have := (R.out.own.lt _ e.symm).1; omega
        have b3 : Blk w3 (w.heap.size + 1) 59 #[.int .i64 r, .slice A k c, .map (some w.heap.size)] := ((R.out.blk.alloc _).alloc _).grown hg3 hgn
        have x1 : w3.cell? ⟨w.heap.size + 1, 1, none⟩ = some (.slice A k c) := b3.cell 1
        have xf := b3.frozen
        have hb3 := hid b3
        have hgg := hid hg3
        have hoo := hid hown3
        clear b3 hg3 hown3 hgn)
      have hu3 : Upd (fun j => (Value.slice A k c).ownBlock = some j) wr w3 := (((Upd.refl _ wr).alloc _).alloc _).grown hgg.out fun q hq _ => hq
      have hu4 : Upd (fun j => (Value.slice A k c).ownBlock = some j ∨ j = w.heap.size + 1) wr (w3.setCell ⟨w.heap.size + 1, 1, none⟩ (.slice A3 (k + 1) c3)) := (hu3.mono fun j _ h => .inl h).setCell (p := ⟨w.heap.size + 1, 1, none⟩) (fun _ => .inr rfl) _
      have hnm : ∀ {b D}, MapF strE wr b D → ¬ ((Value.slice A k c).ownBlock = some b ∨ b = w.heap.size + 1) := fun {b D} hm h => by
        rcases h with h | h
        · rcases R.out.own.2 with ⟨hn, _⟩ | ⟨gr, cap, cur, hv, _, hbb, _⟩
          · rw [hn] at h; cases h
          · rw [hv] at h
            injection h with h
            exact hm.ne_blk hbb h.symm
        · exact hm.ne_blk R.out.blk h
      go_roundw
      case rel =>
        have hwl : w.heap.size + 1 < wr.heap.size := hgl.out
        refine ⟨k + 1, A3, c3, fun j => if j = k then wr.heap.size else mb j, by go_num, hlt, ⟨?_, ?_, fun i hi => ?_, fun i j hi hj e => ?_, (R.out.vals.upd hu4 (hnm R.out.vals)), ?_⟩⟩
        · exact hb3.out.set_ 1 _
        · have h1 : (w3.setCell ⟨w.heap.size + 1, 1, none⟩ (.slice A3 (k + 1) c3)).ownsRow (w.heap.size + 2) 60 1 (.slice A3 (k + 1) c3) (k + 1) ((List.range k).map (fun i => .map (some (mb i))) ++ [.map (some wr.heap.size)]) := own_updB hoo.out ((Upd.refl (fun j => j = w.heap.size + 1) w3).setCell (p := ⟨w.heap.size + 1, 1, none⟩) (fun _ => rfl) _) fun q hq _ e => by omega
          rw [List.range_succ, List.map_append]
          have e : (List.range k).map (fun i => Value.map (some (if i = k then wr.heap.size else mb i))) = (List.range k).map (fun i => Value.map (some (mb i))) := List.map_congr_left fun i hi => by rw [if_neg (by have := List.mem_range.1 hi; omega)]
          rw [e]
          simpa using h1
        · by_cases e : i = k
          · subst e
            rw [if_pos rfl]
            refine ⟨?_, by omega⟩
            have h0 : MapF strE (wr.alloc (.map #[] 0)) wr.heap.size fun _ => none := MapF.new wr
            have h1 : w3.heap[wr.heap.size]? = (wr.alloc (.map #[] 0)).heap[wr.heap.size]? := (hgg.out.block _ (by simp; omega) fun e => by
              have := (R.out.own.lt _ e.symm).2
              omega).trans (Below.heap_alloc _ _ _ (by simp))
            exact (h0.keep h1).keep (Below.heap_setCell _ _ _ _ (by simp only; omega))
          · rw [if_neg e]
            have := R.out.mp i (by omega)
            exact ⟨this.1.upd hu4 (hnm this.1), this.2⟩
        · have hml : ∀ i, i < k → mb i < wr.heap.size := fun i hi => (R.out.mp i hi).1.lt
          by_cases e1 : i = k
          · by_cases e2 : j = k
            · omega
            · rw [if_pos e1, if_neg e2] at e
              have := hml j (by omega); omega
          · by_cases e2 : j = k
            · rw [if_neg e1, if_pos e2] at e
              have := hml i (by omega); omega
            · rw [if_neg e1, if_neg e2] at e
              exact R.out.inj i j (by omega) (by omega) e
        · exact R.out.bel.trans ((hu4.below (B := w.heap.size) (by omega) fun j hj h => by
            rcases h with h | h
            · have := (R.out.own.lt _ h).1; omega
            · omega))
      case measure => simp [intOf]; omega
    · obtain rfl : k = p := by omega
      have hfin := hid (R.out.fin hpp.out hrr.out)
      have hB := hid R.out.bel
      clear R
      go_wp2_with fail
      go_ret2
      exact ⟨_, _, rfl, hfin.out, fun j hj => hj.1, hB.out⟩
end Go.Proofs.YtnbbdjbjbjlcpaaDoor
