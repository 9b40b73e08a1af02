/- store: Each: what goes over the store's dump. -/
import Derived.Test.YtnbbdjbjbjlcpaaDoorSView
import Derived.Test.YtnbbdjbjbjlcpaaDoorSLive
import Derived.RangeFuncNested
import Derived.RangeFuncBound
import Derived.RangeFuncCalls
import Derived.RangeFuncLeaves
import Derived.Shelf.Abstract
import Derived.Shelf.RegionOpen
import Derived.WalkKit
import Derived.OwnWalkIn
import Derived.TacticsInMore
import Derived.LoopNIn
import Derived.LoopIn
namespace Go.Proofs.YtnbbdjbjbjlcpaaDoor
open Go.RowKit Go.Shelf
set_option linter.unusedVariables false
set_option linter.unusedSimpArgs false
attribute [local go_sem] Oper.semAt_some

/-- what a round that goes on keeps: every row of items from n₀ on -/
def KpI (n₀ : Nat) (W W' : World) : Prop := ∀ b cs, n₀ ≤ b → W.heap[b]? = some (.cells cs 64 (0, 0)) → W'.heap[b]? = some (.cells cs 64 (0, 0))
section
variable {n₀ : Nat} {W W' X : World}
theorem KpI.refl (n₀ : Nat) (W : World) : KpI n₀ W W := fun _ _ _ h => h
theorem KpI.trans (h : KpI n₀ W W') (k : KpI n₀ W' X) : KpI n₀ W X := fun b cs hb h0 => k b cs hb (h b cs hb h0)
theorem KpI.bel (h : Below W.heap.size W W') : KpI n₀ W W' := fun b cs _ h0 => (h.block b (Array.getElem?_eq_some_iff.1 h0).1).trans h0
theorem KpI.upd {M : Nat → Prop} (h : Upd M W W') (hM : ∀ j, M j → j < n₀) : KpI n₀ W W' := fun b cs hb h0 => (h.block b (Array.getElem?_eq_some_iff.1 h0).1 fun hm => by have := hM b hm; omega).trans h0
theorem KpI.set {B : Nat} {t : TypeId} {cs : Array Value} (h : Blk W B t cs) (hne : t ≠ 64) (i : Nat) (u : Value) : KpI n₀ W (W.setCell ⟨B, i, none⟩ u) := fun b cs' _ h0 => by
  have hb : b ≠ B := by rintro rfl; unfold Blk at h; rw [h0] at h; injection h with h; injection h with h1 h2; exact hne h2.symm
  exact (Below.heap_setCell W ⟨B, i, none⟩ u b hb).trans h0
theorem kpI_b {w : World} (W : World) (l : Nat) (o o' : Obj) (_ : w.heap.size ≤ l) (h : W.heap[l]? = some o) (hc : o.isCells = false) (_ : o.isWalk = false) : KpI n₀ W (W.putObj l o') := fun b cs _ h0 => by
  have hb : b ≠ l := by rintro rfl; rw [h0] at h; cases h; cases hc
  exact ((grownBy_putObj' W l o').block b (Array.getElem?_eq_some_iff.1 h0).1 (by simpa using hb)).trans h0
theorem KpI.row {base size n : Nat} {v : Value} {xs : List Value} (h : KpI n₀ W W') (hb : n₀ ≤ base) (hr : W.ownsRow base 64 size v n xs) : W'.ownsRow base 64 size v n xs := by
  refine ⟨hr.1, ?_⟩
  rcases hr.2 with hn | ⟨g, cap, cur, rfl, hg, hw, rest⟩
  · exact .inl hn
  · exact .inr ⟨g, cap, cur, rfl, hg, h g cur (by omega) hw, rest⟩
theorem grown_of_below (h : Below W.heap.size W W') : W.grownBy W' none := ⟨h.os, h.tape, h.output, h.size, fun k hk _ => h.block k hk⟩
theorem abides_below {β : Type} {B : Nat} {J : β → World → Prop} (hJ : AbidesFrom B J) {s : β} (h : J s W) (hb : Below W.heap.size W W') : J s W' := hJ s W W' none h (grown_of_below hb) fun r e => by cases e
end
def encV (x : Kv) : Array Value := #[.string x.1, .agg #[.int .i64 x.2.k, .int .i64 x.2.n, .string x.2.s]]
section
variable {S : Nat → Prop} {w w' : World} {g : Nat} {s : St}
set_option maxRecDepth 100000 in
theorem each_any (w : World) (p : Option Addr) : Calls Tryd.prog 16 #[.pointer p] w fun e w' => e = .returned (.func (.func 36) #[] #[.pointer (some ⟨w.heap.size, 0, none⟩)]) ∧ w' = w.alloc (.cells #[.pointer p] 26) := by
  go_enter Tryd.func16, Tryd.ntmps16
  go_wp2_with fail
  go_ret
  exact ⟨rfl, rfl⟩
set_option maxRecDepth 100000 in
set_option maxHeartbeats 2000000 in
theorem each_stops (n Bn n₀ : Nat) (hn : 1 ≤ n) (h : PAt S w g s) (hb : Blk w Bn 26 #[.pointer (some ⟨g, 0, none⟩)]) (hn₀ : n₀ ≤ w.heap.size) :
    SeqStopsK Fence.wide n Tryd.prog 36 #[.pointer (some ⟨Bn, 0, none⟩)] encV (KpI n₀) (fun xs => xs = dumpL s.L) (fun pre => pre <+: dumpL s.L) (dumpL s.L).length w := by
  intro l J Jx W hW hJ hJx hY h0
  have hcall := hid (dumpM_any (h.below hW))
  have c0 : W.cell? ⟨Bn, 0, none⟩ = some (.pointer (some ⟨g, 0, none⟩)) := (hb.below_all hW).cell 0
  have hlen : ((dumpL s.L).length : Int) ≤ 262144 := by have := h.ok.dlen; omega
  have hWs := hid (show n₀ ≤ W.heap.size from Nat.le_trans hn₀ hW.size)
  clear h hb
  generalize hD : dumpL s.L = D at *
  refine callsIn_of_wp Tryd.func36 rfl trivial ?_ rfl
  simp only [Tryd.ntmps36, List.size_toArray, List.length_cons, List.length_nil, Nat.reduceAdd, Nat.reduceSub, Array.replicate_succ, Array.replicate_zero, List.push_toArray, List.append_toArray, List.nil_append, List.cons_append]
  gi_wp2_with (refine ⟨trivial, ?_⟩; gi_at_call 21; refine (callsIn_wide.2 hcall.out).mono ?_; rintro e w2 ⟨A, c, rfl, hr2, hb2⟩)
  have hr2 := hid hr2
  have hJ2 := hid (abides_below hJ h0 hb2)
  have hJ := hid hJ
  have hY := hid hY
  clear hb2 c0 h0 hJx
  gi_loopw [8] (fun v wr => ∃ k : Nat, v = .int .i64 k ∧ k ≤ D.length ∧ J (D.take k) wr ∧ wr.ownsRow (W.heap.size + 1) 64 4 (.slice A D.length c) D.length (kvCells D)) (fun v _ => D.length - (intOf v).toNat)
  case atStart => exact ⟨0, rfl, Nat.zero_le _, hJ2.out, hr2.out⟩
  case round =>
    clear hJ2 hr2
    obtain ⟨k, rfl, hk, hj0, hr0⟩ := hrel
    have hr := hid hr0
    have hj := hid hj0
    clear hj0
    by_cases hlt : k < D.length
    · have i1 : (k : Int) < (D.length : Int) := by omega
      obtain ⟨b, o, rfl, _, _, y0, y1, y2, y3⟩ := rd_kv (Rd.of_own' hr0) hlt
      obtain ⟨x, hx⟩ : ∃ x, x = D[k] := ⟨_, rfl⟩
      have htk : Hid (D.take (k + 1) = D.take k ++ [x]) := hid (by rw [hx]; exact List.take_succ_eq_append_getElem hlt)
      rw [← hx] at y0 y1 y2 y3
      clear hx hr0
      have hj3 := abides_below hJ.out hj.out (W' := wr.alloc (.cells #[.string x.1, .int .i64 x.2.k, .int .i64 x.2.n, .string x.2.s] 64)) ((Below.refl _ _).alloc (Nat.le_refl _) _)
      obtain ⟨fn, tmps, assign, body, hy, hR⟩ := hY.out (D.take k) x _ hj3 (by rw [List.length_take]; omega)
      have hR := hid hR
      have hr3 := hid (hr.out.alloc (.cells #[.string x.1, .int .i64 x.2.k, .int .i64 x.2.n, .string x.2.s] 64))
      dsimp only [encV] at hy
      clear hj3 hj hJ
      gi_wp2
      refine hR.out.mono ?_
      rintro e W4 (⟨rfl, hJ4, hk4⟩ | ⟨rfl, hJx4⟩)
      · have hr4 := hid (KpI.row hk4 (by have := hWs.out; omega) hr3.out)
        have hJ4 := hid hJ4
        clear hk4 hr3 hR
        gi_wp2
        go_roundw
        case rel => exact ⟨k + 1, by go_num, hlt, by rw [htk.out]; exact hJ4.out, hr4.out⟩
        case measure => simp [intOf]; omega
      · have hJx4 := hid hJx4
        clear hR hr3
        gi_wp2
        refine bodyPost_ret (results_none rfl _ _ _) rfl ?_
        exact ⟨⟨_, rfl⟩, .inr ⟨D.take k ++ [x], by rw [← htk.out]; exact List.take_prefix _ _, hJx4.out⟩⟩
    · obtain rfl : k = D.length := by omega
      rw [List.take_length] at hj
      clear hr0
      generalize hln : D.length = n' at *
      clear hlt
      gi_wp2
      go_end0
      exact ⟨⟨_, rfl⟩, .inl ⟨D, rfl, hj.out⟩⟩
end
end Go.Proofs.YtnbbdjbjbjlcpaaDoor
