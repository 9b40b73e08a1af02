/- The document's queue: New, Clear, Cancel. -/
import Derived.Test.YtppcjaljhahdnaaQRefOut
namespace Go.Proofs.Ytppcjaljhahdnaa
open Go.RowKit
set_option linter.unusedVariables false
set_option linter.unusedSimpArgs false

set_option maxHeartbeats 1000000 in
theorem rnew_bad (m s n : Int) (w : World) (h : badNew m s n = true) :
    Calls Try.prog 23 #[.int .i64 m, .int .i64 s, .int .i64 n] w fun e w' => e = .returned (.tuple #[.pointer none, .int .i64 2]) ∧ w = w' := by
  unfold badNew at h
  have h := of_decide_eq_true h
  by_cases h1 : m < 1
  · clear h
    go_enter Try.func23, Try.ntmps23
    go_wp2
    go_ret2
    exact ⟨rfl, rfl⟩
  by_cases h2 : 1024 < m
  · clear h
    go_enter Try.func23, Try.ntmps23
    go_wp2
    go_ret2
    exact ⟨rfl, rfl⟩
  by_cases h3 : s < 1
  · clear h
    go_enter Try.func23, Try.ntmps23
    go_wp2
    go_ret2
    exact ⟨rfl, rfl⟩
  by_cases h4 : m < s
  · clear h
    go_enter Try.func23, Try.ntmps23
    go_wp2
    go_ret2
    exact ⟨rfl, rfl⟩
  by_cases h5 : n < 0
  · clear h
    go_enter Try.func23, Try.ntmps23
    go_wp2
    go_ret2
    exact ⟨rfl, rfl⟩
  have h6 : 256 < n := by omega
  clear h
  go_enter Try.func23, Try.ntmps23
  go_wp2
  go_ret2
  exact ⟨rfl, rfl⟩
set_option maxRecDepth 100000 in
set_option maxHeartbeats 1000000 in
theorem rnew_ok (m s n : Int) (w : World) (h : badNew m s n = false) :
    Calls Try.prog 23 #[.int .i64 m, .int .i64 s, .int .i64 n] w fun e w' => ∃ S g, (e = .returned (.tuple #[.pointer (some ⟨g, 0, none⟩), .int .i64 0]) ∧ (∀ k, S k → w.heap.size ≤ k)) ∧ RAt S w' g m s n [] (fun _ => []) ∧ Below w.heap.size w w' := by
  unfold badNew at h
  have h := of_decide_eq_false h
  have h1 : ¬ m < 1 := by omega
  have h2 : ¬ 1024 < m := by omega
  have h3 : ¬ s < 1 := by omega
  have h4 : ¬ m < s := by omega
  have h5 : ¬ n < 0 := by omega
  have h6 : ¬ 256 < n := by omega
  clear h
  have hmk : ∀ w : World, (Instr.makeSlice 74 (.int .i64 64) (.int .i64 64)).run Try.prog w = .ok (.slice (some ⟨w.heap.size, 0, none⟩) 64 64) (w.alloc (.cells (Array.replicate 64 (.slice none 0 0)) 61)) := fun w => by kernel_rfl
  go_enter Try.func23, Try.ntmps23
  go_wp2_with fail
  go_ret2
  refine ⟨fun k => w.heap.size ≤ k ∧ k < w.heap.size + 2, w.heap.size + 1, ⟨rfl, fun k hk => hk.1⟩, ⟨w.heap.size, none, 0, [], fun _ => .slice none 0 0, ⟨Blk.new' _ _ _ (by simp), ⟨_, (Blk.new w 61 (Array.replicate 64 (.slice none 0 0))).alloc _, fun k hk => by simp [hk]⟩, ⟨⟨World.ownsRow_nil _ _ _ _, by simp [Value.ownBlock]⟩, by simp⟩, fun k hk => ⟨TokAt.nil _, by simp [Value.ownBlock]⟩, fun _ _ => rfl, ⟨by omega, by omega⟩, fun k hk => by simp; omega, by omega, by omega, by simp; omega, fun _ => by simp; omega, by simp⟩, rfl⟩, ?_⟩
  exact ((Below.refl w.heap.size w).alloc (Nat.le_refl _) _).alloc (by simp) _

section
variable {S : Nat → Prop} {w : World} {g : Nat} {mt sh wn : Int} {L : List Pl} {T : Int → List Int}
theorem RGone.stay (h : RAt S w g mt sh wn L T) : RGone S w g mt sh wn L T w := ⟨S, h, fun _ h => .inl h, Upd.refl _ _⟩
theorem rclear_any (h : RAt S w g mt sh wn L T) : Calls Try.prog 45 #[.pointer (some ⟨g, 0, none⟩)] w fun e w' => e = .returned (.int .i64 L.length) ∧ RGone S w g mt sh wn [] T w' := by
  obtain ⟨bt, A, c, rs, tv, q, rfl⟩ := h
  obtain ⟨c0, c1, c2, c3, c4⟩ := q.cells
  have hfin := hid (q.gone (Below.refl _ _) (A' := none) (c' := 0) (n' := 0) (rs' := []) (World.ownsRow_nil _ _ _ _) rfl (by simp) (Nat.zero_le _) (L' := []) rfl)
  have qg := fun j => q.blk.frozen j
  clear q
  go_enter Try.func45, Try.ntmps45
  go_wp2_with fail
  go_ret
  exact ⟨by simp [plans], hfin.out⟩
set_option maxHeartbeats 1000000 in
theorem rcancel_any (c t : Int) (h : RAt S w g mt sh wn L T) : Calls Try.prog 44 #[.pointer (some ⟨g, 0, none⟩), .int .i64 c, .int .u64 t] w
    fun e w' => e = .returned (.bool (decide (0 ≤ idxP c t L 0))) ∧ RGone S w g mt sh wn (outL L (idxP c t L 0)) T w' := by
  have h0 := hid h
  obtain ⟨bt, A, cc, rs, tv, q, rfl⟩ := h
  obtain ⟨c0, c1, c2, c3, c4⟩ := q.cells
  have hpl := q.pls.ok'
  have hl1 := q.len
  have hl2 := q.mt1
  clear q
  go_enter Try.func44, Try.ntmps44
  go_wp2_with fail
  go_loopw [7] (fun i wr => ∃ k : Nat, k ≤ rs.length ∧ i = .int .i64 k ∧ wr = w ∧ ∀ j (h : j < rs.length), j < k → isP c t rs[j].p = false) (fun i _ => rs.length - (intOf i).toNat)
  case atStart => exact ⟨0, Nat.zero_le _, rfl, rfl, fun j _ h => absurd h (by omega)⟩
  case round =>
    obtain ⟨k, hk, rfl, rfl, hne0⟩ := hrel
    have hne := hid hne0
    clear hne0
    by_cases hlt : k < rs.length
    · obtain ⟨b, o, rfl, _, hbl, _, f0, f1, _⟩ := hpl.at_ hlt
      have i1 : (k : Int) < (rs.length : Int) := by omega
      clear hpl
      cases hP0 : isP c t rs[k].p with
      | true =>
        have hP' := hid hP0
        have hP := hP0
        clear hP0
        unfold isP at hP
        simp only [Bool.and_eq_true] at hP
        obtain ⟨e1, e2⟩ := hP
        have hidx : idxP c t (plans rs) 0 = (k : Int) := by
          rw [idxP_some (m := k) (by simpa [plans] using hlt) (fun j hj hjk => by simpa [plans] using hne.out j (by simpa [plans] using hj) hjk) (by simpa [plans] using hP'.out), Nat.zero_add]
        have hix := hid hidx
        clear hidx
        go_wp2_with fail
        refine (rout_any k h0.out (by simpa [plans] using hlt)).mono ?_
        rintro e w2 ⟨rfl, hg⟩
        have hg := hid hg
        go_wp2_with fail
        go_ret
        rw [hix.out]
        refine ⟨by simp, ?_⟩
        have hlen : ((plans rs).length : Int) = rs.length := by simp [plans]
        unfold outL
        rw [if_pos (by omega), Int.toNat_natCast]
        exact hg.out
      | false =>
        have hP' := hid hP0
        have hP := hP0
        clear hP0
        by_cases e1 : rs[k].p.cl = c
        · have d1 : (rs[k].p.cl == c) = true := by simpa using e1
          have d2 : (rs[k].p.tok == t) = false := by unfold isP at hP; rw [d1] at hP; simpa using hP
          clear hP e1
          go_wp2_with fail
          go_roundw
          case rel =>
            refine ⟨k + 1, by omega, by go_num, by trivial, fun j h hj => ?_⟩
            rcases Nat.lt_or_ge j k with g | g
            · exact hne.out j h g
            · obtain rfl : j = k := by omega
              exact hP'.out
          case measure => simp [intOf]; omega
        · have d1 : (rs[k].p.cl == c) = false := by simpa using e1
          clear hP e1
          go_wp2_with fail
          go_roundw
          case rel =>
            refine ⟨k + 1, by omega, by go_num, by trivial, fun j h hj => ?_⟩
            rcases Nat.lt_or_ge j k with g | g
            · exact hne.out j h g
            · obtain rfl : j = k := by omega
              exact hP'.out
          case measure => simp [intOf]; omega
    · obtain rfl : k = rs.length := by omega
      have hidx : idxP c t (plans rs) 0 = -1 := idxP_none fun j hj => by simpa [plans] using hne.out j (by simpa [plans] using hj) (by simpa [plans] using hj)
      have hix := hid hidx
      clear hidx
      go_wp2_with fail
      go_ret
      rw [hix.out]
      refine ⟨rfl, ?_⟩
      unfold outL
      rw [if_neg (by omega)]
      exact .stay h0.out
end

end Go.Proofs.Ytppcjaljhahdnaa
