/- queue: New, num, Len, Of, Seen. -/
import Derived.Test.YtppcjaljhahdnaaQueue
namespace Go.Proofs.Ytppcjaljhahdnaa
open Go.RowKit
set_option linter.unusedVariables false
set_option linter.unusedSimpArgs false

theorem num_any (a : Int) (w : World) : Calls Try.prog 12 #[.int .i64 a] w fun e w' => e = .returned (.int .i64 a) ∧ w = w' := by
  go_enter Try.func12, Try.ntmps12
  go_wp2
  go_ret
  exact ⟨rfl, rfl⟩

/-- what New refuses -/
def badNew (m s n : Int) : Bool := decide (m < 1 ∨ 1024 < m ∨ s < 1 ∨ m < s ∨ n < 0 ∨ 256 < n)
set_option maxHeartbeats 1000000 in
theorem new_bad (m s n : Int) (w : World) (h : badNew m s n = true) :
    Calls Try.prog 11 #[.int .i64 m, .int .i64 s, .int .i64 n] w fun e w' => e = .returned (.tuple #[.pointer none, .int .i64 2]) ∧ w = w' := by
  unfold badNew at h
  have h := of_decide_eq_true h
  by_cases h1 : m < 1
  · clear h
    go_enter Try.func11, Try.ntmps11
    go_wp2
    go_ret2
    exact ⟨rfl, rfl⟩
  by_cases h2 : 1024 < m
  · clear h
    go_enter Try.func11, Try.ntmps11
    go_wp2
    go_ret2
    exact ⟨rfl, rfl⟩
  by_cases h3 : s < 1
  · clear h
    go_enter Try.func11, Try.ntmps11
    go_wp2
    go_ret2
    exact ⟨rfl, rfl⟩
  by_cases h4 : m < s
  · clear h
    go_enter Try.func11, Try.ntmps11
    go_wp2
    go_ret2
    exact ⟨rfl, rfl⟩
  by_cases h5 : n < 0
  · clear h
    go_enter Try.func11, Try.ntmps11
    go_wp2
    go_ret2
    exact ⟨rfl, rfl⟩
  have h6 : 256 < n := by omega
  clear h
  go_enter Try.func11, Try.ntmps11
  go_wp2
  go_ret2
  exact ⟨rfl, rfl⟩
set_option maxHeartbeats 1000000 in
theorem new_ok (m s n : Int) (w : World) (h : badNew m s n = false) :
    Calls Try.prog 11 #[.int .i64 m, .int .i64 s, .int .i64 n] w fun e w' => ∃ S g, (e = .returned (.tuple #[.pointer (some ⟨g, 0, none⟩), .int .i64 0]) ∧ (∀ k, S k → w.heap.size ≤ k)) ∧ QAt S w' g m s n [] (fun _ => []) ∧ Below w.heap.size w w' := by
  unfold badNew at h
  have h := of_decide_eq_false h
  have h1 : ¬ m < 1 := by omega
  have h2 : ¬ 1024 < m := by omega
  have h3 : ¬ s < 1 := by omega
  have h4 : ¬ m < s := by omega
  have h5 : ¬ n < 0 := by omega
  have h6 : ¬ 256 < n := by omega
  clear h
  have hmm := @run_makeMap Try.prog
  go_enter Try.func11, Try.ntmps11
  go_wp2
  go_ret2
  refine ⟨fun k => w.heap.size ≤ k ∧ k < w.heap.size + 3, w.heap.size + 1 + 1, ⟨rfl, fun k hk => hk.1⟩, ⟨w.heap.size, w.heap.size + 1, none, 0, [], [], [], ⟨Blk.new' _ _ _ (by simp), ((MapIs.new w).alloc _).alloc _, (MapIs.new' _ (by simp)).alloc _, ⟨⟨World.ownsRow_nil _ _ _ _, by simp [Value.ownBlock]⟩, by simp⟩, by simp, .nil, ⟨by omega, by omega, by omega⟩, by omega, fun k hk => by simp; omega, ⟨by simp [Once], by simp [Once]⟩, fun c => rfl, by omega, by omega, by simp; omega, by simp, by simp⟩, rfl, fun c => rfl⟩, ?_⟩
  exact (((Below.refl w.heap.size w).alloc (Nat.le_refl _) _).alloc (by simp) _).alloc (by simp; omega) _

section
variable {S : Nat → Prop} {w : World} {g : Nat} {mt sh wn : Int} {L : List Pl} {T : Int → List Int}
theorem len_any (h : QAt S w g mt sh wn L T) : Calls Try.prog 13 #[.pointer (some ⟨g, 0, none⟩)] w fun e w' => e = .returned (.int .i64 L.length) ∧ w' = w := by
  obtain ⟨mo, ms, A, c, rs, of, tk, q, rfl, hT⟩ := h
  obtain ⟨c0, c1, c2, c3, c4, c5⟩ := q.cells
  have hl : (plans rs).length = rs.length := by simp [plans]
  rw [hl]
  clear q hT
  go_enter Try.func13, Try.ntmps13
  go_wp2
  go_ret
  exact ⟨rfl, rfl⟩
theorem of_any (x : Int) (h : QAt S w g mt sh wn L T) : Calls Try.prog 18 #[.pointer (some ⟨g, 0, none⟩), .int .i64 x] w fun e w' => e = .returned (.int .i64 (cnt x L : Nat)) ∧ w' = w := by
  obtain ⟨mo, ms, A, c, rs, of, tk, q, rfl, hT⟩ := h
  obtain ⟨c0, c1, c2, c3, c4, c5⟩ := q.cells
  have hlk : (Instr.lookup 63 (.map (some mo)) (.int .i64 x) false).run Try.prog w = .ok (.int .i64 (cnt x (plans rs) : Nat)) w := q.ofLook x 0
  clear q hT
  go_enter Try.func18, Try.ntmps18
  go_wp2
  go_ret
  exact ⟨rfl, rfl⟩
theorem seen_any (x : Int) (h : QAt S w g mt sh wn L T) : Calls Try.prog 30 #[.pointer (some ⟨g, 0, none⟩), .int .i64 x] w fun e w' => ∃ A c, e = .returned (.slice A (T x).length c) ∧ w'.ownsRow w.heap.size 32 1 (.slice A (T x).length c) (T x).length ((T x).map (.int .u64)) ∧ Below w.heap.size w w' := by
  obtain ⟨mo, ms, A, c, rs, of, tk, q, rfl, hT⟩ := h
  obtain ⟨c0, c1, c2, c3, c4, c5⟩ := q.cells
  have hlk : (Instr.lookup 64 (.map (some ms)) (.int .i64 x) false).run Try.prog w = .ok (tokVal tk x) w := q.seenLook x 0
  obtain ⟨ht, hn, _⟩ := q.tokAt x
  have hw := q.wn1.2
  rw [hT x] at ht hn
  obtain ⟨A', c', hv, hc1, hc2⟩ := ht.form
  rw [hv] at ht hlk
  have hrd := ht.rd
  clear q hT ht hv
  go_enter Try.func30, Try.ntmps30
  go_wp2_with fail
  refine (cloneU_any _ _ _ _ _ _ hrd (nums_one _) (by omega)).mono ?_
  rintro e w1 ⟨v, rfl, hown, hb⟩
  obtain ⟨A2, c2, rfl, _, _⟩ := own_form hown
  go_wp2_with fail
  go_ret
  exact ⟨A2, c2, rfl, hown, hb⟩
end

end Go.Proofs.Ytppcjaljhahdnaa
