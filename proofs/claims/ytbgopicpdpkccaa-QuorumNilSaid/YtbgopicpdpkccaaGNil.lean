/- quorum: QuorumNil: the walk. -/
import Derived.Test.YtbgopicpdpkccaaGNilF
namespace Go.Proofs.Ytbgopicpdpkccaa
open Go.RowKit
set_option linter.unusedVariables false
set_option linter.unusedSimpArgs false

set_option maxRecDepth 100000 in
theorem st_nil (n s : Int) (w : World) : Calls Try.prog 36 #[.pointer none, .int .i64 n, .int .i64 s] w fun e w' => ∃ bp, e = .returned (.agg #[.int .i64 sl0.rd, .int .i64 sl0.prom.rd, .int .i64 sl0.prom.nd, .int .i64 sl0.accd.bal.rd, .int .i64 sl0.accd.bal.nd, .string sl0.accd.text, .bool sl0.is, .string sl0.text, .pointer bp]) ∧ Below w.heap.size w w' :=
  (state_nil n s w).mono fun e w' h => ⟨none, h⟩
theorem learned_nil (n s : Int) (w : World) : Calls Try.prog 20 #[.pointer none, .int .i64 n, .int .i64 s] w fun e w' => e = .returned (.tuple #[.string ⟨#[]⟩, .bool false]) ∧ Below w.heap.size w w' := learned_of none sl0 n s w fun w1 _ => st_nil n s w1
theorem promised_nil (n s : Int) (w : World) : Calls Try.prog 16 #[.pointer none, .int .i64 n, .int .i64 s] w fun e w' => e = .returned (.agg #[.int .i64 0, .int .i64 0]) ∧ Below w.heap.size w w' := promised_of none sl0 n s w fun w1 _ => st_nil n s w1
theorem accepted_nil (n s : Int) (w : World) : Calls Try.prog 21 #[.pointer none, .int .i64 n, .int .i64 s] w fun e w' => e = .returned (.tuple #[.agg #[.int .i64 0, .int .i64 0], .string ⟨#[]⟩]) ∧ Below w.heap.size w w' := accepted_of none sl0 n s w fun w1 _ => st_nil n s w1
theorem log_nil (n : Int) (w : World) : Calls Try.prog 25 #[.pointer none, .int .i64 n] w fun e w' => ∃ A c, e = .returned (.slice A 0 c) ∧ Below w.heap.size w w' :=
  (log_of none (fun _ => sl0) n w fun s w1 _ => st_nil n s w1).mono fun e w' h => by
    obtain ⟨v, rfl, h1, h2⟩ := h
    have hl : (logOf fun _ => sl0).length = 0 := by decide +kernel
    rw [hl] at h1
    obtain ⟨A, c, rfl, _, _⟩ := own_form h1
    exact ⟨A, c, rfl, h2⟩
theorem eqBal0 (W' : World) : (binOp .eql 35 (.agg #[.int .i64 0, .int .i64 0]) (.agg #[.int .i64 0, .int .i64 0])).run Try.prog W' = .ok (.bool true) W' := by
  rw [run_eql_struct]
  rw [show (Op.equalIn 10000 35 (.agg #[.int .i64 0, .int .i64 0]) (.agg #[.int .i64 0, .int .i64 0])).run Try.prog W' = .ok (decide (bal0 = bal0)) W' from run_eqBal bal0 bal0 W']
  rfl
set_option maxRecDepth 100000 in
set_option maxHeartbeats 2000000 in
theorem nil_walk (n s : Int) (t : ByteArray) (w : World) : Calls Try.prog 9 #[.int .i64 n, .int .i64 s, .string t] w fun e w' => e = .returned (.bool true) ∧ Below w.heap.size w w' := by
  have hgd := guardBal
  have heq := eqBal0
  go_enter Try.func9, Try.ntmps9
  go_wp2_with fail
  refine (learned_nil n s _).mono ?_
  rintro e w1 ⟨rfl, hb1⟩
  have hB1 : Hid (Below w.heap.size w w1) := hid hb1
  clear hb1
  go_wp2_with (go_at_call 23; refine (chosen_nil s _).mono ?_; rintro e w' ⟨rfl, rfl⟩)
  refine (accepted_nil n s _).mono ?_
  rintro e w2 ⟨rfl, hb2⟩
  have hB2 : Hid (Below w.heap.size w w2) := hid (hB1.out.trans (hb2.mono hB1.out.size))
  clear hb2
  go_wp2_with (first
    | (go_at_call 10; refine (num_any _ _).mono ?_; rintro e w' ⟨rfl, rfl⟩)
    | (go_at_call 18; refine (propose_nil n s t _).mono ?_; rintro e w' ⟨rfl, rfl⟩)
    | (go_at_call 19; refine (deliver_nil n _).mono ?_; rintro e w' ⟨rfl, rfl⟩)
    | (go_at_call 17; refine (drop_nil n _).mono ?_; rintro e w' ⟨rfl, rfl⟩)
    | (go_at_call 31; refine (double_nil n _).mono ?_; rintro e w' ⟨rfl, rfl⟩)
    | (go_at_call 32; refine (crash_nil n _).mono ?_; rintro e w' ⟨rfl, rfl⟩)
    | (go_at_call 33; refine (restart_nil n _).mono ?_; rintro e w' ⟨rfl, rfl⟩)
    | (go_at_call 34; refine (mail_nil _).mono ?_; rintro e w' ⟨rfl, rfl⟩))
  refine (promised_nil n s _).mono ?_
  rintro e w3 ⟨rfl, hb3⟩
  have hB3 : Hid (Below w.heap.size w w3) := hid ((hB2.out.alloc hB2.out.size _).trans (hb3.mono (by have := hB2.out.size; simp; omega)))
  clear hb3
  go_wp2_with fail
  refine (log_nil n _).mono ?_
  rintro e w4 ⟨A, c, rfl, hb4⟩
  have hB4 : Hid (Below w.heap.size w w4) := hid (hB3.out.trans (hb4.mono hB3.out.size))
  clear hb4
  go_wp2_with (first
    | (go_at_call 15; refine (up_nil n _).mono ?_; rintro e w' ⟨rfl, rfl⟩)
    | (go_at_call 26; refine (catch_nil n _).mono ?_; rintro e w5 ⟨rfl, hb5⟩)
    | (go_at_call 11; refine (live_any _).mono ?_; rintro e w6 ⟨rfl, hb6⟩))
  go_ret
  have hB5 := hB4.out.trans (hb5.mono hB4.out.size)
  exact ⟨rfl, hB5.trans (hb6.mono hB5.size)⟩

end Go.Proofs.Ytbgopicpdpkccaa
