/- quorum: a nil Group. -/
import Derived.Test.YtbgopicpdpkccaaGLive
namespace Go.Proofs.Ytbgopicpdpkccaa
open Go.RowKit
set_option linter.unusedVariables false
set_option linter.unusedSimpArgs false

theorem node_nil (n : Int) (w : World) : Calls Try.prog 35 #[.pointer none, .int .i64 n] w fun e w' => e = .returned (.tuple #[.pointer none, .bool false]) ∧ w' = w := by
  go_enter Try.func35, Try.ntmps35
  go_wp2_with fail
  go_ret2
  exact ⟨rfl, rfl⟩
theorem deliver_nil (n : Int) (w : World) : Calls Try.prog 19 #[.pointer none, .int .i64 n] w fun e w' => e = .returned (.bool false) ∧ w' = w := by
  go_enter Try.func19, Try.ntmps19
  go_wp2_with fail
  go_ret
  exact ⟨rfl, rfl⟩
theorem drop_nil (n : Int) (w : World) : Calls Try.prog 17 #[.pointer none, .int .i64 n] w fun e w' => e = .returned (.bool false) ∧ w' = w := by
  go_enter Try.func17, Try.ntmps17
  go_wp2_with fail
  go_ret
  exact ⟨rfl, rfl⟩
theorem double_nil (n : Int) (w : World) : Calls Try.prog 31 #[.pointer none, .int .i64 n] w fun e w' => e = .returned (.bool false) ∧ w' = w := by
  go_enter Try.func31, Try.ntmps31
  go_wp2_with fail
  go_ret
  exact ⟨rfl, rfl⟩
theorem propose_nil (n s : Int) (t : ByteArray) (w : World) : Calls Try.prog 18 #[.pointer none, .int .i64 n, .int .i64 s, .string t] w fun e w' => e = .returned (.int .i64 0) ∧ w' = w := by
  go_enter Try.func18, Try.ntmps18
  go_wp2_with fail
  go_ret
  exact ⟨rfl, rfl⟩
theorem mail_nil  (w : World) : Calls Try.prog 34 #[.pointer none] w fun e w' => e = .returned (.slice none 0 0) ∧ w' = w := by
  go_enter Try.func34, Try.ntmps34
  go_wp2_with fail
  go_ret
  exact ⟨rfl, rfl⟩
theorem chosen_nil (s : Int) (w : World) : Calls Try.prog 23 #[.pointer none, .int .i64 s] w fun e w' => e = .returned (.tuple #[.string ⟨#[]⟩, .bool false]) ∧ w' = w := by
  go_enter Try.func23, Try.ntmps23
  go_wp2_with fail
  go_ret2
  exact ⟨rfl, rfl⟩
theorem crash_nil (n : Int) (w : World) : Calls Try.prog 32 #[.pointer none, .int .i64 n] w fun e w' => e = .returned (.bool false) ∧ w' = w := by
  go_enter Try.func32, Try.ntmps32
  go_wp2_with (go_at_call 35; refine (node_nil _ _).mono ?_; rintro e w2 ⟨rfl, rfl⟩)
  go_ret
  exact ⟨rfl, rfl⟩
theorem restart_nil (n : Int) (w : World) : Calls Try.prog 33 #[.pointer none, .int .i64 n] w fun e w' => e = .returned (.bool false) ∧ w' = w := by
  go_enter Try.func33, Try.ntmps33
  go_wp2_with (go_at_call 35; refine (node_nil _ _).mono ?_; rintro e w2 ⟨rfl, rfl⟩)
  go_ret
  exact ⟨rfl, rfl⟩
theorem up_nil (n : Int) (w : World) : Calls Try.prog 15 #[.pointer none, .int .i64 n] w fun e w' => e = .returned (.bool false) ∧ w' = w := by
  go_enter Try.func15, Try.ntmps15
  go_wp2_with (go_at_call 35; refine (node_nil _ _).mono ?_; rintro e w2 ⟨rfl, rfl⟩)
  go_ret
  exact ⟨rfl, rfl⟩
theorem catch_nil (n : Int) (w : World) : Calls Try.prog 26 #[.pointer none, .int .i64 n] w fun e w' => e = .returned (.bool false) ∧ Below w.heap.size w w' := by
  go_enter Try.func26, Try.ntmps26
  go_wp2_with (go_at_call 35; refine (node_nil _ _).mono ?_; rintro e w2 ⟨rfl, rfl⟩)
  go_quiet (fail)
  go_wp2_with fail
  go_ret
  exact ⟨rfl, below_drewN (Below.refl _ _) _⟩
set_option maxRecDepth 100000 in
theorem state_nil (n s : Int) (w : World) : Calls Try.prog 36 #[.pointer none, .int .i64 n, .int .i64 s] w fun e w' => e = .returned (.agg #[.int .i64 0, .int .i64 0, .int .i64 0, .int .i64 0, .int .i64 0, .string ⟨#[]⟩, .bool false, .string ⟨#[]⟩, .pointer none]) ∧ Below w.heap.size w w' := by
  go_enter Try.func36, Try.ntmps36
  go_wp2_with (go_at_call 35; refine (node_nil _ _).mono ?_; rintro e w2 ⟨rfl, rfl⟩)
  refine bodyPost_ret (v := (.agg #[.int .i64 0, .int .i64 0, .int .i64 0, .int .i64 0, .int .i64 0, .string ⟨#[]⟩, .bool false, .string ⟨#[]⟩, .pointer none])) (by simp [results, Try.results36, go_sem]) rfl ⟨rfl, ?_⟩
  exact (Below.refl _ _).alloc (Nat.le_refl _) _
set_option maxRecDepth 100000 in
theorem learned_of (o : Option Addr) (x : Sl) (n s : Int) (w : World) (hs0 : ∀ w1, Below w.heap.size w w1 → Calls Try.prog 36 #[.pointer o, .int .i64 n, .int .i64 s] w1 fun e w' => ∃ bp, e = .returned (.agg #[.int .i64 x.rd, .int .i64 x.prom.rd, .int .i64 x.prom.nd, .int .i64 x.accd.bal.rd, .int .i64 x.accd.bal.nd, .string x.accd.text, .bool x.is, .string x.text, .pointer bp]) ∧ Below w1.heap.size w1 w') : Calls Try.prog 20 #[.pointer o, .int .i64 n, .int .i64 s] w fun e w' => e = .returned (.tuple #[.string x.text, .bool x.is]) ∧ Below w.heap.size w w' := by
  have hs := hid hs0
  clear hs0
  go_enter Try.func20, Try.ntmps20
  go_wp2_with fail
  refine (hs.out _ (Below.refl _ _)).mono ?_
  rintro e w1 ⟨bp, rfl, hb10⟩
  have hb1 : Below w.heap.size w w1 := hb10
  go_upto_region 2 with fail
  have hY : Below w1.heap.size w1 (w1.alloc (.cells #[.int .i64 x.rd, .int .i64 x.prom.rd, .int .i64 x.prom.nd, .int .i64 x.accd.bal.rd, .int .i64 x.accd.bal.nd, .string x.accd.text, .bool x.is, .string x.text, .pointer bp] 74)) := (Below.refl _ _).alloc (Nat.le_refl _) _
  have kb := Blk.new w1 74 #[.int .i64 x.rd, .int .i64 x.prom.rd, .int .i64 x.prom.nd, .int .i64 x.accd.bal.rd, .int .i64 x.accd.bal.nd, .string x.accd.text, .bool x.is, .string x.text, .pointer bp]
  generalize w1.alloc (.cells #[.int .i64 x.rd, .int .i64 x.prom.rd, .int .i64 x.prom.nd, .int .i64 x.accd.bal.rd, .int .i64 x.accd.bal.nd, .string x.accd.text, .bool x.is, .string x.text, .pointer bp] 74) = w2 at *
  have s6 : w2.cell? ⟨w1.heap.size, 6, none⟩ = some (.bool x.is) := kb.cell 6
  have s7 : w2.cell? ⟨w1.heap.size, 7, none⟩ = some (.string x.text) := kb.cell 7
  have hB2 := hb1.trans (hY.mono hb1.size)
  clear hb1 hY kb hb10
  go_quiet (fail)
  go_wp2_with fail
  go_ret2
  exact ⟨rfl, below_drewN hB2 _⟩
set_option maxRecDepth 100000 in
theorem promised_of (o : Option Addr) (x : Sl) (n s : Int) (w : World) (hs0 : ∀ w1, Below w.heap.size w w1 → Calls Try.prog 36 #[.pointer o, .int .i64 n, .int .i64 s] w1 fun e w' => ∃ bp, e = .returned (.agg #[.int .i64 x.rd, .int .i64 x.prom.rd, .int .i64 x.prom.nd, .int .i64 x.accd.bal.rd, .int .i64 x.accd.bal.nd, .string x.accd.text, .bool x.is, .string x.text, .pointer bp]) ∧ Below w1.heap.size w1 w') : Calls Try.prog 16 #[.pointer o, .int .i64 n, .int .i64 s] w fun e w' => e = .returned (.agg #[.int .i64 x.prom.rd, .int .i64 x.prom.nd]) ∧ Below w.heap.size w w' := by
  have hfd : ∀ (bp : Option Addr) w', (Instr.field 74 (.agg #[.int .i64 x.rd, .int .i64 x.prom.rd, .int .i64 x.prom.nd, .int .i64 x.accd.bal.rd, .int .i64 x.accd.bal.nd, .string x.accd.text, .bool x.is, .string x.text, .pointer bp]) 1).run Try.prog w' = .ok (.agg #[.int .i64 x.prom.rd, .int .i64 x.prom.nd]) w' := fun _ _ => by kernel_rfl
  have hs := hid hs0
  clear hs0
  go_enter Try.func16, Try.ntmps16
  go_wp2_with fail
  refine (hs.out _ ((Below.refl _ _).alloc (Nat.le_refl _) _)).mono ?_
  rintro e w1 ⟨bp, rfl, hb10⟩
  have hb1 : Below w.heap.size w w1 := ((Below.refl _ _).alloc (Nat.le_refl _) _).trans (hb10.mono (by simp))
  have kb1 : Blk w1 w.heap.size 35 #[.int .i64 0, .int .i64 0] := (Blk.new _ _ _).below_all hb10
  have y0 : w1.cell? ⟨w.heap.size, 0, none⟩ = some (.int .i64 0) := kb1.cell 0
  have y1 : w1.cell? ⟨w.heap.size, 1, none⟩ = some (.int .i64 0) := kb1.cell 1
  have yf := fun j => kb1.frozen j
  have hzz := kb1.lt
  clear hb10
  go_wp2_with fail
  have k2 := (kb1.set_ 0 (.int .i64 x.prom.rd)).set_ 1 (.int .i64 x.prom.nd)
  have z0 := k2.cell 0
  have z1 := k2.cell 1
  simp at z0 z1
  refine bodyPost_ret (v := .agg #[.int .i64 x.prom.rd, .int .i64 x.prom.nd]) (by simp [results, Try.results16, go_sem, z0, z1]) rfl ⟨rfl, ?_⟩
  exact (hb1.setCell (p := ⟨w.heap.size, 0, none⟩) (Nat.le_refl _) _).setCell (p := ⟨w.heap.size, 1, none⟩) (Nat.le_refl _) _
set_option maxRecDepth 100000 in
theorem accepted_of (o : Option Addr) (x : Sl) (n s : Int) (w : World) (hs0 : ∀ w1, Below w.heap.size w w1 → Calls Try.prog 36 #[.pointer o, .int .i64 n, .int .i64 s] w1 fun e w' => ∃ bp, e = .returned (.agg #[.int .i64 x.rd, .int .i64 x.prom.rd, .int .i64 x.prom.nd, .int .i64 x.accd.bal.rd, .int .i64 x.accd.bal.nd, .string x.accd.text, .bool x.is, .string x.text, .pointer bp]) ∧ Below w1.heap.size w1 w') : Calls Try.prog 21 #[.pointer o, .int .i64 n, .int .i64 s] w fun e w' => e = .returned (.tuple #[.agg #[.int .i64 x.accd.bal.rd, .int .i64 x.accd.bal.nd], .string x.accd.text]) ∧ Below w.heap.size w w' := by
  have hs := hid hs0
  clear hs0
  go_enter Try.func21, Try.ntmps21
  go_wp2_with fail
  refine (hs.out _ ((Below.refl _ _).alloc (Nat.le_refl _) _)).mono ?_
  rintro e w1 ⟨bp, rfl, hb10⟩
  have hb1 : Below w.heap.size w w1 := ((Below.refl _ _).alloc (Nat.le_refl _) _).trans (hb10.mono (by simp))
  have kb1 : Blk w1 w.heap.size 35 #[.int .i64 0, .int .i64 0] := (Blk.new _ _ _).below_all hb10
  have y0 : w1.cell? ⟨w.heap.size, 0, none⟩ = some (.int .i64 0) := kb1.cell 0
  have y1 : w1.cell? ⟨w.heap.size, 1, none⟩ = some (.int .i64 0) := kb1.cell 1
  have yf := fun j => kb1.frozen j
  have hzz := kb1.lt
  go_upto_region 2 with fail
  have hY : Below w1.heap.size w1 (w1.alloc (.cells #[.int .i64 x.rd, .int .i64 x.prom.rd, .int .i64 x.prom.nd, .int .i64 x.accd.bal.rd, .int .i64 x.accd.bal.nd, .string x.accd.text, .bool x.is, .string x.text, .pointer bp] 74)) := (Below.refl _ _).alloc (Nat.le_refl _) _
  have kb := Blk.new w1 74 #[.int .i64 x.rd, .int .i64 x.prom.rd, .int .i64 x.prom.nd, .int .i64 x.accd.bal.rd, .int .i64 x.accd.bal.nd, .string x.accd.text, .bool x.is, .string x.text, .pointer bp]
  have kb3 := kb1.below_all hY
  generalize w1.alloc (.cells #[.int .i64 x.rd, .int .i64 x.prom.rd, .int .i64 x.prom.nd, .int .i64 x.accd.bal.rd, .int .i64 x.accd.bal.nd, .string x.accd.text, .bool x.is, .string x.text, .pointer bp] 74) = w2 at *
  clear y0 y1 yf kb1 hb10
  have y0 : w2.cell? ⟨w.heap.size, 0, none⟩ = some (.int .i64 0) := kb3.cell 0
  have y1 : w2.cell? ⟨w.heap.size, 1, none⟩ = some (.int .i64 0) := kb3.cell 1
  have yf := fun j => kb3.frozen j
  have s3 : w2.cell? ⟨w1.heap.size, 3, none⟩ = some (.int .i64 x.accd.bal.rd) := kb.cell 3
  have s4 : w2.cell? ⟨w1.heap.size, 4, none⟩ = some (.int .i64 x.accd.bal.nd) := kb.cell 4
  have s5 : w2.cell? ⟨w1.heap.size, 5, none⟩ = some (.string x.accd.text) := kb.cell 5
  have hB2 := hb1.trans (hY.mono hb1.size)
  have Kb3 := hid kb3; have HB2 := hid hB2
  clear hb1 hY kb kb3 hB2
  go_region
  all_goals
    go_wp2_with fail
    have k2 := (Kb3.out.set_ 0 (.int .i64 x.accd.bal.rd)).set_ 1 (.int .i64 x.accd.bal.nd)
    have z0 := k2.cell 0
    have z1 := k2.cell 1
    simp at z0 z1
    refine bodyPost_ret (v := .tuple #[.agg #[.int .i64 x.accd.bal.rd, .int .i64 x.accd.bal.nd], .string x.accd.text]) (by simp [results, Try.results21, go_sem, z0, z1]) rfl ⟨rfl, ?_⟩
    have hbe : Below w.heap.size w ((w2.setCell ⟨w.heap.size, 0, none⟩ (.int .i64 x.accd.bal.rd)).setCell ⟨w.heap.size, 1, none⟩ (.int .i64 x.accd.bal.nd)) := (HB2.out.setCell (p := ⟨w.heap.size, 0, none⟩) (Nat.le_refl _) _).setCell (p := ⟨w.heap.size, 1, none⟩) (Nat.le_refl _) _
    first | exact hbe | exact hbe.drew | exact below_drewN hbe _
theorem takeWhile_range {p : Nat → Bool} {k n : Nat} (hk : k ≤ n) (h : ∀ j, j < k → p j = true) (hs : k = n ∨ p k = false) : (List.range n).takeWhile p = List.range k := by
  have e : List.range n = List.range k ++ (List.range (n - k)).map (k + ·) := by
    rw [← List.range_add]; congr 1; omega
  rw [e, List.takeWhile_append_of_pos (fun j hj => h j (List.mem_range.1 hj))]
  rcases hs with rfl | hs
  · simp
  · cases hn : n - k with
    | zero => simp
    | succ m => rw [List.range_succ_eq_map]; simp [hs]
/-- what is learned, without a gap -/
def logOf (st : Int → Sl) : List ByteArray := ((List.range 256).takeWhile fun (k : Nat) => (st (k : Int)).is).map fun (k : Nat) => (st (k : Int)).text
theorem info_str : (Try.prog.info? 9).map (fun i => (i.zero, i.size, i.bytes)) = some (some (.string ⟨#[]⟩), 1, 16) := by kernel_rfl
set_option maxRecDepth 100000 in
set_option maxHeartbeats 2000000 in
theorem log_of (o : Option Addr) (st : Int → Sl) (n : Int) (w : World) (hs0 : ∀ s w1, Below w.heap.size w w1 → Calls Try.prog 36 #[.pointer o, .int .i64 n, .int .i64 s] w1 fun e w' => ∃ bp, e = .returned (.agg #[.int .i64 (st s).rd, .int .i64 (st s).prom.rd, .int .i64 (st s).prom.nd, .int .i64 (st s).accd.bal.rd, .int .i64 (st s).accd.bal.nd, .string (st s).accd.text, .bool (st s).is, .string (st s).text, .pointer bp]) ∧ Below w1.heap.size w1 w') : Calls Try.prog 25 #[.pointer o, .int .i64 n] w fun e w' => ∃ v, e = .returned v ∧ Cloned 9 1 ((logOf st).map Value.string) (logOf st).length w v w' := by
  have hs := hid hs0
  clear hs0
  obtain ⟨i0, hi0, hz0, hz1, hz2⟩ := info_parts info_str
  go_enter Try.func25, Try.ntmps25
  go_wp2_with fail
  go_loopw [5, 9] (fun l v wr => ∃ (k : Nat) (A : Option Addr) (c : Nat), v = .int .i64 k ∧ l = .slice A k c ∧ k ≤ 256 ∧ (∀ j : Nat, j < k → (st (j : Int)).is = true) ∧ wr.ownsRow w.heap.size 9 1 (.slice A k c) k ((List.range k).map fun (j : Nat) => .string (st (j : Int)).text) ∧ Below w.heap.size w wr) (fun _ v _ => 256 - (intOf v).toNat)
  case atStart => exact ⟨0, none, 0, rfl, rfl, by omega, fun j hj => by omega, World.ownsRow_nil _ _ _ _, Below.refl _ _⟩
  case round =>
    obtain ⟨k, A, c, rfl, rfl, hk, hall0, hrow0, hB0⟩ := hrel
    have hall := hid hall0; have hrow := hid hrow0; have hB := hid hB0
    clear hall0 hrow0 hB0
    by_cases hlt : k < 256
    · have i1 : (k : Int) < 256 := by omega
      go_wp2_with fail
      refine (learned_of o (st k) n k wr fun w1 hb1 => hs.out k w1 (hB.out.trans (hb1.mono hB.out.size))).mono ?_
      rintro e w1 ⟨rfl, hb10⟩
      have hb1 := hid hb10
      clear hb10
      cases his0 : (st k).is with
      | false =>
        have his := hid his0
        clear his0
        go_wp2_with fail
        go_ret
        have hlog : logOf st = (List.range k).map fun (j : Nat) => (st (j : Int)).text := by
          unfold logOf
          rw [takeWhile_range hk hall.out (.inr his.out)]
        refine ⟨_, rfl, ?_, hB.out.trans (hb1.out.mono hB.out.size)⟩
        rw [hlog]
        have := own_below hrow.out hb1.out
        simpa [Function.comp_def] using this
      | true =>
        have his := hid his0
        clear his0
        have hown1 := hid (own_below hrow.out hb1.out)
        go_wp2_with (
          at_builtin
          refine wpList_append_rd _ rfl (.tmp 21) (.tmp 23) 46 rfl w.heap.size 9 i0 _ 1 16 Try.underlying46 hi0 hz0 hz1 hz2 rfl (by omega) (.slice A k c) k ((List.range k).map fun (j : Nat) => .string (st (j : Int)).text) rfl (hown1.out.alloc _) (fun b => b = w1.heap.size) (some ⟨w1.heap.size, 0, none⟩) 1 1 [.string (st (k : Int)).text] rfl (Rd.new _ _ 1 1 #[.string (st (k : Int)).text] _ rfl rfl) (by simp [Value.oneCell']) (by simp only [maxLen]; omega) (by omega) (by have h1 := hB.out.size; have h2 := hb1.out.size; simp; omega) ?_
          intro v2 w3 hown2 hg2 hat2
          obtain ⟨A2, c2, rfl, hc2, _⟩ := own_form hown2)
        go_roundw
        case rel =>
          refine ⟨k + 1, A2, c2, by go_num, rfl, by omega, fun j hj => ?_, ?_, ?_⟩
          · rcases Nat.lt_succ_iff_lt_or_eq.1 hj with h | rfl
            · exact hall.out j h
            · exact his.out
          · rw [List.range_succ, List.map_append]
            exact hown2
          · have h0 : Below w.heap.size w (w1.alloc (.cells #[.string (st (k : Int)).text] 9)) := (hB.out.trans (hb1.out.mono hB.out.size)).alloc (by have h1 := hB.out.size; have h2 := hb1.out.size; omega) _
            refine h0.grown hg2 (by have h1 := hB.out.size; have h2 := hb1.out.size; simp; omega) fun q hq => ?_
            exact (hown1.out.lt q hq).1
        case measure => simp [intOf]; omega
    · obtain rfl : k = 256 := by omega
      go_wp2_with fail
      go_ret
      have hlog : logOf st = (List.range 256).map fun (j : Nat) => (st (j : Int)).text := by
        unfold logOf
        rw [takeWhile_range (Nat.le_refl _) hall.out (.inl rfl)]
      refine ⟨_, rfl, ?_, hB.out⟩
      rw [hlog]
      have := hrow.out
      simpa [Function.comp_def] using this

end Go.Proofs.Ytbgopicpdpkccaa
