/- quorum: Catch. -/
import Derived.Test.YtbgopicpdpkccaaGGet
import Derived.Test.YtbgopicpdpkccaaGAct
namespace Go.Proofs.Ytbgopicpdpkccaa
open Go.RowKit
set_option linter.unusedVariables false
set_option linter.unusedSimpArgs false

/-- what missing answers -/
def missV : Option Nat → Value
  | none => .tuple #[.int .i64 0, .bool false]
  | some k => .tuple #[.int .i64 (k : Int), .bool true]
section
variable {S : Nat → Prop} {w : World} {g : Nat} {G : Gr} {An Am : Option Addr} {cn cm : Nat} {a : Ad}
theorem lacks_some {n : Int} {k : Nat} (hk : k < 256) (h : ∀ j : Nat, j < k → (G.st n (j : Int)).is = true) (hf : (G.st n (k : Int)).is = false) : G.lacks n = some k := by
  unfold Gr.lacks
  rw [List.find?_range_eq_some]
  refine ⟨by simp [hf], List.mem_range.2 hk, fun j hj => ?_⟩
  simp [h j hj]
theorem lacks_none {n : Int} (h : ∀ j : Nat, j < 256 → (G.st n (j : Int)).is = true) : G.lacks n = none := by
  unfold Gr.lacks
  rw [List.find?_range_eq_none]
  intro j hj
  simp [h j hj]
set_option maxRecDepth 100000 in
set_option maxHeartbeats 2000000 in
theorem missing_any (i : Nat) (h : GIn S w g An cn Am cm G a) (hi : i < G.nds.length) : Calls Try.prog 42 #[.pointer (some ⟨a.nb i, 0, none⟩)] w fun e w' => e = .returned (missV (G.lacks i)) ∧ w' = w := by
  obtain ⟨n1, n2, n3, n4, ho⟩ := h.nd i hi
  have x1 : w.cell? ⟨a.nb i, 1, none⟩ = some (.map (some (a.mb i))) := n1.cell 1
  have hst0 : ∀ s, G.st i s = G.at_ i s := fun s => by unfold Gr.st; rw [if_pos ⟨by omega, by omega⟩, Int.toNat_natCast]
  have hst := hid hst0
  have hh := hid h
  have hN4 := hid n4
  clear hst0 h n4 n1 n2 n3
  go_enter Try.func42, Try.ntmps42
  go_wp2_with fail
  go_loopw [6] (fun v wr => ∃ k : Nat, v = .int .i64 k ∧ k ≤ 256 ∧ wr = w ∧ ∀ j : Nat, j < k → (G.st i (j : Int)).is = true) (fun v _ => 256 - (intOf v).toNat)
  case atStart => exact ⟨0, rfl, by omega, rfl, fun j hj => by omega⟩
  case round =>
    obtain ⟨k, rfl, hk, rfl, hall0⟩ := hrel
    have hall := hid hall0
    clear hall0
    by_cases hlt : k < 256
    · have i1 : (k : Int) < 256 := by omega
      cases hg : getA (k : Int) (G.nd i).sl with
      | none =>
        have his : Hid ((G.st i (k : Int)).is = false) := hid (by rw [hst.out]; unfold Gr.at_; rw [hg]; rfl)
        have hlk : (Instr.lookup 65 (.map (some (a.mb i))) (.int .i64 (k : Int)) false).run Try.prog wr = .ok (.pointer none) wr := by
          have := hN4.out.lookup Try.underlying65 zero_sptr (k : Int)
          rw [getK_mapk (fun t _ => Value.pointer (some ⟨a.sb i t, 0, none⟩)), hg] at this
          exact this
        go_wp2_with fail
        go_ret2
        exact ⟨by rw [lacks_some hlt hall.out his.out]; rfl, by first | rfl | trivial⟩
      | some x =>
        have hlk : (Instr.lookup 65 (.map (some (a.mb i))) (.int .i64 (k : Int)) false).run Try.prog wr = .ok (.pointer (some ⟨a.sb i k, 0, none⟩)) wr := by
          have := hN4.out.lookup Try.underlying65 zero_sptr (k : Int)
          rw [getK_mapk (fun t _ => Value.pointer (some ⟨a.sb i t, 0, none⟩)), hg] at this
          exact this
        obtain ⟨kS, hSs, _⟩ := hh.out.sl i hi ((k : Int), x) (getA_mem hg)
        have hsis : Hid ((G.st i (k : Int)).is = x.is) := hid (by rw [hst.out]; unfold Gr.at_; rw [hg]; rfl)
        cases his : x.is with
        | false =>
          have s6 : wr.cell? ⟨a.sb i k, 6, none⟩ = some (.bool false) := by have := kS.cell 6; rw [← his]; exact this
          clear kS hSs hg
          have his := hid his
          go_wp2_with fail
          go_ret2
          exact ⟨by rw [lacks_some hlt hall.out (hsis.out.trans his.out)]; rfl, by first | rfl | trivial⟩
        | true =>
          have s6 : wr.cell? ⟨a.sb i k, 6, none⟩ = some (.bool true) := by have := kS.cell 6; rw [← his]; exact this
          clear kS hSs hg
          have hisk : Hid ((G.st i (k : Int)).is = true) := hid (hsis.out.trans his)
          clear his hsis
          go_wp2_with fail
          go_roundw
          case rel =>
            refine ⟨k + 1, by go_num, by omega, by first | rfl | trivial, fun j hj => ?_⟩
            rcases Nat.lt_succ_iff_lt_or_eq.1 hj with h | rfl
            · exact hall.out j h
            · exact hisk.out
          case measure => simp [intOf]; omega
    · obtain rfl : k = 256 := by omega
      go_wp2_with fail
      go_ret2
      exact ⟨by rw [lacks_none hall.out]; rfl, by first | rfl | trivial⟩
/-- what Catch answers -/
def Gr.catchB (G : Gr) (n : Int) : Bool := decide (0 ≤ n ∧ n < G.nds.length ∧ (G.nd n.toNat).up = true ∧ G.mail.length + G.nds.length ≤ 4097 ∧ (G.lacks n).isSome)
theorem catch_far (n : Int) (h : GAt S w g G) (hn : n < 0 ∨ (G.nds.length : Int) ≤ n) : Calls Try.prog 26 #[.pointer (some ⟨g, 0, none⟩), .int .i64 n] w fun e w' => e = .returned (.bool false) ∧ Below w.heap.size w w' := by
  obtain ⟨An, cn, Am, cm, a, q⟩ := h
  have hcn := hid (node_no n q hn)
  clear q
  go_enter Try.func26, Try.ntmps26
  go_wp2_with fail
  refine hcn.out.mono ?_
  rintro e w2 ⟨rfl, rfl⟩
  go_upto_region 2 with fail
  go_quiet (fail)
  go_wp2_with fail
  go_ret
  exact ⟨rfl, below_drewN (Below.refl _ _) _⟩
set_option maxRecDepth 100000 in
theorem catch_down (i : Nat) (h : GAt S w g G) (hi : i < G.nds.length) (hu : (G.nd i).up = false) : Calls Try.prog 26 #[.pointer (some ⟨g, 0, none⟩), .int .i64 i] w fun e w' => e = .returned (.bool false) ∧ Below w.heap.size w w' := by
  obtain ⟨An, cn, Am, cm, a, q⟩ := h
  have hcn := hid (node_yes i q hi)
  obtain ⟨n1, n2, n3, n4, _⟩ := q.nd i hi
  have xu : w.cell? ⟨a.nb i, 0, none⟩ = some (.bool false) := by have := n1.cell 0; rwa [hu] at this
  clear q n1 n4 hu
  go_enter Try.func26, Try.ntmps26
  go_wp2_with fail
  refine hcn.out.mono ?_
  rintro e w2 ⟨rfl, rfl⟩
  go_upto_region 2 with fail
  go_quiet (fail)
  go_wp2_with fail
  go_ret
  exact ⟨rfl, below_drewN (Below.refl _ _) _⟩
set_option maxRecDepth 100000 in
set_option maxHeartbeats 2000000 in
theorem catch_full (i : Nat) (h : GAt S w g G) (hi : i < G.nds.length) (hu : (G.nd i).up = true) (hl : G.mail.length ≤ 1000000 ∧ G.nds.length ≤ 1000) (hf : 4097 < G.mail.length + G.nds.length) : Calls Try.prog 26 #[.pointer (some ⟨g, 0, none⟩), .int .i64 i] w fun e w' => e = .returned (.bool false) ∧ Below w.heap.size w w' := by
  obtain ⟨An, cn, Am, cm, a, q⟩ := h
  have hcn := hid (node_yes i q hi)
  obtain ⟨n1, n2, n3, n4, _⟩ := q.nd i hi
  have xu : w.cell? ⟨a.nb i, 0, none⟩ = some (.bool true) := by have := n1.cell 0; rwa [hu] at this
  obtain ⟨c0, c1⟩ := q.cells
  have hr1 : (G.mail.length : Int) + G.nds.length < 9223372036854775808 := by omega
  have t1 : decide (4096 < (G.mail.length : Int) + G.nds.length - 1) = true := decide_eq_true (by omega)
  clear q n1 n4 hu hf
  go_enter Try.func26, Try.ntmps26
  go_wp2_with fail
  refine hcn.out.mono ?_
  rintro e w2 ⟨rfl, rfl⟩
  go_upto_region 2 with fail
  go_quiet (fail)
  go_wp2_with fail
  go_ret
  exact ⟨rfl, below_drewN (Below.refl _ _) _⟩
set_option maxRecDepth 100000 in
set_option maxHeartbeats 2000000 in
theorem catch_none (i : Nat) (h : GAt S w g G) (hi : i < G.nds.length) (hu : (G.nd i).up = true) (hl : G.mail.length ≤ 1000000 ∧ G.nds.length ≤ 1000) (hf : G.mail.length + G.nds.length ≤ 4097) (hk : G.lacks i = none) : Calls Try.prog 26 #[.pointer (some ⟨g, 0, none⟩), .int .i64 i] w fun e w' => e = .returned (.bool false) ∧ Below w.heap.size w w' := by
  obtain ⟨An, cn, Am, cm, a, q⟩ := h
  have hcn := hid (node_yes i q hi)
  have hq := hid q
  obtain ⟨n1, n2, n3, n4, _⟩ := q.nd i hi
  have xu : w.cell? ⟨a.nb i, 0, none⟩ = some (.bool true) := by have := n1.cell 0; rwa [hu] at this
  obtain ⟨c0, c1⟩ := q.cells
  have hr1 : (G.mail.length : Int) + G.nds.length < 9223372036854775808 := by omega
  have t1 : decide (4096 < (G.mail.length : Int) + G.nds.length - 1) = false := decide_eq_false (by omega)
  have hK := hid hk
  clear q n1 n4 hu hf hk
  go_enter Try.func26, Try.ntmps26
  go_wp2_with fail
  refine hcn.out.mono ?_
  rintro e w2 ⟨rfl, rfl⟩
  go_upto_region 2 with fail
  go_quiet (fail)
  have hB0 : Below w2.heap.size w2 (w2.drewN nq) := below_drewN (Below.refl _ _) _
  generalize w2.drewN nq = w3 at *
  have q3 := hq.out.below hB0
  have hB := hid hB0
  have hms := hid (missing_any i q3 hi)
  clear q3 hB0 c0 c1 xu
  go_wp2_with fail
  refine hms.out.mono ?_
  rintro e w4 ⟨rfl, rfl⟩
  rw [hK.out]
  unfold missV
  go_wp2_with fail
  go_ret
  exact ⟨rfl, hB.out⟩
set_option maxRecDepth 100000 in
set_option maxHeartbeats 2000000 in
theorem catch_yes (i k0 : Nat) (h : GAt S w g G) (hi : i < G.nds.length) (hu : (G.nd i).up = true) (hl : G.mail.length ≤ 1000000 ∧ G.nds.length ≤ 1000) (hf : G.mail.length + G.nds.length ≤ 4097) (hk : G.lacks i = some k0) : Calls Try.prog 26 #[.pointer (some ⟨g, 0, none⟩), .int .i64 i] w fun e w' => e = .returned (.bool true) ∧ GGo S w g (G.askTo i k0 G.nds.length) w' := by
  obtain ⟨An, cn, Am, cm, a, q⟩ := h
  have hcn := hid (node_yes i q hi)
  have hq := hid q
  obtain ⟨n1, n2, n3, n4, _⟩ := q.nd i hi
  have xu : w.cell? ⟨a.nb i, 0, none⟩ = some (.bool true) := by have := n1.cell 0; rwa [hu] at this
  obtain ⟨c0, c1⟩ := q.cells
  have hr1 : (G.mail.length : Int) + G.nds.length < 9223372036854775808 := by omega
  have t1 : decide (4096 < (G.mail.length : Int) + G.nds.length - 1) = false := decide_eq_false (by omega)
  have hK := hid hk
  clear q n1 n4 hu hf hk
  go_enter Try.func26, Try.ntmps26
  go_wp2_with fail
  refine hcn.out.mono ?_
  rintro e w2 ⟨rfl, rfl⟩
  go_upto_region 2 with fail
  go_quiet (fail)
  have hB0 : Below w2.heap.size w2 (w2.drewN nq) := below_drewN (Below.refl _ _) _
  generalize w2.drewN nq = w3 at *
  have q3 := hq.out.below hB0
  have hB := hid hB0
  have hms := hid (missing_any i q3 hi)
  have d0 : w3.cell? ⟨g, 0, none⟩ = some (.slice An G.nds.length cn) := q3.cells.1
  have h3 := hid q3
  clear q3 hB0 c0 c1 xu
  go_wp2_with fail
  refine hms.out.mono ?_
  rintro e w4 ⟨rfl, rfl⟩
  rw [hK.out]
  unfold missV
  go_wp2_with fail
  go_loopw [52] (fun v wr => ∃ (k : Nat) (S' : Nat → Prop), v = .int .i64 k ∧ k ≤ G.nds.length ∧ GAt S' wr g (G.askTo i k0 k) ∧ (∀ k, S' k → S k ∨ w2.heap.size ≤ k) ∧ Upd S w2 wr) (fun v _ => G.nds.length - (intOf v).toNat)
  case atStart => exact ⟨0, S, rfl, Nat.zero_le _, ⟨_, _, _, _, _, h3.out⟩, fun _ h => .inl h, .of_below' hB.out _⟩
  case round =>
    obtain ⟨k, S', rfl, hk, q, hS0, hu0⟩ := hrel
    have hS := hid hS0
    have hu := hid hu0
    clear hS0 hu0 d0
    by_cases hlt : k < G.nds.length
    · have i1 : (k : Int) < (G.nds.length : Int) := by omega
      by_cases hne : (k : Int) = (i : Int)
      · have t2 : decide ((k : Int) = (i : Int)) = true := decide_eq_true hne
        have hat : G.askTo i k0 (k + 1) = G.askTo i k0 k := by rw [Gr.askTo, if_pos hne]
        have q' := hid q
        clear q
        go_wp2_with fail
        go_roundw
        case rel => exact ⟨k + 1, S', by go_num, hlt, by rw [hat]; exact q'.out, hS.out, hu.out⟩
        case measure => simp [intOf]; omega
      · have t2 : decide ((k : Int) = (i : Int)) = false := decide_eq_false hne
        have hat : Hid (G.askTo i k0 (k + 1) = (G.askTo i k0 k).send ⟨6, i, (k : Int), k0, bal0, bal0, ⟨#[]⟩⟩) := hid (by rw [Gr.askTo, if_neg hne])
        have hsd := hid (send_any ⟨6, i, (k : Int), k0, bal0, bal0, ⟨#[]⟩⟩ q)
        have hl2 := hl.2
        clear q t2 hl hr1 hk
        go_wp2_with fail
        refine hsd.out.mono ?_
        rintro e w5 ⟨rfl, S3, h3, hS3, hu3⟩
        have hq5 : Hid (GAt S3 w5 g (G.askTo i k0 (k + 1)) ∧ (∀ k, S3 k → S k ∨ w2.heap.size ≤ k) ∧ Upd S w2 w5) := hid (by
          refine ⟨by rw [hat.out]; exact h3, fun j hj => ?_, hu.out.trans hu3 fun j hj h => ?_⟩
          · rcases hS3 j hj with h | h
            · exact hS.out j h
            · have := hu.out.size; exact .inr (by omega)
          · rcases hS.out j h with h | h
            · exact h
            · omega)
        clear h3 hS3 hu3
        go_wp2_with fail
        go_roundw
        case rel => exact ⟨k + 1, S3, by go_num, hlt, hq5.out.1, hq5.out.2.1, hq5.out.2.2⟩
        case measure => simp [intOf]; omega
    · obtain rfl : k = G.nds.length := by omega
      have q' := hid q
      clear q
      go_wp2_with fail
      go_ret
      exact ⟨rfl, S', q'.out, hS.out, hu.out⟩
theorem catch_any (n : Int) (h : GAt S w g G) (hl : G.mail.length ≤ 1000000 ∧ G.nds.length ≤ 1000) : Calls Try.prog 26 #[.pointer (some ⟨g, 0, none⟩), .int .i64 n] w fun e w' => e = .returned (.bool (G.catchB n)) ∧ GGo S w g (G.catch n) w' := by
  unfold Gr.catchB Gr.catch
  by_cases h1 : 0 ≤ n ∧ n < G.nds.length
  · obtain ⟨i, rfl⟩ := Int.eq_ofNat_of_zero_le h1.1
    have hi : i < G.nds.length := by omega
    rw [Int.toNat_natCast]
    cases hu : (G.nd i).up with
    | false =>
      rw [if_neg (fun hc => by have := hc.2.2.1; cases this), decide_eq_false (fun hc => by have := hc.2.2.1; cases this)]
      exact (catch_down i h hi hu).mono fun e w' ⟨he, hb⟩ => ⟨he, GGo.of_below h hb⟩
    | true =>
      by_cases hf : G.mail.length + G.nds.length ≤ 4097
      · rw [if_pos ⟨h1.1, h1.2, rfl, hf⟩]
        cases hk : G.lacks (i : Int) with
        | none =>
          rw [decide_eq_false (fun hc => by have := hc.2.2.2.2; cases this)]
          exact (catch_none i h hi hu hl hf hk).mono fun e w' ⟨he, hb⟩ => ⟨he, GGo.of_below h hb⟩
        | some k =>
          rw [decide_eq_true ⟨h1.1, h1.2, rfl, hf, rfl⟩]
          exact catch_yes i k h hi hu hl hf hk
      · rw [if_neg (fun hc => hf hc.2.2.2), decide_eq_false (fun hc => hf hc.2.2.2.1)]
        exact (catch_full i h hi hu hl (by omega)).mono fun e w' ⟨he, hb⟩ => ⟨he, GGo.of_below h hb⟩
  · rw [if_neg (fun hc => h1 ⟨hc.1, hc.2.1⟩), decide_eq_false (fun hc => h1 ⟨hc.1, hc.2.1⟩)]
    exact (catch_far n h (by omega)).mono fun e w' ⟨he, hb⟩ => ⟨he, GGo.of_below h hb⟩
end

end Go.Proofs.Ytbgopicpdpkccaa
