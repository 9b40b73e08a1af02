/- Texts of the proof, joined: VNone, VNum, VText, VRNum, VRNum0, VRNum1. -/
import Derived.Test.YtdmogoaaecdbaaaGreatDoorJ08
import Derived.Test.YtdmogoaaecdbaaaGreatDoorJ04
namespace Go.Proofs.YtdmogoaaecdbaaaGreatDoor
open Go.RowKit
set_option linter.unusedVariables false
set_option linter.unusedSimpArgs false

theorem want_step {s : ByteArray} {k : Nat} (hk : k < s.size) {d : UInt8} {q : List UInt8} (i : Nat) : wantL (s.data.toList.drop k) (d :: q) i = if s.data[k]'hk = d then wantL (s.data.toList.drop (k + 1)) q (i + 1) else .bad 21 i := by
  have hk' : k < s.data.toList.length := by rw [Array.length_toList]; exact hk
  rw [List.drop_eq_getElem_cons hk', Array.getElem_toList]
  rfl
theorem drop_end {s : ByteArray} {k : Nat} (hk : s.size ≤ k) : s.data.toList.drop k = [] := List.drop_eq_nil_of_le (by rw [Array.length_toList]; exact hk)
theorem drop_some {s : ByteArray} {k : Nat} (hk : k < s.size) : s.data.toList.drop k = s.data[k]'hk :: s.data.toList.drop (k + 1) := by
  have hk' : k < s.data.toList.length := by rw [Array.length_toList]; exact hk
  rw [List.drop_eq_getElem_cons hk', Array.getElem_toList]

set_option maxRecDepth 100000 in
set_option maxHeartbeats 1000000 in
theorem parseNone_any (s : ByteArray) (w : World) (hs : s.size ≤ 140737488351232) : Calls Tryz.prog 209 #[.string s] w (PzOut (wantL s.data.toList noneT 0) w) := by
  have hz := hid (VZ.start w)
  have hs9 : (s.size : Int) ≤ 9223372036854775807 := by omega
  clear hs
  go_enter Tryz.func209, Tryz.ntmps209
  go_upto_region 1 with fail
  generalize w.alloc (.cells #[.int .i64 0, .int .i64 0, .string ⟨#[]⟩] 55) = W at *
  obtain ⟨fz, hlt, z0, z1, z2⟩ := hz.out.facts
  go_wp2_with fail
  go_loopw [5, 6] (fun _ v wr => ∃ k : Nat, v = .int .i64 k ∧ k ≤ 4 ∧ k ≤ s.size ∧ VZ w wr vl0 ∧ wantL (s.data.toList.drop k) (noneT.drop k) k = wantL s.data.toList noneT 0) (fun _ v _ => 4 - (intOf v).toNat)
  case atStart => exact ⟨0, rfl, by omega, by omega, hz.out, rfl⟩
  case round =>
    clear hz fz hlt z0 z1 z2
    obtain ⟨k, rfl, hk, hks, hz0, hw0⟩ := hrel
    have hw := hid hw0
    have hz := hid hz0
    clear hw0 hz0
    obtain ⟨fz, hlt, z0, z1, z2⟩ := hz.out.facts
    obtain rfl | rfl | rfl | rfl | rfl : k = 0 ∨ k = 1 ∨ k = 2 ∨ k = 3 ∨ k = 4 := by omega
    · clear hk
      by_cases hend : s.size = 0
      · have t1 : (((0 : Nat) : Int) == (s.size : Int)) = true := by rw [hend]; rfl
        have t2 : (s.size : Int) = 0 := by omega
        have hfin : Hid (wantL s.data.toList noneT 0 = .bad 3 0) := hid (by rw [← hw.out, drop_end (by omega)]; rfl)
        clear hend
        go_wp2_with fail
        have hT := hz.out.set ⟨0, 0, ⟨#[]⟩⟩
        dsimp only at hT
        obtain ⟨-, -, z0, z1, z2⟩ := hT.facts
        dsimp only at z0 z1 z2
        refine bodyPost_ret (v := .tuple #[.agg #[.int .i64 (⟨0, 0, ⟨#[]⟩⟩ : Vl).k, .int .i64 (⟨0, 0, ⟨#[]⟩⟩ : Vl).n, .string (⟨0, 0, ⟨#[]⟩⟩ : Vl).s], .int .i64 3, .int .i64 0]) (by simp [results, Tryz.results209, go_sem, z0, z1, z2]) rfl ⟨?_, hT.bel⟩
        rw [hfin.out]; rfl
      · have hlt2 : 0 < s.size := by omega
        have t2 : ¬ ((s.size : Int) = 0) := by omega
        have t4 : ¬ ((0 : Int) = s.size) := by omega
        have t3 : ((0 : Int)) < (s.size : Int) := by omega
        have hst := want_step hlt2 (d := 110) (q := noneT.drop 1) 0
        clear hend
        by_cases hc : s.data[0]'hlt2 = 110
        · have t5 : (s[0]'hlt2).toNat = 110 := by show (s.data[0]'hlt2).toNat = 110; rw [hc]; rfl
          have t6 : (((s[0]'hlt2).toNat : Int) != (((⟨#[110, 111, 110, 101]⟩ : ByteArray)[0]'(by decide)).toNat : Int)) = false := by rw [t5]; rfl
          have hw2 : Hid (wantL (s.data.toList.drop 1) (noneT.drop 1) 1 = wantL s.data.toList noneT 0) := hid (by rw [if_pos hc] at hst; rw [← hst]; exact hw.out)
          clear hst hc hw
          go_upto_region 6 with fail
          go_quiet (fail)
          go_wp2_with fail
          exact ⟨⟨1, rfl, by omega, by omega, hz.out.drewN _, hw2.out⟩, by simp [intOf]⟩
        · have t5 : ¬ ((s[0]'hlt2).toNat = 110) := fun e => hc (UInt8.toNat_inj.1 e)
          have t6 : (((s[0]'hlt2).toNat : Int) != (((⟨#[110, 111, 110, 101]⟩ : ByteArray)[0]'(by decide)).toNat : Int)) = true := by
            have e : (((⟨#[110, 111, 110, 101]⟩ : ByteArray)[0]'(by decide)).toNat : Int) = 110 := rfl
            rw [e]; simp; omega
          have hfin : Hid (wantL s.data.toList noneT 0 = .bad 21 0) := hid (by rw [if_neg hc] at hst; rw [← hst]; exact hw.out.symm)
          clear hst hc hw
          go_upto_region 6 with fail
          go_quiet (fail)
          have hz := hid (hz.out.drewN nq)
          clear fz hlt z0 z1 z2
          obtain ⟨fz, hlt, z0, z1, z2⟩ := hz.out.facts
          go_wp2_with fail
          have hT := hz.out.set ⟨0, 0, ⟨#[]⟩⟩
          dsimp only at hT
          obtain ⟨-, -, z0, z1, z2⟩ := hT.facts
          dsimp only at z0 z1 z2
          refine bodyPost_ret (v := .tuple #[.agg #[.int .i64 (⟨0, 0, ⟨#[]⟩⟩ : Vl).k, .int .i64 (⟨0, 0, ⟨#[]⟩⟩ : Vl).n, .string (⟨0, 0, ⟨#[]⟩⟩ : Vl).s], .int .i64 21, .int .i64 0]) (by simp [results, Tryz.results209, go_sem, z0, z1, z2]) rfl ⟨?_, hT.bel⟩
          rw [hfin.out]; rfl
    · clear hk
      by_cases hend : s.size = 1
      · have t1 : (((1 : Nat) : Int) == (s.size : Int)) = true := by rw [hend]; rfl
        have t2 : (s.size : Int) = 1 := by omega
        have hfin : Hid (wantL s.data.toList noneT 0 = .bad 3 1) := hid (by rw [← hw.out, drop_end (by omega)]; rfl)
        clear hend
        go_wp2_with fail
        have hT := hz.out.set ⟨0, 0, ⟨#[]⟩⟩
        dsimp only at hT
        obtain ⟨-, -, z0, z1, z2⟩ := hT.facts
        dsimp only at z0 z1 z2
        refine bodyPost_ret (v := .tuple #[.agg #[.int .i64 (⟨0, 0, ⟨#[]⟩⟩ : Vl).k, .int .i64 (⟨0, 0, ⟨#[]⟩⟩ : Vl).n, .string (⟨0, 0, ⟨#[]⟩⟩ : Vl).s], .int .i64 3, .int .i64 1]) (by simp [results, Tryz.results209, go_sem, z0, z1, z2]) rfl ⟨?_, hT.bel⟩
        rw [hfin.out]; rfl
      · have hlt2 : 1 < s.size := by omega
        have t2 : ¬ ((s.size : Int) = 1) := by omega
        have t4 : ¬ ((1 : Int) = s.size) := by omega
        have t3 : ((1 : Int)) < (s.size : Int) := by omega
        have hst := want_step hlt2 (d := 111) (q := noneT.drop 2) 1
        clear hend
        by_cases hc : s.data[1]'hlt2 = 111
        · have t5 : (s[1]'hlt2).toNat = 111 := by show (s.data[1]'hlt2).toNat = 111; rw [hc]; rfl
          have t6 : (((s[1]'hlt2).toNat : Int) != (((⟨#[110, 111, 110, 101]⟩ : ByteArray)[1]'(by decide)).toNat : Int)) = false := by rw [t5]; rfl
          have hw2 : Hid (wantL (s.data.toList.drop 2) (noneT.drop 2) 2 = wantL s.data.toList noneT 0) := hid (by rw [if_pos hc] at hst; rw [← hst]; exact hw.out)
          clear hst hc hw
          go_upto_region 6 with fail
          go_quiet (fail)
          go_wp2_with fail
          exact ⟨⟨2, rfl, by omega, by omega, hz.out.drewN _, hw2.out⟩, by simp [intOf]⟩
        · have t5 : ¬ ((s[1]'hlt2).toNat = 111) := fun e => hc (UInt8.toNat_inj.1 e)
          have t6 : (((s[1]'hlt2).toNat : Int) != (((⟨#[110, 111, 110, 101]⟩ : ByteArray)[1]'(by decide)).toNat : Int)) = true := by
            have e : (((⟨#[110, 111, 110, 101]⟩ : ByteArray)[1]'(by decide)).toNat : Int) = 111 := rfl
            rw [e]; simp; omega
          have hfin : Hid (wantL s.data.toList noneT 0 = .bad 21 1) := hid (by rw [if_neg hc] at hst; rw [← hst]; exact hw.out.symm)
          clear hst hc hw
          go_upto_region 6 with fail
          go_quiet (fail)
          have hz := hid (hz.out.drewN nq)
          clear fz hlt z0 z1 z2
          obtain ⟨fz, hlt, z0, z1, z2⟩ := hz.out.facts
          go_wp2_with fail
          have hT := hz.out.set ⟨0, 0, ⟨#[]⟩⟩
          dsimp only at hT
          obtain ⟨-, -, z0, z1, z2⟩ := hT.facts
          dsimp only at z0 z1 z2
          refine bodyPost_ret (v := .tuple #[.agg #[.int .i64 (⟨0, 0, ⟨#[]⟩⟩ : Vl).k, .int .i64 (⟨0, 0, ⟨#[]⟩⟩ : Vl).n, .string (⟨0, 0, ⟨#[]⟩⟩ : Vl).s], .int .i64 21, .int .i64 1]) (by simp [results, Tryz.results209, go_sem, z0, z1, z2]) rfl ⟨?_, hT.bel⟩
          rw [hfin.out]; rfl
    · clear hk
      by_cases hend : s.size = 2
      · have t1 : (((2 : Nat) : Int) == (s.size : Int)) = true := by rw [hend]; rfl
        have t2 : (s.size : Int) = 2 := by omega
        have hfin : Hid (wantL s.data.toList noneT 0 = .bad 3 2) := hid (by rw [← hw.out, drop_end (by omega)]; rfl)
        clear hend
        go_wp2_with fail
        have hT := hz.out.set ⟨0, 0, ⟨#[]⟩⟩
        dsimp only at hT
        obtain ⟨-, -, z0, z1, z2⟩ := hT.facts
        dsimp only at z0 z1 z2
        refine bodyPost_ret (v := .tuple #[.agg #[.int .i64 (⟨0, 0, ⟨#[]⟩⟩ : Vl).k, .int .i64 (⟨0, 0, ⟨#[]⟩⟩ : Vl).n, .string (⟨0, 0, ⟨#[]⟩⟩ : Vl).s], .int .i64 3, .int .i64 2]) (by simp [results, Tryz.results209, go_sem, z0, z1, z2]) rfl ⟨?_, hT.bel⟩
        rw [hfin.out]; rfl
      · have hlt2 : 2 < s.size := by omega
        have t2 : ¬ ((s.size : Int) = 2) := by omega
        have t4 : ¬ ((2 : Int) = s.size) := by omega
        have t3 : ((2 : Int)) < (s.size : Int) := by omega
        have hst := want_step hlt2 (d := 110) (q := noneT.drop 3) 2
        clear hend
        by_cases hc : s.data[2]'hlt2 = 110
        · have t5 : (s[2]'hlt2).toNat = 110 := by show (s.data[2]'hlt2).toNat = 110; rw [hc]; rfl
          have t6 : (((s[2]'hlt2).toNat : Int) != (((⟨#[110, 111, 110, 101]⟩ : ByteArray)[2]'(by decide)).toNat : Int)) = false := by rw [t5]; rfl
          have hw2 : Hid (wantL (s.data.toList.drop 3) (noneT.drop 3) 3 = wantL s.data.toList noneT 0) := hid (by rw [if_pos hc] at hst; rw [← hst]; exact hw.out)
          clear hst hc hw
          go_upto_region 6 with fail
          go_quiet (fail)
          go_wp2_with fail
          exact ⟨⟨3, rfl, by omega, by omega, hz.out.drewN _, hw2.out⟩, by simp [intOf]⟩
        · have t5 : ¬ ((s[2]'hlt2).toNat = 110) := fun e => hc (UInt8.toNat_inj.1 e)
          have t6 : (((s[2]'hlt2).toNat : Int) != (((⟨#[110, 111, 110, 101]⟩ : ByteArray)[2]'(by decide)).toNat : Int)) = true := by
            have e : (((⟨#[110, 111, 110, 101]⟩ : ByteArray)[2]'(by decide)).toNat : Int) = 110 := rfl
            rw [e]; simp; omega
          have hfin : Hid (wantL s.data.toList noneT 0 = .bad 21 2) := hid (by rw [if_neg hc] at hst; rw [← hst]; exact hw.out.symm)
          clear hst hc hw
          go_upto_region 6 with fail
          go_quiet (fail)
          have hz := hid (hz.out.drewN nq)
          clear fz hlt z0 z1 z2
          obtain ⟨fz, hlt, z0, z1, z2⟩ := hz.out.facts
          go_wp2_with fail
          have hT := hz.out.set ⟨0, 0, ⟨#[]⟩⟩
          dsimp only at hT
          obtain ⟨-, -, z0, z1, z2⟩ := hT.facts
          dsimp only at z0 z1 z2
          refine bodyPost_ret (v := .tuple #[.agg #[.int .i64 (⟨0, 0, ⟨#[]⟩⟩ : Vl).k, .int .i64 (⟨0, 0, ⟨#[]⟩⟩ : Vl).n, .string (⟨0, 0, ⟨#[]⟩⟩ : Vl).s], .int .i64 21, .int .i64 2]) (by simp [results, Tryz.results209, go_sem, z0, z1, z2]) rfl ⟨?_, hT.bel⟩
          rw [hfin.out]; rfl
    · clear hk
      by_cases hend : s.size = 3
      · have t1 : (((3 : Nat) : Int) == (s.size : Int)) = true := by rw [hend]; rfl
        have t2 : (s.size : Int) = 3 := by omega
        have hfin : Hid (wantL s.data.toList noneT 0 = .bad 3 3) := hid (by rw [← hw.out, drop_end (by omega)]; rfl)
        clear hend
        go_wp2_with fail
        have hT := hz.out.set ⟨0, 0, ⟨#[]⟩⟩
        dsimp only at hT
        obtain ⟨-, -, z0, z1, z2⟩ := hT.facts
        dsimp only at z0 z1 z2
        refine bodyPost_ret (v := .tuple #[.agg #[.int .i64 (⟨0, 0, ⟨#[]⟩⟩ : Vl).k, .int .i64 (⟨0, 0, ⟨#[]⟩⟩ : Vl).n, .string (⟨0, 0, ⟨#[]⟩⟩ : Vl).s], .int .i64 3, .int .i64 3]) (by simp [results, Tryz.results209, go_sem, z0, z1, z2]) rfl ⟨?_, hT.bel⟩
        rw [hfin.out]; rfl
      · have hlt2 : 3 < s.size := by omega
        have t2 : ¬ ((s.size : Int) = 3) := by omega
        have t4 : ¬ ((3 : Int) = s.size) := by omega
        have t3 : ((3 : Int)) < (s.size : Int) := by omega
        have hst := want_step hlt2 (d := 101) (q := noneT.drop 4) 3
        clear hend
        by_cases hc : s.data[3]'hlt2 = 101
        · have t5 : (s[3]'hlt2).toNat = 101 := by show (s.data[3]'hlt2).toNat = 101; rw [hc]; rfl
          have t6 : (((s[3]'hlt2).toNat : Int) != (((⟨#[110, 111, 110, 101]⟩ : ByteArray)[3]'(by decide)).toNat : Int)) = false := by rw [t5]; rfl
          have hw2 : Hid (wantL (s.data.toList.drop 4) (noneT.drop 4) 4 = wantL s.data.toList noneT 0) := hid (by rw [if_pos hc] at hst; rw [← hst]; exact hw.out)
          clear hst hc hw
          go_upto_region 6 with fail
          go_quiet (fail)
          go_wp2_with fail
          exact ⟨⟨4, rfl, by omega, by omega, hz.out.drewN _, hw2.out⟩, by simp [intOf]⟩
        · have t5 : ¬ ((s[3]'hlt2).toNat = 101) := fun e => hc (UInt8.toNat_inj.1 e)
          have t6 : (((s[3]'hlt2).toNat : Int) != (((⟨#[110, 111, 110, 101]⟩ : ByteArray)[3]'(by decide)).toNat : Int)) = true := by
            have e : (((⟨#[110, 111, 110, 101]⟩ : ByteArray)[3]'(by decide)).toNat : Int) = 101 := rfl
            rw [e]; simp; omega
          have hfin : Hid (wantL s.data.toList noneT 0 = .bad 21 3) := hid (by rw [if_neg hc] at hst; rw [← hst]; exact hw.out.symm)
          clear hst hc hw
          go_upto_region 6 with fail
          go_quiet (fail)
          have hz := hid (hz.out.drewN nq)
          clear fz hlt z0 z1 z2
          obtain ⟨fz, hlt, z0, z1, z2⟩ := hz.out.facts
          go_wp2_with fail
          have hT := hz.out.set ⟨0, 0, ⟨#[]⟩⟩
          dsimp only at hT
          obtain ⟨-, -, z0, z1, z2⟩ := hT.facts
          dsimp only at z0 z1 z2
          refine bodyPost_ret (v := .tuple #[.agg #[.int .i64 (⟨0, 0, ⟨#[]⟩⟩ : Vl).k, .int .i64 (⟨0, 0, ⟨#[]⟩⟩ : Vl).n, .string (⟨0, 0, ⟨#[]⟩⟩ : Vl).s], .int .i64 21, .int .i64 3]) (by simp [results, Tryz.results209, go_sem, z0, z1, z2]) rfl ⟨?_, hT.bel⟩
          rw [hfin.out]; rfl
    · clear hk
      by_cases hend : 4 < s.size
      · have t1 : (4 : Int) < (s.size : Int) := by omega
        have hfin : Hid (wantL s.data.toList noneT 0 = .bad 4 4) := hid (by rw [← hw.out, drop_some hend]; rfl)
        clear hend
        go_wp2_with fail
        have hT := hz.out.set ⟨0, 0, ⟨#[]⟩⟩
        dsimp only at hT
        obtain ⟨-, -, z0, z1, z2⟩ := hT.facts
        dsimp only at z0 z1 z2
        refine bodyPost_ret (v := .tuple #[.agg #[.int .i64 (⟨0, 0, ⟨#[]⟩⟩ : Vl).k, .int .i64 (⟨0, 0, ⟨#[]⟩⟩ : Vl).n, .string (⟨0, 0, ⟨#[]⟩⟩ : Vl).s], .int .i64 4, .int .i64 4]) (by simp [results, Tryz.results209, go_sem, z0, z1, z2]) rfl ⟨?_, hT.bel⟩
        rw [hfin.out]; rfl
      · have t1 : ¬ (4 : Int) < (s.size : Int) := by omega
        have hfin : Hid (wantL s.data.toList noneT 0 = .good vl0) := hid (by rw [← hw.out, drop_end (by omega)]; rfl)
        clear hend
        go_wp2_with fail
        have hT := hz.out.set ⟨0, 0, ⟨#[]⟩⟩
        dsimp only at hT
        obtain ⟨-, -, z0, z1, z2⟩ := hT.facts
        dsimp only at z0 z1 z2
        refine bodyPost_ret (v := .tuple #[.agg #[.int .i64 (⟨0, 0, ⟨#[]⟩⟩ : Vl).k, .int .i64 (⟨0, 0, ⟨#[]⟩⟩ : Vl).n, .string (⟨0, 0, ⟨#[]⟩⟩ : Vl).s], .int .i64 0, .int .i64 0]) (by simp [results, Tryz.results209, go_sem, z0, z1, z2]) rfl ⟨?_, hT.bel⟩
        rw [hfin.out]; rfl

end Go.Proofs.YtdmogoaaecdbaaaGreatDoor

namespace Go.Proofs.YtdmogoaaecdbaaaGreatDoor
open Go.RowKit
set_option linter.unusedVariables false
set_option linter.unusedSimpArgs false

theorem digit_any (c : UInt8) (w : World) : Calls Tryz.prog 231 #[.int .u8 (c.toNat : Nat)] w fun e w' => e = .returned (.bool (isD c)) ∧ w' = w := by
  unfold isD
  by_cases h : 48 ≤ c.toNat
  · have t1 : decide ((48 : Int) ≤ (c.toNat : Int)) = true := decide_eq_true (by omega)
    have hc : Hid ((decide (48 ≤ c.toNat) && decide (c.toNat ≤ 57)) = decide ((c.toNat : Int) ≤ 57)) := hid (by rw [decide_eq_true h, Bool.true_and]; exact decide_eq_decide.2 (by omega))
    clear h
    go_enter Tryz.func231, Tryz.ntmps231
    go_wp2_with fail
    go_ret
    exact ⟨by rw [hc.out]; first | rfl | simp, rfl⟩
  · have t1 : decide ((48 : Int) ≤ (c.toNat : Int)) = false := decide_eq_false (by omega)
    have hc : Hid ((decide (48 ≤ c.toNat) && decide (c.toNat ≤ 57)) = false) := hid (by rw [decide_eq_false h, Bool.false_and])
    clear h
    go_enter Tryz.func231, Tryz.ntmps231
    go_wp2_with fail
    go_ret
    exact ⟨by rw [hc.out]; rfl, rfl⟩
theorem takeWhile_take {α : Type} (p : α → Bool) : ∀ (n : Nat) (l : List α), n ≤ l.length → (∀ j (h : j < l.length), j < n → p l[j] = true) → (∀ h : n < l.length, p l[n] = false) → l.takeWhile p = l.take n := by
  intro n
  induction n with
  | zero =>
    intro l _ _ h2
    cases l with
    | nil => rfl
    | cons c r => rw [List.takeWhile_cons, if_neg (by rw [show p c = false from h2 (by simp)]; decide)]; rfl
  | succ n ih =>
    intro l hl h1 h2
    cases l with
    | nil => simp at hl
    | cons c r =>
      rw [List.takeWhile_cons, if_pos (show p c = true from h1 0 (by simp) (by omega)), List.take_succ_cons, ih r (by simpa using hl) (fun j hj hn => h1 (j + 1) (by simpa using hj) (by omega)) (fun h => h2 (by simpa using h))]
theorem parseI_num (neg : Bool) {ds : List UInt8} (hd : ∀ c ∈ ds, isD c = true) (h0 : ds ≠ []) :
    Lib.parseIntB 64 (if neg = true then 45 :: ds else ds) = if (if neg = true then 9223372036854775808 < dval 0 ds else 9223372036854775808 ≤ dval 0 ds) then .range else .ok (if neg = true then -(dval 0 ds : Int) else dval 0 ds) := by
  cases neg with
  | true =>
    simp only [if_true]
    rw [parseI_neg hd h0]
    by_cases h : dval 0 ds ≤ 9223372036854775808
    · rw [if_pos h, if_neg (by omega)]
    · rw [if_neg h, if_pos (by omega)]
  | false =>
    simp only [Bool.false_eq_true, if_false]
    rw [parseI_pos hd h0]
    by_cases h : dval 0 ds < 9223372036854775808
    · rw [if_pos h, if_neg (by omega)]
    · rw [if_neg h, if_pos (by omega)]
/-- the digits stand from f to k -/
structure Dig (s : ByteArray) (neg : Bool) (f k : Nat) : Prop where
  fe : f = if neg = true then 1 else 0
  hd : decide (s.data.toList.head? = some 45) = neg
  le : f ≤ k ∧ k ≤ s.size
  ds : digs s.data.toList = (s.data.toList.drop f).take (k - f)
  len : (digs s.data.toList).length = k - f
  all : ∀ c ∈ digs s.data.toList, isD c = true
section
variable {s : ByteArray} {neg : Bool} {f k : Nat}
theorem Dig.mk' (fe : f = if neg = true then 1 else 0) (hd : decide (s.data.toList.head? = some 45) = neg) (le : f ≤ k ∧ k ≤ s.size) (h1 : ∀ j (hj : j < s.size), f ≤ j → j < k → isD (s.data[j]'hj) = true) (h2 : ∀ h : k < s.size, isD (s.data[k]'h) = false) : Dig s neg f k := by
  have hf : fromL s.data.toList = f := by
    unfold fromL
    rw [fe, ← hd]
    by_cases h : s.data.toList.head? = some 45 <;> simp [h]
  have hl : s.data.toList.length = s.size := by rw [Array.length_toList]; rfl
  have e : digs s.data.toList = (s.data.toList.drop f).take (k - f) := by
    unfold digs
    rw [hf]
    refine takeWhile_take isD (k - f) _ (by rw [List.length_drop, hl]; omega) (fun j hj hn => ?_) (fun h => ?_)
    · rw [List.length_drop, hl] at hj
      rw [List.getElem_drop, Array.getElem_toList]
      exact h1 _ (by omega) (by omega) (by omega)
    · rw [List.length_drop, hl] at h
      rw [List.getElem_drop, Array.getElem_toList]
      have := h2 (by omega)
      simp only [show f + (k - f) = k by omega]
      exact this
  refine ⟨fe, hd, le, e, ?_, by unfold digs; exact takeWhile_mem⟩
  rw [e, List.length_take, List.length_drop, hl]
  omega
theorem Dig.num (h : Dig s neg f k) : numL s.data.toList = numE neg (digs s.data.toList) s.size := by
  unfold numL
  rw [h.hd, Array.length_toList]
  rfl
theorem Dig.f1 (h : Dig s neg f k) : (if neg = true then 1 else 0) = f := h.fe.symm
theorem Dig.c1 (h : Dig s neg f k) (hk : k = f) (he : k = s.size) : numL s.data.toList = .bad 3 k := by
  have e : digs s.data.toList = [] := List.eq_nil_of_length_eq_zero (by rw [h.len]; omega)
  rw [h.num]; unfold numE; simp only; rw [if_pos e, h.f1, if_pos (by omega), hk]
theorem Dig.c2 (h : Dig s neg f k) (hk : k = f) (he : k ≠ s.size) : numL s.data.toList = .bad 21 k := by
  have e : digs s.data.toList = [] := List.eq_nil_of_length_eq_zero (by rw [h.len]; omega)
  rw [h.num]; unfold numE; simp only; rw [if_pos e, h.f1, if_neg (by omega), hk]
theorem Dig.ne (h : Dig s neg f k) (hk : f < k) : digs s.data.toList ≠ [] := fun e => by have := h.len; rw [e] at this; simp at this; omega
theorem Dig.head (h : Dig s neg f k) (hk : f < k) (hf : f < s.size) : (digs s.data.toList).head? = some (s.data[f]'hf) := by
  rw [h.ds, head_take (by omega), drop_some hf]; rfl
theorem Dig.c3 (h : Dig s neg f k) (hk : f < k) (hf : f < s.size) (h48 : s.data[f]'hf = 48) (hn : neg = true) : numL s.data.toList = .bad 21 1 := by
  rw [h.num]; unfold numE; simp only; rw [if_neg (h.ne hk), h.head hk hf, h48, if_pos ⟨rfl, hn⟩]
theorem Dig.c4 (h : Dig s neg f k) (hk : f + 1 < k) (hf : f < s.size) (h48 : s.data[f]'hf = 48) (hn : neg = false) : numL s.data.toList = .bad 21 1 := by
  rw [h.num]; unfold numE; simp only; rw [if_neg (h.ne (by omega)), h.head (by omega) hf, h48, if_neg (by rw [hn]; simp), if_pos ⟨rfl, by rw [h.len]; omega⟩]
def Dig.Big (s : ByteArray) (neg : Bool) : Prop := if neg = true then 9223372036854775808 < dval 0 (digs s.data.toList) else 9223372036854775808 ≤ dval 0 (digs s.data.toList)
def Dig.val (s : ByteArray) (neg : Bool) : Int := if neg = true then -(dval 0 (digs s.data.toList) : Int) else dval 0 (digs s.data.toList)
theorem Dig.c567 (h : Dig s neg f k) (hk : f < k) (hf : f < s.size) (h48 : s.data[f]'hf = 48 → neg = false ∧ k = f + 1) : (Dig.Big s neg → numL s.data.toList = .bad 22 0) ∧ (¬ Dig.Big s neg → k < s.size → numL s.data.toList = .bad 4 k) ∧ (¬ Dig.Big s neg → k = s.size → numL s.data.toList = .good (intV (Dig.val s neg))) := by
  have hE : numL s.data.toList = if (if neg = true then 9223372036854775808 < dval 0 (digs s.data.toList) else 9223372036854775808 ≤ dval 0 (digs s.data.toList)) then .bad 22 0 else if f + (k - f) < s.size then .bad 4 (f + (k - f)) else .good (intV (if neg = true then -(dval 0 (digs s.data.toList) : Int) else dval 0 (digs s.data.toList))) := by
    rw [h.num]
    unfold numE
    simp only
    rw [if_neg (h.ne hk), h.head hk hf, if_neg (by rintro ⟨e, hn⟩; have := h48 (Option.some.inj e); rw [hn] at this; exact absurd this.1 (by decide)), if_neg (by rintro ⟨e, hn⟩; have := h48 (Option.some.inj e); rw [h.len] at hn; omega), h.f1, h.len]
  unfold Dig.Big Dig.val
  refine ⟨fun hb => ?_, fun hb hl => ?_, fun hb hl => ?_⟩
  · rw [hE, if_pos hb]
  · rw [hE, if_neg hb, if_pos (by omega), show f + (k - f) = k by omega]
  · rw [hE, if_neg hb, if_neg (by omega)]
theorem Dig.parse (h : Dig s neg f k) (hk : f < k) : (Dig.Big s neg → Lib.parseIntB 64 (s.extract 0 k).data.toList = .range) ∧ (¬ Dig.Big s neg → Lib.parseIntB 64 (s.extract 0 k).data.toList = .ok (Dig.val s neg)) := by
  have e : (s.extract 0 k).data.toList = if neg = true then 45 :: digs s.data.toList else digs s.data.toList := by
    have e1 : (s.extract 0 k).data.toList = s.data.toList.take k := by
      rw [ByteArray.data_extract, Array.toList_extract, List.extract_eq_take_drop]; simp
    rw [e1, h.ds]
    have hfe := h.fe
    cases neg with
    | false => simp only [Bool.false_eq_true, if_false] at hfe ⊢; subst hfe; simp
    | true =>
      simp only [if_true] at hfe ⊢
      subst hfe
      have h0 : s.data.toList.head? = some 45 := of_decide_eq_true h.hd
      cases hs : s.data.toList with
      | nil => rw [hs] at h0; cases h0
      | cons a r =>
        rw [hs] at h0
        obtain rfl : a = 45 := Option.some.inj h0
        obtain ⟨k', rfl⟩ : ∃ k', k = k' + 1 := ⟨k - 1, by omega⟩
        simp
  rw [e, parseI_num neg h.all (h.ne hk)]
  exact ⟨fun hb => if_pos hb, fun hb => if_neg hb⟩
end

end Go.Proofs.YtdmogoaaecdbaaaGreatDoor

namespace Go.Proofs.YtdmogoaaecdbaaaGreatDoor
open Go.RowKit
set_option linter.unusedVariables false
set_option linter.unusedSimpArgs false

def lb (L : List Nat) : List UInt8 := L.map UInt8.ofNat
theorem lb_len (L : List Nat) : (lb L).length = L.length := List.length_map ..
theorem lb_snoc (L : List Nat) (c : UInt8) : lb (L ++ [c.toNat]) = lb L ++ [c] := by unfold lb; simp
section
variable {s : ByteArray} {k : Nat} {L : List Nat}
theorem sc_end (hk : s.size ≤ k) (out : List UInt8) : scanL (s.data.toList.drop k) k out = .bad 3 k := by rw [drop_end hk]; rfl
theorem sc_quote (hk : k < s.size) (h : s.data[k]'hk = 34) (out : List UInt8) : scanL (s.data.toList.drop k) k out = if k + 1 < s.size then .bad 4 (k + 1) else .good (wordV out) := by
  rw [drop_some hk, scan_c (by rw [h]; decide), if_pos h]
  by_cases h1 : k + 1 < s.size
  · rw [if_pos h1, if_neg (by rw [drop_some h1]; simp)]
  · rw [if_neg h1, if_pos (drop_end (by omega))]
theorem sc_bad (hk : k < s.size) (h0 : s.data[k]'hk ≠ 34) (h : okB (s.data[k]'hk) = false) (out : List UInt8) : scanL (s.data.toList.drop k) k out = .bad 21 k := by
  have h92 : s.data[k]'hk ≠ 92 := fun e => by rw [e] at h; exact absurd h (by decide)
  rw [drop_some hk, scan_c h92, if_neg h0, if_pos h]
theorem sc_long (hk : k < s.size) (h0 : s.data[k]'hk ≠ 34) (h : okB (s.data[k]'hk) = true) {out : List UInt8} (hl : out.length = 64) : scanL (s.data.toList.drop k) k out = .bad 1 k := by
  rw [drop_some hk]
  by_cases h92 : s.data[k]'hk = 92
  · rw [h92]
    cases s.data.toList.drop (k + 1) with
    | nil => rw [scan_b1, if_pos hl]
    | cons d r => rw [scan_b2, if_pos hl]
  · rw [scan_c h92, if_neg h0, if_neg (by rw [h]; decide), if_pos hl]
theorem sc_one (hk : k < s.size) (h0 : s.data[k]'hk ≠ 34) (h : okB (s.data[k]'hk) = true) {out : List UInt8} (hl : out.length ≠ 64) (h92 : s.data[k]'hk ≠ 92) : scanL (s.data.toList.drop k) k out = scanL (s.data.toList.drop (k + 1)) (k + 1) (out ++ [s.data[k]'hk]) := by
  rw [drop_some hk, scan_c h92, if_neg h0, if_neg (by rw [h]; decide), if_neg hl]
theorem sc_half (hk : k < s.size) {out : List UInt8} (hl : out.length ≠ 64) (h92 : s.data[k]'hk = 92) (he : s.size = k + 1) : scanL (s.data.toList.drop k) k out = .bad 3 s.size := by
  rw [drop_some hk, drop_end (by omega), h92, scan_b1, if_neg hl, he]
theorem sc_two (hk : k < s.size) {out : List UInt8} (hl : out.length ≠ 64) (h92 : s.data[k]'hk = 92) (he : k + 1 < s.size) : scanL (s.data.toList.drop k) k out = if s.data[k + 1]'he = 34 ∨ s.data[k + 1]'he = 92 then scanL (s.data.toList.drop (k + 2)) (k + 2) (out ++ [s.data[k + 1]'he]) else .bad 21 (k + 1) := by
  rw [drop_some hk, drop_some he, h92, scan_b2, if_neg hl]
theorem byte_ne {hk : k < s.size} {c : UInt8} (h : s.data[k]'hk ≠ c) : (s[k]'hk).toNat ≠ c.toNat := fun e => h (UInt8.toNat_inj.1 e)
theorem byte_eq {hk : k < s.size} {c : UInt8} (h : s.data[k]'hk = c) : (s[k]'hk).toNat = c.toNat := by show (s.data[k]'hk).toNat = c.toNat; rw [h]
end

set_option maxRecDepth 100000 in
set_option maxHeartbeats 4000000 in
theorem parseText_any (s : ByteArray) (w : World) (hs : s.size ≤ 140737488351232) (h1s : 1 ≤ s.size) : Calls Tryz.prog 207 #[.string s] w (PzOut (scanL (s.data.toList.drop 1) 1 []) w) := by
  generalize hRR0 : scanL (s.data.toList.drop 1) 1 [] = R
  have hRR := hid hRR0
  clear hRR0
  obtain ⟨ib, hb0, hb1, hb2, hb3⟩ := info_parts info_u8
  have hz := hid (VZ.start w)
  have hs9 : (s.size : Int) ≤ 140737488351232 := by omega
  have hs8 := hid hs
  clear hs
  go_enter Tryz.func207, Tryz.ntmps207
  go_upto_region 1 with fail
  generalize w.alloc (.cells #[.int .i64 0, .int .i64 0, .string ⟨#[]⟩] 55) = W at *
  obtain ⟨fz, hlt, z0, z1, z2⟩ := hz.out.facts
  go_wp2_with fail
  go_loopw [5, 6, 7, 8] (fun v5 v6 _ _ wr => ∃ (k : Nat) (A : Option Addr) (c : Nat) (L : List Nat), v5 = .slice A L.length c ∧ v6 = .int .i64 k ∧ 1 ≤ k ∧ k ≤ s.size ∧ L.length ≤ 64 ∧ wr.ownsRow W.heap.size 5 1 (.slice A L.length c) L.length (bcells L) ∧ Below W.heap.size W wr ∧ scanL (s.data.toList.drop k) k (lb L) = R) (fun _ v6 _ _ _ => s.size - (intOf v6).toNat)
  case atStart => exact ⟨1, none, 0, [], rfl, rfl, Nat.le_refl _, h1s, by decide, World.ownsRow_nil _ _ _ _, Below.refl _ _, hRR.out⟩
  case round =>
    clear fz hlt z0 z1 z2
    obtain ⟨k, A, c, L, rfl, rfl, hk1, hks, hL0, hown0, hB0, hR0⟩ := hrel
    have hL := hid hL0; have hown := hid hown0; have hB := hid hB0; have hR := hid hR0
    have hL9 : (L.length : Int) ≤ 64 := by omega
    clear hL0 hown0 hB0 hR0
    by_cases hlt : k < s.size
    · have i1 : (k : Int) < (s.size : Int) := by omega
      by_cases h34 : s.data[k]'hlt = 34
      · have b1 : (s[k]'hlt).toNat = 34 := byte_eq (hk := hlt) h34
        have b2 : (((s[k]'hlt).toNat : Int) == 34) = true := by rw [b1]; rfl
        have hsc := sc_quote hlt h34 (lb L)
        by_cases hmo : k + 1 < s.size
        · have i2 : (k : Int) + 1 < (s.size : Int) := by omega
          have hfin : Hid (R = .bad 4 (k + 1)) := hid (by rw [← hR.out, hsc, if_pos hmo])
          clear hsc h34 hmo
          have hz := hid (hz.out.below hB.out)
          obtain ⟨fz, hlt, z0, z1, z2⟩ := hz.out.facts
          go_wp2_with fail
          have hT := hz.out.set ⟨0, 0, ⟨#[]⟩⟩
          dsimp only at hT
          obtain ⟨-, -, z0, z1, z2⟩ := hT.facts
          dsimp only at z0 z1 z2
          refine bodyPost_ret (v := .tuple #[.agg #[.int .i64 (⟨0, 0, ⟨#[]⟩⟩ : Vl).k, .int .i64 (⟨0, 0, ⟨#[]⟩⟩ : Vl).n, .string (⟨0, 0, ⟨#[]⟩⟩ : Vl).s], .int .i64 4, .int .i64 ((k + 1 : Nat) : Int)]) (by simp [results, Tryz.results207, go_sem, z0, z1, z2]) rfl ⟨?_, hT.bel⟩
          rw [hfin.out]; rfl
        · have i2 : ¬ ((k : Int) + 1 < (s.size : Int)) := by omega
          have hfin : Hid (R = .good (wordV (lb L))) := hid (by rw [← hR.out, hsc, if_neg hmo])
          clear hsc h34 hmo
          have hcv := convB (Rd.of_own hown.out) (c := c) rfl
          go_wp2_with fail
          refine (word2_any _ _).mono ?_
          rintro e w2 ⟨rfl, hb20⟩
          have hB2 := hid (hB.out.trans (hb20.mono hB.out.size))
          clear hb20 hcv
          have hz := hid (hz.out.below hB2.out)
          obtain ⟨fz, hlt, z0, z1, z2⟩ := hz.out.facts
          go_wp2_with fail
          have hT := hz.out.set ⟨2, 0, bt L⟩
          dsimp only at hT
          obtain ⟨-, -, z0, z1, z2⟩ := hT.facts
          dsimp only at z0 z1 z2
          refine bodyPost_ret (v := .tuple #[.agg #[.int .i64 (⟨2, 0, bt L⟩ : Vl).k, .int .i64 (⟨2, 0, bt L⟩ : Vl).n, .string (⟨2, 0, bt L⟩ : Vl).s], .int .i64 0, .int .i64 0]) (by simp [results, Tryz.results207, go_sem, z0, z1, z2]) rfl ⟨?_, hT.bel⟩
          rw [hfin.out]; rfl
      · have b1 : (s[k]'hlt).toNat ≠ 34 := byte_ne (hk := hlt) h34
        have b2 : (((s[k]'hlt).toNat : Int) == 34) = false := by simp; omega
        cases hok : okB (s.data[k]'hlt) with
        | false =>
          have hpl := hid (mayB hlt hok (plain_any _ wr))
          have hfin : Hid (R = .bad 21 k) := hid (by rw [← hR.out, sc_bad hlt h34 hok])
          clear h34 hok b1
          go_wp2_with fail
          refine hpl.out.mono ?_
          rintro e w2 ⟨rfl, hwq⟩
          obtain rfl := hwq.symm
          clear hpl
          have hz := hid (hz.out.below hB.out)
          obtain ⟨fz, hlt, z0, z1, z2⟩ := hz.out.facts
          go_wp2_with fail
          have hT := hz.out.set ⟨0, 0, ⟨#[]⟩⟩
          dsimp only at hT
          obtain ⟨-, -, z0, z1, z2⟩ := hT.facts
          dsimp only at z0 z1 z2
          refine bodyPost_ret (v := .tuple #[.agg #[.int .i64 (⟨0, 0, ⟨#[]⟩⟩ : Vl).k, .int .i64 (⟨0, 0, ⟨#[]⟩⟩ : Vl).n, .string (⟨0, 0, ⟨#[]⟩⟩ : Vl).s], .int .i64 21, .int .i64 (k : Nat)]) (by simp [results, Tryz.results207, go_sem, z0, z1, z2]) rfl ⟨?_, hT.bel⟩
          rw [hfin.out]; rfl
        | true =>
          have hpl := hid (mayB hlt hok (plain_any _ wr))
          by_cases h64 : L.length = 64
          · have l1 : ((L.length : Int) == 64) = true := by rw [h64]; rfl
            have hfin : Hid (R = .bad 1 k) := hid (by rw [← hR.out, sc_long hlt h34 hok (by rw [lb_len]; exact h64)])
            clear h34 hok b1 h64
            go_wp2_with fail
            refine hpl.out.mono ?_
            rintro e w2 ⟨rfl, hwq⟩
            obtain rfl := hwq.symm
            clear hpl
            have hz := hid (hz.out.below hB.out)
            obtain ⟨fz, hlt, z0, z1, z2⟩ := hz.out.facts
            go_wp2_with fail
            have hT := hz.out.set ⟨0, 0, ⟨#[]⟩⟩
            dsimp only at hT
            obtain ⟨-, -, z0, z1, z2⟩ := hT.facts
            dsimp only at z0 z1 z2
            refine bodyPost_ret (v := .tuple #[.agg #[.int .i64 (⟨0, 0, ⟨#[]⟩⟩ : Vl).k, .int .i64 (⟨0, 0, ⟨#[]⟩⟩ : Vl).n, .string (⟨0, 0, ⟨#[]⟩⟩ : Vl).s], .int .i64 1, .int .i64 (k : Nat)]) (by simp [results, Tryz.results207, go_sem, z0, z1, z2]) rfl ⟨?_, hT.bel⟩
            rw [hfin.out]; rfl
          · have l1 : ((L.length : Int) == 64) = false := by simp; omega
            have hL2 := hid (show L.length + 1 ≤ 64 by have := hL.out; omega)
            by_cases h92 : s.data[k]'hlt = 92
            · have b3 : (s[k]'hlt).toNat = 92 := byte_eq (hk := hlt) h92
              have hpl : Hid (Calls Tryz.prog 137 #[.int .u8 92] wr fun e w' => e = .returned (.bool true) ∧ w' = wr) := hid (by have h := mayB hlt hok (plain_any _ wr); rw [b3] at h; exact h)
              have b4 : (((s[k]'hlt).toNat : Int) == 92) = true := by rw [b3]; rfl
              by_cases hen : s.size = k + 1
              · have e1 : ((k : Int) + 1 == (s.size : Int)) = true := by rw [hen]; simp
                have hfin : Hid (R = .bad 3 s.size) := hid (by rw [← hR.out, sc_half hlt (by rw [lb_len]; exact h64) h92 hen])
                clear h34 hok b1 h64 h92 hen
                go_wp2_with fail
                refine hpl.out.mono ?_
                rintro e w2 ⟨rfl, hwq⟩
                obtain rfl := hwq.symm
                clear hpl
                have hz := hid (hz.out.below hB.out)
                obtain ⟨fz, hlt, z0, z1, z2⟩ := hz.out.facts
                go_wp2_with fail
                have hT := hz.out.set ⟨0, 0, ⟨#[]⟩⟩
                dsimp only at hT
                obtain ⟨-, -, z0, z1, z2⟩ := hT.facts
                dsimp only at z0 z1 z2
                refine bodyPost_ret (v := .tuple #[.agg #[.int .i64 (⟨0, 0, ⟨#[]⟩⟩ : Vl).k, .int .i64 (⟨0, 0, ⟨#[]⟩⟩ : Vl).n, .string (⟨0, 0, ⟨#[]⟩⟩ : Vl).s], .int .i64 3, .int .i64 (s.size : Nat)]) (by simp [results, Tryz.results207, go_sem, z0, z1, z2]) rfl ⟨?_, hT.bel⟩
                rw [hfin.out]; rfl
              · have hl2 : k + 1 < s.size := by omega
                have i2 : (k : Int) + 1 < (s.size : Int) := by omega
                have e1 : ((k : Int) + 1 == (s.size : Int)) = false := by simp; omega
                have hst := sc_two hlt (out := lb L) (by rw [lb_len]; exact h64) h92 hl2
                clear h34 hok b1 h64 h92 hen
                by_cases d34 : s.data[k + 1]'hl2 = 34
                · have d1 : (s[k + 1]'hl2).toNat = 34 := byte_eq (hk := hl2) d34
                  have d2 : (((s[k + 1]'hl2).toNat : Int) != 34) = false := by rw [d1]; rfl
                  have hR2 : Hid (scanL (s.data.toList.drop (k + 2)) (k + 2) (lb (L ++ [34])) = R) := hid (by rw [← hR.out, hst, if_pos (.inl d34), d34, show (34 : Nat) = (34 : UInt8).toNat from rfl, lb_snoc])
                  clear hst d34
                  go_wp2_with fail
                  refine hpl.out.mono ?_
                  rintro e w2 ⟨rfl, hwq⟩
                  obtain rfl := hwq.symm
                  clear hpl
                  go_wp2_with (
                    at_builtin
                    refine wpList_append_rd _ rfl (.tmp 62) (.tmp 64) 114 rfl W.heap.size 5 ib _ 1 1 Tryz.underlying114 hb0 hb1 hb2 hb3 rfl (by omega) (.slice A L.length c) L.length (bcells L) rfl (hown.out.alloc _) (fun b => b = wr.heap.size) (some ⟨wr.heap.size, 0, none⟩) 1 1 [.int .u8 (((34 : Nat) : Int))] rfl (Rd.new wr 5 1 1 #[.int .u8 (((34 : Nat) : Int))] _ rfl rfl) (by intro u hu; simp at hu; subst hu; rfl) (by simp only [maxLen]; have := hL.out; omega) (by have := hL.out; omega) (by have := hB.out.size; simp; omega) ?_
                    intro v9 w9 hown9 hg9 hat9
                    have hB9 := hid ((hB.out.alloc hB.out.size (.cells #[.int .u8 (((34 : Nat) : Int))] 5)).grown hg9 (by have := hB.out.size; simp; omega) fun k hk => (hown.out.lt k hk).1)
                    obtain ⟨A9, c9, rfl, _⟩ := own_form hown9
                    rw [← bcells_snoc] at hown9
                    have hown9 := hid hown9
                    clear hg9 hat9)
                  refine ⟨⟨k + 2, A9, c9, L ++ [34], by simp, by first | rfl | (simp; done) | (simp; omega), by omega, by omega, by have := hL2.out; simp; omega, by simpa using hown9.out, hB9.out, hR2.out⟩, ?_⟩
                  simp [intOf]
                  omega
                · by_cases d92 : s.data[k + 1]'hl2 = 92
                  · have d1 : (s[k + 1]'hl2).toNat = 92 := byte_eq (hk := hl2) d92
                    have d2 : (((s[k + 1]'hl2).toNat : Int) != 34) = true := by rw [d1]; rfl
                    have d3 : (((s[k + 1]'hl2).toNat : Int) != 92) = false := by rw [d1]; rfl
                    have hR2 : Hid (scanL (s.data.toList.drop (k + 2)) (k + 2) (lb (L ++ [92])) = R) := hid (by rw [← hR.out, hst, if_pos (.inr d92), d92, show (92 : Nat) = (92 : UInt8).toNat from rfl, lb_snoc])
                    clear hst d34 d92
                    go_wp2_with fail
                    refine hpl.out.mono ?_
                    rintro e w2 ⟨rfl, hwq⟩
                    obtain rfl := hwq.symm
                    clear hpl
                    go_wp2_with (
                      at_builtin
                      refine wpList_append_rd _ rfl (.tmp 62) (.tmp 64) 114 rfl W.heap.size 5 ib _ 1 1 Tryz.underlying114 hb0 hb1 hb2 hb3 rfl (by omega) (.slice A L.length c) L.length (bcells L) rfl (hown.out.alloc _) (fun b => b = wr.heap.size) (some ⟨wr.heap.size, 0, none⟩) 1 1 [.int .u8 (((92 : Nat) : Int))] rfl (Rd.new wr 5 1 1 #[.int .u8 (((92 : Nat) : Int))] _ rfl rfl) (by intro u hu; simp at hu; subst hu; rfl) (by simp only [maxLen]; have := hL.out; omega) (by have := hL.out; omega) (by have := hB.out.size; simp; omega) ?_
                      intro v9 w9 hown9 hg9 hat9
                      have hB9 := hid ((hB.out.alloc hB.out.size (.cells #[.int .u8 (((92 : Nat) : Int))] 5)).grown hg9 (by have := hB.out.size; simp; omega) fun k hk => (hown.out.lt k hk).1)
                      obtain ⟨A9, c9, rfl, _⟩ := own_form hown9
                      rw [← bcells_snoc] at hown9
                      have hown9 := hid hown9
                      clear hg9 hat9)
                    refine ⟨⟨k + 2, A9, c9, L ++ [92], by simp, by first | rfl | (simp; done) | (simp; omega), by omega, by omega, by have := hL2.out; simp; omega, by simpa using hown9.out, hB9.out, hR2.out⟩, ?_⟩
                    simp [intOf]
                    omega
                  · have d1 : (s[k + 1]'hl2).toNat ≠ 34 := byte_ne (hk := hl2) d34
                    have d1' : (s[k + 1]'hl2).toNat ≠ 92 := byte_ne (hk := hl2) d92
                    have d2 : (((s[k + 1]'hl2).toNat : Int) != 34) = true := by simp; omega
                    have d3 : (((s[k + 1]'hl2).toNat : Int) != 92) = true := by simp; omega
                    have hfin : Hid (R = .bad 21 (k + 1)) := hid (by rw [← hR.out, hst, if_neg (fun e => e.elim d34 d92)])
                    clear hst d34 d92 d1 d1'
                    go_wp2_with fail
                    refine hpl.out.mono ?_
                    rintro e w2 ⟨rfl, hwq⟩
                    obtain rfl := hwq.symm
                    clear hpl
                    have hz := hid (hz.out.below hB.out)
                    obtain ⟨fz, hlt, z0, z1, z2⟩ := hz.out.facts
                    go_wp2_with fail
                    have hT := hz.out.set ⟨0, 0, ⟨#[]⟩⟩
                    dsimp only at hT
                    obtain ⟨-, -, z0, z1, z2⟩ := hT.facts
                    dsimp only at z0 z1 z2
                    refine bodyPost_ret (v := .tuple #[.agg #[.int .i64 (⟨0, 0, ⟨#[]⟩⟩ : Vl).k, .int .i64 (⟨0, 0, ⟨#[]⟩⟩ : Vl).n, .string (⟨0, 0, ⟨#[]⟩⟩ : Vl).s], .int .i64 21, .int .i64 ((k + 1 : Nat) : Int)]) (by simp [results, Tryz.results207, go_sem, z0, z1, z2]) rfl ⟨?_, hT.bel⟩
                    rw [hfin.out]; rfl
            · have b3 : (s[k]'hlt).toNat ≠ 92 := byte_ne (hk := hlt) h92
              have b4 : (((s[k]'hlt).toNat : Int) == 92) = false := by simp; omega
              have hR2 : Hid (scanL (s.data.toList.drop (k + 1)) (k + 1) (lb (L ++ [(s[k]'hlt).toNat])) = R) := hid (by rw [← hR.out, sc_one hlt h34 hok (by rw [lb_len]; exact h64) h92, show (s[k]'hlt).toNat = (s.data[k]'hlt).toNat from rfl, lb_snoc])
              clear h34 hok b1 h64 h92
              go_wp2_with fail
              refine hpl.out.mono ?_
              rintro e w2 ⟨rfl, hwq⟩
              obtain rfl := hwq.symm
              clear hpl
              go_wp2_with (
                at_builtin
                refine wpList_append_rd _ rfl (.tmp 62) (.tmp 64) 114 rfl W.heap.size 5 ib _ 1 1 Tryz.underlying114 hb0 hb1 hb2 hb3 rfl (by omega) (.slice A L.length c) L.length (bcells L) rfl (hown.out.alloc _) (fun b => b = wr.heap.size) (some ⟨wr.heap.size, 0, none⟩) 1 1 [.int .u8 (((s[k]'hlt).toNat : Nat))] rfl (Rd.new wr 5 1 1 #[.int .u8 (((s[k]'hlt).toNat : Nat))] _ rfl rfl) (by intro u hu; simp at hu; subst hu; rfl) (by simp only [maxLen]; have := hL.out; omega) (by have := hL.out; omega) (by have := hB.out.size; simp; omega) ?_
                intro v9 w9 hown9 hg9 hat9
                have hB9 := hid ((hB.out.alloc hB.out.size (.cells #[.int .u8 (((s[k]'hlt).toNat : Nat))] 5)).grown hg9 (by have := hB.out.size; simp; omega) fun k hk => (hown.out.lt k hk).1)
                obtain ⟨A9, c9, rfl, _⟩ := own_form hown9
                rw [← bcells_snoc] at hown9
                have hown9 := hid hown9
                clear hg9 hat9)
              refine ⟨⟨k + 1, A9, c9, L ++ [(s[k]'hlt).toNat], by simp, by first | rfl | (simp; done) | (simp; omega), by omega, by omega, by have := hL2.out; simp; omega, by simpa using hown9.out, hB9.out, hR2.out⟩, ?_⟩
              simp [intOf]
              omega
    · have i1 : ¬ ((k : Int) < (s.size : Int)) := by omega
      have hfin : Hid (R = .bad 3 s.size) := hid (by rw [← hR.out, sc_end (by omega)]; congr 1; omega)
      clear hlt
      have hz := hid (hz.out.below hB.out)
      obtain ⟨fz, hlt, z0, z1, z2⟩ := hz.out.facts
      go_wp2_with fail
      have hT := hz.out.set ⟨0, 0, ⟨#[]⟩⟩
      dsimp only at hT
      obtain ⟨-, -, z0, z1, z2⟩ := hT.facts
      dsimp only at z0 z1 z2
      refine bodyPost_ret (v := .tuple #[.agg #[.int .i64 (⟨0, 0, ⟨#[]⟩⟩ : Vl).k, .int .i64 (⟨0, 0, ⟨#[]⟩⟩ : Vl).n, .string (⟨0, 0, ⟨#[]⟩⟩ : Vl).s], .int .i64 3, .int .i64 (s.size : Nat)]) (by simp [results, Tryz.results207, go_sem, z0, z1, z2]) rfl ⟨?_, hT.bel⟩
      rw [hfin.out]; rfl

end Go.Proofs.YtdmogoaaecdbaaaGreatDoor

namespace Go.Proofs.YtdmogoaaecdbaaaGreatDoor
open Go.RowKit
set_option linter.unusedVariables false
set_option linter.unusedSimpArgs false

section
variable {s : ByteArray}
end
end Go.Proofs.YtdmogoaaecdbaaaGreatDoor

namespace Go.Proofs.YtdmogoaaecdbaaaGreatDoor
open Go.RowKit
set_option linter.unusedVariables false
set_option linter.unusedSimpArgs false

end Go.Proofs.YtdmogoaaecdbaaaGreatDoor

namespace Go.Proofs.YtdmogoaaecdbaaaGreatDoor
open Go.RowKit
set_option linter.unusedVariables false
set_option linter.unusedSimpArgs false

end Go.Proofs.YtdmogoaaecdbaaaGreatDoor

