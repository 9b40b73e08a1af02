/- Texts of the proof, joined: VNum0, VNum1, VRWord, VParse, VDig, VPrint, KPut3, KCRd, KCUint, KCRx, KCRbyte, KCRuint64, KCRint64, KRInt, KCInt, KCPub, KCRint, KCRstring, KCText, KCPub2, KCPub3, KCTake, VLive, VRParse. -/
import Derived.Test.YtdmogoaaecdbaaaGreatDoorJ12
import Derived.Test.YtdmogoaaecdbaaaGreatDoorJ08
import Derived.Lib.ItoaLen
import Derived.Test.YtdmogoaaecdbaaaGreatDoorJ04
import Derived.Laws.OwnMore
import Derived.Test.YtdmogoaaecdbaaaGreatDoorJ05
import Derived.Defers
import Derived.Recover
import Derived.Test.YtdmogoaaecdbaaaGreatDoorJ11
namespace Go.Proofs.YtdmogoaaecdbaaaGreatDoor
open Go.RowKit
set_option linter.unusedVariables false
set_option linter.unusedSimpArgs false

set_option maxRecDepth 100000 in
set_option maxHeartbeats 4000000 in
theorem parseNum0_any (s : ByteArray) (w : World) (hs : s.size ≤ 140737488351232) (h0 : 0 < s.size) (h45 : s.data[0]'h0 ≠ 45) (he : Env w) : Calls Tryz.prog 208 #[.string s] w (PzOut (numL s.data.toList) w) := by
  have hz := hid (VZ.start w)
  have he := hid (he.below (hz.out.bel))
  have hs9 : (s.size : Int) ≤ 140737488351232 := by omega
  have hs8 := hid hs
  have i00 : (0 : Int) < (s.size : Int) := by omega
  have hhd : Hid (decide (s.data.toList.head? = some 45) = false) := hid (by
    have e : s.data.toList.head? = some (s.data[0]'h0) := by have := drop_some h0; rw [List.drop_zero] at this; rw [this]; rfl
    rw [e]
    exact decide_eq_false (fun e => h45 (Option.some.inj e)))
  have b0 : (s[0]'h0).toNat ≠ 45 := byte_ne (hk := h0) h45
  have b0' : (((s[0]'h0).toNat : Int) == 45) = false := by simp; omega
  clear hs h45 b0
  go_enter Tryz.func208, Tryz.ntmps208
  go_upto_region 1 with fail
  generalize w.alloc (.cells #[.int .i64 0, .int .i64 0, .string ⟨#[]⟩] 55) = W at *
  obtain ⟨fz, hltz, z0, z1, z2⟩ := hz.out.facts
  go_wp2_with fail
  go_loopw [6] (fun v wr => ∃ k : Nat, v = .int .i64 k ∧ 0 ≤ k ∧ k ≤ s.size ∧ wr = W ∧ ∀ j (hj : j < s.size), 0 ≤ j → j < k → isD (s.data[j]'hj) = true) (fun v _ => s.size - (intOf v).toNat)
  case atStart => exact ⟨0, rfl, Nat.le_refl _, by omega, rfl, fun j _ h1 h2 => by omega⟩
  case round =>
    obtain ⟨k, rfl, hfk, hks, rfl, ha0⟩ := hrel
    have ha := hid ha0
    clear ha0
    by_cases hlt : k < s.size
    · have i1 : (k : Int) < (s.size : Int) := by omega
      cases hd : isD (s.data[k]'hlt) with
      | true =>
        have hpl : Hid (Calls Tryz.prog 231 #[.int .u8 ((s[k]'hlt).toNat : Nat)] wr fun e w' => e = .returned (.bool true) ∧ w' = wr) := hid (by have := digit_any (s.data[k]'hlt) wr; rw [hd] at this; exact this)
        have hd := hid hd
        go_wp2_with fail
        refine hpl.out.mono ?_
        rintro e w2 ⟨rfl, hwq⟩
        obtain rfl := hwq.symm
        clear hpl
        go_wp2_with fail
        refine ⟨⟨k + 1, by first | rfl | simp, by omega, hlt, by first | rfl | trivial, fun j hj h1 h2 => ?_⟩, by simp [intOf]; omega⟩
        by_cases e : j = k
        · subst e; exact hd.out
        · exact ha.out j hj h1 (by omega)
      | false =>
        have hpl : Hid (Calls Tryz.prog 231 #[.int .u8 ((s[k]'hlt).toNat : Nat)] wr fun e w' => e = .returned (.bool false) ∧ w' = wr) := hid (by have := digit_any (s.data[k]'hlt) wr; rw [hd] at this; exact this)
        have hD : Hid (Dig s false 0 k) := hid (Dig.mk' rfl hhd.out ⟨hfk, hks⟩ ha.out (fun h => hd))
        clear ha hd
        go_wp2_with fail
        refine hpl.out.mono ?_
        rintro e w2 ⟨rfl, hwq⟩
        obtain rfl := hwq.symm
        clear hpl
        by_cases hkf : k = 0
        · have hfin : Hid (numL s.data.toList = .bad 21 0) := hid (by rw [← hkf]; exact hD.out.c2 hkf (by omega))
          have q1 : ((0 : Int) == (s.size : Int)) = false := by simp; omega
          have q2 : ((k : Int) == 0) = true := by rw [hkf]; rfl
          have q3 : ((k : Int) == (s.size : Int)) = false := by simp; omega
          have q4 : (k : Int) = 0 := by omega
          clear hkf
          go_wp2_with fail
          have hT := hz.out.set ⟨0, 0, ⟨#[]⟩⟩
          dsimp only at hT
          obtain ⟨-, -, z0, z1, z2⟩ := hT.facts
          dsimp only at z0 z1 z2
          refine bodyPost_ret (v := .tuple #[.agg #[.int .i64 (⟨0, 0, ⟨#[]⟩⟩ : Vl).k, .int .i64 (⟨0, 0, ⟨#[]⟩⟩ : Vl).n, .string (⟨0, 0, ⟨#[]⟩⟩ : Vl).s], .int .i64 21, .int .i64 0]) (by simp [results, Tryz.results208, go_sem, z0, z1, z2]) rfl ⟨?_, hT.bel⟩
          rw [hfin.out]; rfl
        · have q2 : ((k : Int) == 0) = false := by simp; omega
          have hk1 := hid (show 0 < k by omega)
          have hf : 0 < s.size := by omega
          have hf' : (0 : Int) < (s.size : Int) := by omega
          by_cases h48 : s.data[0]'hf = 48
          · have b1 : (s[0]'hf).toNat = 48 := byte_eq (hk := hf) h48
            have b2 : (((s[0]'hf).toNat : Int) == 48) = true := by rw [b1]; rfl
            by_cases hk2 : 1 < k
            · have q5 : (1 : Int) < (k : Int) := by omega
              have hfin : Hid (numL s.data.toList = .bad 21 1) := hid (hD.out.c4 hk2 hf h48 rfl)
              clear h48 hkf hk2
              go_wp2_with fail
              have hT := hz.out.set ⟨0, 0, ⟨#[]⟩⟩
              dsimp only at hT
              obtain ⟨-, -, z0, z1, z2⟩ := hT.facts
              dsimp only at z0 z1 z2
              refine bodyPost_ret (v := .tuple #[.agg #[.int .i64 (⟨0, 0, ⟨#[]⟩⟩ : Vl).k, .int .i64 (⟨0, 0, ⟨#[]⟩⟩ : Vl).n, .string (⟨0, 0, ⟨#[]⟩⟩ : Vl).s], .int .i64 21, .int .i64 1]) (by simp [results, Tryz.results208, go_sem, z0, z1, z2]) rfl ⟨?_, hT.bel⟩
              rw [hfin.out]; rfl
            · have q5 : ¬ ((1 : Int) < (k : Int)) := by omega
              have h567 := hD.out.c567 hk1.out hf (fun _ => ⟨rfl, by omega⟩)
              clear h48 hkf hk2
              have hpa := hD.out.parse hk1.out
              have ik : (k : Int) ≤ (s.size : Int) := by omega
              have hes : (s.extract 0 k).size ≤ 140737488351232 := by rw [ByteArray.size_extract]; have := hs8.out; omega
              by_cases hbig : Dig.Big s false
              · have hpr := hid (parseI_rng _ hes (hpa.1 hbig) wr he.out)
                have hfin : Hid (numL s.data.toList = .bad 22 0) := hid (h567.1 hbig)
                clear hbig hpa h567 hes
                go_wp2_with fail
                refine hpr.out.mono ?_
                rintro e w2 ⟨n, N, rfl, hb20⟩
                have hz := hid (hz.out.below hb20)
                clear hb20 fz hltz z0 z1 z2 hpr
                obtain ⟨fz, hltz, z0, z1, z2⟩ := hz.out.facts
                go_wp2_with fail
                have hT := hz.out.set ⟨0, 0, ⟨#[]⟩⟩
                dsimp only at hT
                obtain ⟨-, -, z0, z1, z2⟩ := hT.facts
                dsimp only at z0 z1 z2
                refine bodyPost_ret (v := .tuple #[.agg #[.int .i64 (⟨0, 0, ⟨#[]⟩⟩ : Vl).k, .int .i64 (⟨0, 0, ⟨#[]⟩⟩ : Vl).n, .string (⟨0, 0, ⟨#[]⟩⟩ : Vl).s], .int .i64 22, .int .i64 0]) (by simp [results, Tryz.results208, go_sem, z0, z1, z2]) rfl ⟨?_, hT.bel⟩
                rw [hfin.out]; rfl
              · have hpr := hid (parseI_ok _ hes _ (hpa.2 hbig) wr)
                have hfin : Hid (numL s.data.toList = .bad 4 k) := hid (h567.2.1 hbig (by omega))
                clear hbig hpa h567 hes
                generalize Dig.val s false = nv at *
                go_wp2_with fail
                refine hpr.out.mono ?_
                rintro e w2 ⟨rfl, hb20⟩
                have hz := hid (hz.out.below hb20)
                clear hb20 fz hltz z0 z1 z2 hpr
                obtain ⟨fz, hltz, z0, z1, z2⟩ := hz.out.facts
                go_wp2_with fail
                have hT := hz.out.set ⟨0, 0, ⟨#[]⟩⟩
                dsimp only at hT
                obtain ⟨-, -, z0, z1, z2⟩ := hT.facts
                dsimp only at z0 z1 z2
                refine bodyPost_ret (v := .tuple #[.agg #[.int .i64 (⟨0, 0, ⟨#[]⟩⟩ : Vl).k, .int .i64 (⟨0, 0, ⟨#[]⟩⟩ : Vl).n, .string (⟨0, 0, ⟨#[]⟩⟩ : Vl).s], .int .i64 4, .int .i64 (k : Nat)]) (by simp [results, Tryz.results208, go_sem, z0, z1, z2]) rfl ⟨?_, hT.bel⟩
                rw [hfin.out]; rfl
          · have b1 : (s[0]'hf).toNat ≠ 48 := byte_ne (hk := hf) h48
            have b2 : (((s[0]'hf).toNat : Int) == 48) = false := by simp; omega
            have h567 := hD.out.c567 hk1.out hf (fun e => absurd e h48)
            clear h48 hkf b1
            have hpa := hD.out.parse hk1.out
            have ik : (k : Int) ≤ (s.size : Int) := by omega
            have hes : (s.extract 0 k).size ≤ 140737488351232 := by rw [ByteArray.size_extract]; have := hs8.out; omega
            by_cases hbig : Dig.Big s false
            · have hpr := hid (parseI_rng _ hes (hpa.1 hbig) wr he.out)
              have hfin : Hid (numL s.data.toList = .bad 22 0) := hid (h567.1 hbig)
              clear hbig hpa h567 hes
              go_wp2_with fail
              refine hpr.out.mono ?_
              rintro e w2 ⟨n, N, rfl, hb20⟩
              have hz := hid (hz.out.below hb20)
              clear hb20 fz hltz z0 z1 z2 hpr
              obtain ⟨fz, hltz, z0, z1, z2⟩ := hz.out.facts
              go_wp2_with fail
              have hT := hz.out.set ⟨0, 0, ⟨#[]⟩⟩
              dsimp only at hT
              obtain ⟨-, -, z0, z1, z2⟩ := hT.facts
              dsimp only at z0 z1 z2
              refine bodyPost_ret (v := .tuple #[.agg #[.int .i64 (⟨0, 0, ⟨#[]⟩⟩ : Vl).k, .int .i64 (⟨0, 0, ⟨#[]⟩⟩ : Vl).n, .string (⟨0, 0, ⟨#[]⟩⟩ : Vl).s], .int .i64 22, .int .i64 0]) (by simp [results, Tryz.results208, go_sem, z0, z1, z2]) rfl ⟨?_, hT.bel⟩
              rw [hfin.out]; rfl
            · have hpr := hid (parseI_ok _ hes _ (hpa.2 hbig) wr)
              have hfin : Hid (numL s.data.toList = .bad 4 k) := hid (h567.2.1 hbig (by omega))
              clear hbig hpa h567 hes
              generalize Dig.val s false = nv at *
              go_wp2_with fail
              refine hpr.out.mono ?_
              rintro e w2 ⟨rfl, hb20⟩
              have hz := hid (hz.out.below hb20)
              clear hb20 fz hltz z0 z1 z2 hpr
              obtain ⟨fz, hltz, z0, z1, z2⟩ := hz.out.facts
              go_wp2_with fail
              have hT := hz.out.set ⟨0, 0, ⟨#[]⟩⟩
              dsimp only at hT
              obtain ⟨-, -, z0, z1, z2⟩ := hT.facts
              dsimp only at z0 z1 z2
              refine bodyPost_ret (v := .tuple #[.agg #[.int .i64 (⟨0, 0, ⟨#[]⟩⟩ : Vl).k, .int .i64 (⟨0, 0, ⟨#[]⟩⟩ : Vl).n, .string (⟨0, 0, ⟨#[]⟩⟩ : Vl).s], .int .i64 4, .int .i64 (k : Nat)]) (by simp [results, Tryz.results208, go_sem, z0, z1, z2]) rfl ⟨?_, hT.bel⟩
              rw [hfin.out]; rfl
    · have i1 : ¬ ((k : Int) < (s.size : Int)) := by omega
      have hD : Hid (Dig s false 0 k) := hid (Dig.mk' rfl hhd.out ⟨hfk, hks⟩ ha.out (fun h => absurd h hlt))
      clear ha
      by_cases hkf : k = 0
      · exfalso; omega
      · have q2 : ((k : Int) == 0) = false := by simp; omega
        have hk1 := hid (show 0 < k by omega)
        have hf : 0 < s.size := by omega
        have hf' : (0 : Int) < (s.size : Int) := by omega
        by_cases h48 : s.data[0]'hf = 48
        · have b1 : (s[0]'hf).toNat = 48 := byte_eq (hk := hf) h48
          have b2 : (((s[0]'hf).toNat : Int) == 48) = true := by rw [b1]; rfl
          by_cases hk2 : 1 < k
          · have q5 : (1 : Int) < (k : Int) := by omega
            have hfin : Hid (numL s.data.toList = .bad 21 1) := hid (hD.out.c4 hk2 hf h48 rfl)
            clear h48 hkf hk2
            go_wp2_with fail
            have hT := hz.out.set ⟨0, 0, ⟨#[]⟩⟩
            dsimp only at hT
            obtain ⟨-, -, z0, z1, z2⟩ := hT.facts
            dsimp only at z0 z1 z2
            refine bodyPost_ret (v := .tuple #[.agg #[.int .i64 (⟨0, 0, ⟨#[]⟩⟩ : Vl).k, .int .i64 (⟨0, 0, ⟨#[]⟩⟩ : Vl).n, .string (⟨0, 0, ⟨#[]⟩⟩ : Vl).s], .int .i64 21, .int .i64 1]) (by simp [results, Tryz.results208, go_sem, z0, z1, z2]) rfl ⟨?_, hT.bel⟩
            rw [hfin.out]; rfl
          · have q5 : ¬ ((1 : Int) < (k : Int)) := by omega
            have h567 := hD.out.c567 hk1.out hf (fun _ => ⟨rfl, by omega⟩)
            clear h48 hkf hk2
            have hpa := hD.out.parse hk1.out
            have ik : (k : Int) ≤ (s.size : Int) := by omega
            have hes : (s.extract 0 k).size ≤ 140737488351232 := by rw [ByteArray.size_extract]; have := hs8.out; omega
            by_cases hbig : Dig.Big s false
            · have hpr := hid (parseI_rng _ hes (hpa.1 hbig) wr he.out)
              have hfin : Hid (numL s.data.toList = .bad 22 0) := hid (h567.1 hbig)
              clear hbig hpa h567 hes
              go_wp2_with fail
              refine hpr.out.mono ?_
              rintro e w2 ⟨n, N, rfl, hb20⟩
              have hz := hid (hz.out.below hb20)
              clear hb20 fz hltz z0 z1 z2 hpr
              obtain ⟨fz, hltz, z0, z1, z2⟩ := hz.out.facts
              go_wp2_with fail
              have hT := hz.out.set ⟨0, 0, ⟨#[]⟩⟩
              dsimp only at hT
              obtain ⟨-, -, z0, z1, z2⟩ := hT.facts
              dsimp only at z0 z1 z2
              refine bodyPost_ret (v := .tuple #[.agg #[.int .i64 (⟨0, 0, ⟨#[]⟩⟩ : Vl).k, .int .i64 (⟨0, 0, ⟨#[]⟩⟩ : Vl).n, .string (⟨0, 0, ⟨#[]⟩⟩ : Vl).s], .int .i64 22, .int .i64 0]) (by simp [results, Tryz.results208, go_sem, z0, z1, z2]) rfl ⟨?_, hT.bel⟩
              rw [hfin.out]; rfl
            · have hpr := hid (parseI_ok _ hes _ (hpa.2 hbig) wr)
              have hfin : Hid (numL s.data.toList = .good (intV (Dig.val s false))) := hid (h567.2.2 hbig (by omega))
              clear hbig hpa h567 hes
              generalize Dig.val s false = nv at *
              go_wp2_with fail
              refine hpr.out.mono ?_
              rintro e w2 ⟨rfl, hb20⟩
              have hz := hid (hz.out.below hb20)
              clear hb20 fz hltz z0 z1 z2 hpr
              go_wp2_with fail
              refine (of_any _ _).mono ?_
              rintro e w3 ⟨rfl, hb30⟩
              have hz := hid (hz.out.below hb30)
              clear hb30
              obtain ⟨fz, hltz, z0, z1, z2⟩ := hz.out.facts
              go_wp2_with fail
              have hT := hz.out.set ⟨1, nv, ⟨#[]⟩⟩
              dsimp only at hT
              obtain ⟨-, -, z0, z1, z2⟩ := hT.facts
              dsimp only at z0 z1 z2
              refine bodyPost_ret (v := .tuple #[.agg #[.int .i64 (⟨1, nv, ⟨#[]⟩⟩ : Vl).k, .int .i64 (⟨1, nv, ⟨#[]⟩⟩ : Vl).n, .string (⟨1, nv, ⟨#[]⟩⟩ : Vl).s], .int .i64 0, .int .i64 0]) (by simp [results, Tryz.results208, go_sem, z0, z1, z2]) rfl ⟨?_, hT.bel⟩
              rw [hfin.out]; rfl
        · have b1 : (s[0]'hf).toNat ≠ 48 := byte_ne (hk := hf) h48
          have b2 : (((s[0]'hf).toNat : Int) == 48) = false := by simp; omega
          have h567 := hD.out.c567 hk1.out hf (fun e => absurd e h48)
          clear h48 hkf b1
          have hpa := hD.out.parse hk1.out
          have ik : (k : Int) ≤ (s.size : Int) := by omega
          have hes : (s.extract 0 k).size ≤ 140737488351232 := by rw [ByteArray.size_extract]; have := hs8.out; omega
          by_cases hbig : Dig.Big s false
          · have hpr := hid (parseI_rng _ hes (hpa.1 hbig) wr he.out)
            have hfin : Hid (numL s.data.toList = .bad 22 0) := hid (h567.1 hbig)
            clear hbig hpa h567 hes
            go_wp2_with fail
            refine hpr.out.mono ?_
            rintro e w2 ⟨n, N, rfl, hb20⟩
            have hz := hid (hz.out.below hb20)
            clear hb20 fz hltz z0 z1 z2 hpr
            obtain ⟨fz, hltz, z0, z1, z2⟩ := hz.out.facts
            go_wp2_with fail
            have hT := hz.out.set ⟨0, 0, ⟨#[]⟩⟩
            dsimp only at hT
            obtain ⟨-, -, z0, z1, z2⟩ := hT.facts
            dsimp only at z0 z1 z2
            refine bodyPost_ret (v := .tuple #[.agg #[.int .i64 (⟨0, 0, ⟨#[]⟩⟩ : Vl).k, .int .i64 (⟨0, 0, ⟨#[]⟩⟩ : Vl).n, .string (⟨0, 0, ⟨#[]⟩⟩ : Vl).s], .int .i64 22, .int .i64 0]) (by simp [results, Tryz.results208, go_sem, z0, z1, z2]) rfl ⟨?_, hT.bel⟩
            rw [hfin.out]; rfl
          · have hpr := hid (parseI_ok _ hes _ (hpa.2 hbig) wr)
            have hfin : Hid (numL s.data.toList = .good (intV (Dig.val s false))) := hid (h567.2.2 hbig (by omega))
            clear hbig hpa h567 hes
            generalize Dig.val s false = nv at *
            go_wp2_with fail
            refine hpr.out.mono ?_
            rintro e w2 ⟨rfl, hb20⟩
            have hz := hid (hz.out.below hb20)
            clear hb20 fz hltz z0 z1 z2 hpr
            go_wp2_with fail
            refine (of_any _ _).mono ?_
            rintro e w3 ⟨rfl, hb30⟩
            have hz := hid (hz.out.below hb30)
            clear hb30
            obtain ⟨fz, hltz, z0, z1, z2⟩ := hz.out.facts
            go_wp2_with fail
            have hT := hz.out.set ⟨1, nv, ⟨#[]⟩⟩
            dsimp only at hT
            obtain ⟨-, -, z0, z1, z2⟩ := hT.facts
            dsimp only at z0 z1 z2
            refine bodyPost_ret (v := .tuple #[.agg #[.int .i64 (⟨1, nv, ⟨#[]⟩⟩ : Vl).k, .int .i64 (⟨1, nv, ⟨#[]⟩⟩ : Vl).n, .string (⟨1, nv, ⟨#[]⟩⟩ : Vl).s], .int .i64 0, .int .i64 0]) (by simp [results, Tryz.results208, go_sem, z0, z1, z2]) rfl ⟨?_, hT.bel⟩
            rw [hfin.out]; rfl

end Go.Proofs.YtdmogoaaecdbaaaGreatDoor

namespace Go.Proofs.YtdmogoaaecdbaaaGreatDoor
open Go.RowKit
set_option linter.unusedVariables false
set_option linter.unusedSimpArgs false

set_option maxRecDepth 100000 in
set_option maxHeartbeats 4000000 in
theorem parseNum1_any (s : ByteArray) (w : World) (hs : s.size ≤ 140737488351232) (h0 : 0 < s.size) (h45 : s.data[0]'h0 = 45) (he : Env w) : Calls Tryz.prog 208 #[.string s] w (PzOut (numL s.data.toList) w) := by
  have hz := hid (VZ.start w)
  have he := hid (he.below (hz.out.bel))
  have hs9 : (s.size : Int) ≤ 140737488351232 := by omega
  have hs8 := hid hs
  have i00 : (0 : Int) < (s.size : Int) := by omega
  have hhd : Hid (decide (s.data.toList.head? = some 45) = true) := hid (by
    have e : s.data.toList.head? = some (s.data[0]'h0) := by have := drop_some h0; rw [List.drop_zero] at this; rw [this]; rfl
    rw [e]
    rw [h45]; rfl)
  have b0 : (s[0]'h0).toNat = 45 := byte_eq (hk := h0) h45
  have b0' : (((s[0]'h0).toNat : Int) == 45) = true := by rw [b0]; rfl
  clear hs h45
  go_enter Tryz.func208, Tryz.ntmps208
  go_upto_region 1 with fail
  generalize w.alloc (.cells #[.int .i64 0, .int .i64 0, .string ⟨#[]⟩] 55) = W at *
  obtain ⟨fz, hltz, z0, z1, z2⟩ := hz.out.facts
  go_wp2_with fail
  go_loopw [6] (fun v wr => ∃ k : Nat, v = .int .i64 k ∧ 1 ≤ k ∧ k ≤ s.size ∧ wr = W ∧ ∀ j (hj : j < s.size), 1 ≤ j → j < k → isD (s.data[j]'hj) = true) (fun v _ => s.size - (intOf v).toNat)
  case atStart => exact ⟨1, rfl, Nat.le_refl _, by omega, rfl, fun j _ h1 h2 => by omega⟩
  case round =>
    obtain ⟨k, rfl, hfk, hks, rfl, ha0⟩ := hrel
    have ha := hid ha0
    clear ha0
    by_cases hlt : k < s.size
    · have i1 : (k : Int) < (s.size : Int) := by omega
      cases hd : isD (s.data[k]'hlt) with
      | true =>
        have hpl : Hid (Calls Tryz.prog 231 #[.int .u8 ((s[k]'hlt).toNat : Nat)] wr fun e w' => e = .returned (.bool true) ∧ w' = wr) := hid (by have := digit_any (s.data[k]'hlt) wr; rw [hd] at this; exact this)
        have hd := hid hd
        go_wp2_with fail
        refine hpl.out.mono ?_
        rintro e w2 ⟨rfl, hwq⟩
        obtain rfl := hwq.symm
        clear hpl
        go_wp2_with fail
        refine ⟨⟨k + 1, by first | rfl | simp, by omega, hlt, by first | rfl | trivial, fun j hj h1 h2 => ?_⟩, by simp [intOf]; omega⟩
        by_cases e : j = k
        · subst e; exact hd.out
        · exact ha.out j hj h1 (by omega)
      | false =>
        have hpl : Hid (Calls Tryz.prog 231 #[.int .u8 ((s[k]'hlt).toNat : Nat)] wr fun e w' => e = .returned (.bool false) ∧ w' = wr) := hid (by have := digit_any (s.data[k]'hlt) wr; rw [hd] at this; exact this)
        have hD : Hid (Dig s true 1 k) := hid (Dig.mk' rfl hhd.out ⟨hfk, hks⟩ ha.out (fun h => hd))
        clear ha hd
        go_wp2_with fail
        refine hpl.out.mono ?_
        rintro e w2 ⟨rfl, hwq⟩
        obtain rfl := hwq.symm
        clear hpl
        by_cases hkf : k = 1
        · have hfin : Hid (numL s.data.toList = .bad 21 1) := hid (by rw [← hkf]; exact hD.out.c2 hkf (by omega))
          have q1 : ((1 : Int) == (s.size : Int)) = false := by simp; omega
          have q2 : ((k : Int) == 1) = true := by rw [hkf]; rfl
          have q3 : ((k : Int) == (s.size : Int)) = false := by simp; omega
          have q4 : (k : Int) = 1 := by omega
          clear hkf
          go_wp2_with fail
          have hT := hz.out.set ⟨0, 0, ⟨#[]⟩⟩
          dsimp only at hT
          obtain ⟨-, -, z0, z1, z2⟩ := hT.facts
          dsimp only at z0 z1 z2
          refine bodyPost_ret (v := .tuple #[.agg #[.int .i64 (⟨0, 0, ⟨#[]⟩⟩ : Vl).k, .int .i64 (⟨0, 0, ⟨#[]⟩⟩ : Vl).n, .string (⟨0, 0, ⟨#[]⟩⟩ : Vl).s], .int .i64 21, .int .i64 1]) (by simp [results, Tryz.results208, go_sem, z0, z1, z2]) rfl ⟨?_, hT.bel⟩
          rw [hfin.out]; rfl
        · have q2 : ((k : Int) == 1) = false := by simp; omega
          have hk1 := hid (show 1 < k by omega)
          have hf : 1 < s.size := by omega
          have hf' : (1 : Int) < (s.size : Int) := by omega
          by_cases h48 : s.data[1]'hf = 48
          · have b1 : (s[1]'hf).toNat = 48 := byte_eq (hk := hf) h48
            have b2 : (((s[1]'hf).toNat : Int) == 48) = true := by rw [b1]; rfl
            have hfin : Hid (numL s.data.toList = .bad 21 1) := hid (hD.out.c3 hk1.out hf h48 rfl)
            clear h48 hkf
            go_wp2_with fail
            have hT := hz.out.set ⟨0, 0, ⟨#[]⟩⟩
            dsimp only at hT
            obtain ⟨-, -, z0, z1, z2⟩ := hT.facts
            dsimp only at z0 z1 z2
            refine bodyPost_ret (v := .tuple #[.agg #[.int .i64 (⟨0, 0, ⟨#[]⟩⟩ : Vl).k, .int .i64 (⟨0, 0, ⟨#[]⟩⟩ : Vl).n, .string (⟨0, 0, ⟨#[]⟩⟩ : Vl).s], .int .i64 21, .int .i64 1]) (by simp [results, Tryz.results208, go_sem, z0, z1, z2]) rfl ⟨?_, hT.bel⟩
            rw [hfin.out]; rfl
          · have b1 : (s[1]'hf).toNat ≠ 48 := byte_ne (hk := hf) h48
            have b2 : (((s[1]'hf).toNat : Int) == 48) = false := by simp; omega
            have h567 := hD.out.c567 hk1.out hf (fun e => absurd e h48)
            clear h48 hkf b1
            have hpa := hD.out.parse hk1.out
            have ik : (k : Int) ≤ (s.size : Int) := by omega
            have hes : (s.extract 0 k).size ≤ 140737488351232 := by rw [ByteArray.size_extract]; have := hs8.out; omega
            by_cases hbig : Dig.Big s true
            · have hpr := hid (parseI_rng _ hes (hpa.1 hbig) wr he.out)
              have hfin : Hid (numL s.data.toList = .bad 22 0) := hid (h567.1 hbig)
              clear hbig hpa h567 hes
              go_wp2_with fail
              refine hpr.out.mono ?_
              rintro e w2 ⟨n, N, rfl, hb20⟩
              have hz := hid (hz.out.below hb20)
              clear hb20 fz hltz z0 z1 z2 hpr
              obtain ⟨fz, hltz, z0, z1, z2⟩ := hz.out.facts
              go_wp2_with fail
              have hT := hz.out.set ⟨0, 0, ⟨#[]⟩⟩
              dsimp only at hT
              obtain ⟨-, -, z0, z1, z2⟩ := hT.facts
              dsimp only at z0 z1 z2
              refine bodyPost_ret (v := .tuple #[.agg #[.int .i64 (⟨0, 0, ⟨#[]⟩⟩ : Vl).k, .int .i64 (⟨0, 0, ⟨#[]⟩⟩ : Vl).n, .string (⟨0, 0, ⟨#[]⟩⟩ : Vl).s], .int .i64 22, .int .i64 0]) (by simp [results, Tryz.results208, go_sem, z0, z1, z2]) rfl ⟨?_, hT.bel⟩
              rw [hfin.out]; rfl
            · have hpr := hid (parseI_ok _ hes _ (hpa.2 hbig) wr)
              have hfin : Hid (numL s.data.toList = .bad 4 k) := hid (h567.2.1 hbig (by omega))
              clear hbig hpa h567 hes
              generalize Dig.val s true = nv at *
              go_wp2_with fail
              refine hpr.out.mono ?_
              rintro e w2 ⟨rfl, hb20⟩
              have hz := hid (hz.out.below hb20)
              clear hb20 fz hltz z0 z1 z2 hpr
              obtain ⟨fz, hltz, z0, z1, z2⟩ := hz.out.facts
              go_wp2_with fail
              have hT := hz.out.set ⟨0, 0, ⟨#[]⟩⟩
              dsimp only at hT
              obtain ⟨-, -, z0, z1, z2⟩ := hT.facts
              dsimp only at z0 z1 z2
              refine bodyPost_ret (v := .tuple #[.agg #[.int .i64 (⟨0, 0, ⟨#[]⟩⟩ : Vl).k, .int .i64 (⟨0, 0, ⟨#[]⟩⟩ : Vl).n, .string (⟨0, 0, ⟨#[]⟩⟩ : Vl).s], .int .i64 4, .int .i64 (k : Nat)]) (by simp [results, Tryz.results208, go_sem, z0, z1, z2]) rfl ⟨?_, hT.bel⟩
              rw [hfin.out]; rfl
    · have i1 : ¬ ((k : Int) < (s.size : Int)) := by omega
      have hD : Hid (Dig s true 1 k) := hid (Dig.mk' rfl hhd.out ⟨hfk, hks⟩ ha.out (fun h => absurd h hlt))
      clear ha
      by_cases hkf : k = 1
      · have hfin : Hid (numL s.data.toList = .bad 3 1) := hid (by rw [← hkf]; exact hD.out.c1 hkf (by omega))
        have q1 : ((1 : Int) == (s.size : Int)) = true := by rw [show (s.size : Int) = 1 by omega]; rfl
        have q2 : ((k : Int) == 1) = true := by rw [hkf]; rfl
        have q3 : ((k : Int) == (s.size : Int)) = true := by simp; omega
        have q4 : (k : Int) = 1 := by omega
        clear hkf
        go_wp2_with fail
        have hT := hz.out.set ⟨0, 0, ⟨#[]⟩⟩
        dsimp only at hT
        obtain ⟨-, -, z0, z1, z2⟩ := hT.facts
        dsimp only at z0 z1 z2
        refine bodyPost_ret (v := .tuple #[.agg #[.int .i64 (⟨0, 0, ⟨#[]⟩⟩ : Vl).k, .int .i64 (⟨0, 0, ⟨#[]⟩⟩ : Vl).n, .string (⟨0, 0, ⟨#[]⟩⟩ : Vl).s], .int .i64 3, .int .i64 1]) (by simp [results, Tryz.results208, go_sem, z0, z1, z2]) rfl ⟨?_, hT.bel⟩
        rw [hfin.out]; rfl
      · have q2 : ((k : Int) == 1) = false := by simp; omega
        have hk1 := hid (show 1 < k by omega)
        have hf : 1 < s.size := by omega
        have hf' : (1 : Int) < (s.size : Int) := by omega
        by_cases h48 : s.data[1]'hf = 48
        · have b1 : (s[1]'hf).toNat = 48 := byte_eq (hk := hf) h48
          have b2 : (((s[1]'hf).toNat : Int) == 48) = true := by rw [b1]; rfl
          have hfin : Hid (numL s.data.toList = .bad 21 1) := hid (hD.out.c3 hk1.out hf h48 rfl)
          clear h48 hkf
          go_wp2_with fail
          have hT := hz.out.set ⟨0, 0, ⟨#[]⟩⟩
          dsimp only at hT
          obtain ⟨-, -, z0, z1, z2⟩ := hT.facts
          dsimp only at z0 z1 z2
          refine bodyPost_ret (v := .tuple #[.agg #[.int .i64 (⟨0, 0, ⟨#[]⟩⟩ : Vl).k, .int .i64 (⟨0, 0, ⟨#[]⟩⟩ : Vl).n, .string (⟨0, 0, ⟨#[]⟩⟩ : Vl).s], .int .i64 21, .int .i64 1]) (by simp [results, Tryz.results208, go_sem, z0, z1, z2]) rfl ⟨?_, hT.bel⟩
          rw [hfin.out]; rfl
        · have b1 : (s[1]'hf).toNat ≠ 48 := byte_ne (hk := hf) h48
          have b2 : (((s[1]'hf).toNat : Int) == 48) = false := by simp; omega
          have h567 := hD.out.c567 hk1.out hf (fun e => absurd e h48)
          clear h48 hkf b1
          have hpa := hD.out.parse hk1.out
          have ik : (k : Int) ≤ (s.size : Int) := by omega
          have hes : (s.extract 0 k).size ≤ 140737488351232 := by rw [ByteArray.size_extract]; have := hs8.out; omega
          by_cases hbig : Dig.Big s true
          · have hpr := hid (parseI_rng _ hes (hpa.1 hbig) wr he.out)
            have hfin : Hid (numL s.data.toList = .bad 22 0) := hid (h567.1 hbig)
            clear hbig hpa h567 hes
            go_wp2_with fail
            refine hpr.out.mono ?_
            rintro e w2 ⟨n, N, rfl, hb20⟩
            have hz := hid (hz.out.below hb20)
            clear hb20 fz hltz z0 z1 z2 hpr
            obtain ⟨fz, hltz, z0, z1, z2⟩ := hz.out.facts
            go_wp2_with fail
            have hT := hz.out.set ⟨0, 0, ⟨#[]⟩⟩
            dsimp only at hT
            obtain ⟨-, -, z0, z1, z2⟩ := hT.facts
            dsimp only at z0 z1 z2
            refine bodyPost_ret (v := .tuple #[.agg #[.int .i64 (⟨0, 0, ⟨#[]⟩⟩ : Vl).k, .int .i64 (⟨0, 0, ⟨#[]⟩⟩ : Vl).n, .string (⟨0, 0, ⟨#[]⟩⟩ : Vl).s], .int .i64 22, .int .i64 0]) (by simp [results, Tryz.results208, go_sem, z0, z1, z2]) rfl ⟨?_, hT.bel⟩
            rw [hfin.out]; rfl
          · have hpr := hid (parseI_ok _ hes _ (hpa.2 hbig) wr)
            have hfin : Hid (numL s.data.toList = .good (intV (Dig.val s true))) := hid (h567.2.2 hbig (by omega))
            clear hbig hpa h567 hes
            generalize Dig.val s true = nv at *
            go_wp2_with fail
            refine hpr.out.mono ?_
            rintro e w2 ⟨rfl, hb20⟩
            have hz := hid (hz.out.below hb20)
            clear hb20 fz hltz z0 z1 z2 hpr
            go_wp2_with fail
            refine (of_any _ _).mono ?_
            rintro e w3 ⟨rfl, hb30⟩
            have hz := hid (hz.out.below hb30)
            clear hb30
            obtain ⟨fz, hltz, z0, z1, z2⟩ := hz.out.facts
            go_wp2_with fail
            have hT := hz.out.set ⟨1, nv, ⟨#[]⟩⟩
            dsimp only at hT
            obtain ⟨-, -, z0, z1, z2⟩ := hT.facts
            dsimp only at z0 z1 z2
            refine bodyPost_ret (v := .tuple #[.agg #[.int .i64 (⟨1, nv, ⟨#[]⟩⟩ : Vl).k, .int .i64 (⟨1, nv, ⟨#[]⟩⟩ : Vl).n, .string (⟨1, nv, ⟨#[]⟩⟩ : Vl).s], .int .i64 0, .int .i64 0]) (by simp [results, Tryz.results208, go_sem, z0, z1, z2]) rfl ⟨?_, hT.bel⟩
            rw [hfin.out]; rfl

end Go.Proofs.YtdmogoaaecdbaaaGreatDoor

namespace Go.Proofs.YtdmogoaaecdbaaaGreatDoor
open Go.RowKit
set_option linter.unusedVariables false
set_option linter.unusedSimpArgs false

end Go.Proofs.YtdmogoaaecdbaaaGreatDoor

namespace Go.Proofs.YtdmogoaaecdbaaaGreatDoor
open Go.RowKit
set_option linter.unusedVariables false
set_option linter.unusedSimpArgs false

theorem size0 {s : ByteArray} (h : s.size = 0) : s = ⟨#[]⟩ := by
  apply ByteArray.ext
  exact Array.eq_empty_of_size_eq_zero h
theorem parse_c {s : ByteArray} (h0 : 0 < s.size) : parseL s.data.toList = if s.data[0]'h0 = 34 then scanL (s.data.toList.drop 1) 1 [] else if s.data[0]'h0 = 45 ∨ isD (s.data[0]'h0) = true then numL s.data.toList else wantL s.data.toList noneT 0 := by
  have e := drop_some h0
  rw [List.drop_zero] at e
  rw [e]
  simp only [parseL, List.drop_succ_cons, List.drop_zero]
set_option maxRecDepth 100000 in
set_option maxHeartbeats 4000000 in
theorem parse_any (s : ByteArray) (w : World) (hs : s.size ≤ 140737488351232) (he : Env w) : Calls Tryz.prog 181 #[.string s] w (PzOut (parseL s.data.toList) w) := by
  have hz := hid (VZ.start w)
  have he := hid (he.below (hz.out.bel))
  by_cases h00 : s.size = 0
  · obtain rfl := size0 h00
    clear h00 hs
    go_enter Tryz.func181, Tryz.ntmps181
    go_upto_region 1 with fail
    generalize w.alloc (.cells #[.int .i64 0, .int .i64 0, .string ⟨#[]⟩] 55) = W at *
    obtain ⟨fz, hltz, z0, z1, z2⟩ := hz.out.facts
    go_wp2_with fail
    have hT := hz.out.set ⟨0, 0, ⟨#[]⟩⟩
    try dsimp only at hT
    obtain ⟨-, -, z0, z1, z2⟩ := hT.facts
    try dsimp only at z0 z1 z2
    refine bodyPost_ret (v := .tuple #[.agg #[.int .i64 (⟨0, 0, ⟨#[]⟩⟩ : Vl).k, .int .i64 (⟨0, 0, ⟨#[]⟩⟩ : Vl).n, .string (⟨0, 0, ⟨#[]⟩⟩ : Vl).s], .int .i64 3, .int .i64 0]) (by simp [results, Tryz.results181, go_sem, z0, z1, z2]) rfl ⟨?_, hT.bel⟩
    rfl
  have h0 : 0 < s.size := by omega
  have hne : s ≠ ⟨#[]⟩ := fun e => h00 (by rw [e]; rfl)
  have hnil := str_nil hne
  have i00 : (0 : Int) < (s.size : Int) := by omega
  have hpc := parse_c h0
  clear h00 hne
  generalize hpp : parseL s.data.toList = p at *
  clear hpp
  by_cases h34 : s.data[0]'h0 = 34
  · rw [if_pos h34] at hpc
    have b0 : (s[0]'h0).toNat = 34 := byte_eq (hk := h0) h34
    have b1 : (((s[0]'h0).toNat : Int) == 34) = true := by rw [b0]; rfl
    have b3 : (((s[0]'h0).toNat : Int) == 110) = false := by rw [b0]; rfl
    skip
    have hk := hid (parseText_any s (w.alloc (.cells #[.int .i64 0, .int .i64 0, .string ⟨#[]⟩] 55)) hs h0)
    rw [← hpc] at hk
    clear hpc h34
    go_enter Tryz.func181, Tryz.ntmps181
    go_upto_region 1 with fail
    generalize w.alloc (.cells #[.int .i64 0, .int .i64 0, .string ⟨#[]⟩] 55) = W at *
    obtain ⟨fz, hltz, z0, z1, z2⟩ := hz.out.facts
    go_wp2_with fail
    refine hk.out.mono ?_
    rintro e w2 ⟨rfl, hb20⟩
    have hz := hid (hz.out.below hb20)
    clear hb20 fz hltz z0 z1 z2
    obtain ⟨fz, hltz, z0, z1, z2⟩ := hz.out.facts
    go_wp2_with fail
    have hT := hz.out.set p.v
    try dsimp only at hT
    obtain ⟨-, -, z0, z1, z2⟩ := hT.facts
    try dsimp only at z0 z1 z2
    refine bodyPost_ret (v := .tuple #[.agg #[.int .i64 (p.v : Vl).k, .int .i64 (p.v : Vl).n, .string (p.v : Vl).s], .int .i64 p.e, .int .i64 (p.at_ : Nat)]) (by simp [results, Tryz.results181, go_sem, z0, z1, z2]) rfl ⟨?_, hT.bel⟩
    rfl

  rw [if_neg h34] at hpc
  have c0 : (s[0]'h0).toNat ≠ 34 := byte_ne (hk := h0) h34
  have b1 : (((s[0]'h0).toNat : Int) == 34) = false := by simp; omega
  by_cases h45 : s.data[0]'h0 = 45
  · rw [if_pos (.inl h45)] at hpc
    have b0 : (s[0]'h0).toNat = 45 := byte_eq (hk := h0) h45
    have b2 : (((s[0]'h0).toNat : Int) == 45) = true := by rw [b0]; rfl
    have b3 : (((s[0]'h0).toNat : Int) == 110) = false := by rw [b0]; rfl
    clear c0
    skip
    have hk := hid (parseNum1_any s (w.alloc (.cells #[.int .i64 0, .int .i64 0, .string ⟨#[]⟩] 55)) hs h0 h45 he.out)
    rw [← hpc] at hk
    clear hpc h34 h45
    go_enter Tryz.func181, Tryz.ntmps181
    go_upto_region 1 with fail
    generalize w.alloc (.cells #[.int .i64 0, .int .i64 0, .string ⟨#[]⟩] 55) = W at *
    obtain ⟨fz, hltz, z0, z1, z2⟩ := hz.out.facts
    go_wp2_with fail
    refine hk.out.mono ?_
    rintro e w2 ⟨rfl, hb20⟩
    have hz := hid (hz.out.below hb20)
    clear hb20 fz hltz z0 z1 z2
    obtain ⟨fz, hltz, z0, z1, z2⟩ := hz.out.facts
    go_wp2_with fail
    have hT := hz.out.set p.v
    try dsimp only at hT
    obtain ⟨-, -, z0, z1, z2⟩ := hT.facts
    try dsimp only at z0 z1 z2
    refine bodyPost_ret (v := .tuple #[.agg #[.int .i64 (p.v : Vl).k, .int .i64 (p.v : Vl).n, .string (p.v : Vl).s], .int .i64 p.e, .int .i64 (p.at_ : Nat)]) (by simp [results, Tryz.results181, go_sem, z0, z1, z2]) rfl ⟨?_, hT.bel⟩
    rfl

  have c1 : (s[0]'h0).toNat ≠ 45 := byte_ne (hk := h0) h45
  have b2 : (((s[0]'h0).toNat : Int) == 45) = false := by simp; omega
  cases hd : isD (s.data[0]'h0) with
  | true =>
    rw [if_pos (.inr hd)] at hpc
    have hd2 := isD_iff.1 hd
    have c2 : (48 : Int) ≤ ((s[0]'h0).toNat : Int) := by show (48 : Int) ≤ ((s.data[0]'h0).toNat : Int); omega
    have c3 : ((s[0]'h0).toNat : Int) ≤ 57 := by show ((s.data[0]'h0).toNat : Int) ≤ 57; omega
    have b3 : (((s[0]'h0).toNat : Int) == 110) = false := by simp; omega
    clear c0 c1 hd2
    skip
    have hk := hid (parseNum0_any s (w.alloc (.cells #[.int .i64 0, .int .i64 0, .string ⟨#[]⟩] 55)) hs h0 h45 he.out)
    rw [← hpc] at hk
    clear hpc h34 h45 hd
    go_enter Tryz.func181, Tryz.ntmps181
    go_upto_region 1 with fail
    generalize w.alloc (.cells #[.int .i64 0, .int .i64 0, .string ⟨#[]⟩] 55) = W at *
    obtain ⟨fz, hltz, z0, z1, z2⟩ := hz.out.facts
    go_wp2_with fail
    refine hk.out.mono ?_
    rintro e w2 ⟨rfl, hb20⟩
    have hz := hid (hz.out.below hb20)
    clear hb20 fz hltz z0 z1 z2
    obtain ⟨fz, hltz, z0, z1, z2⟩ := hz.out.facts
    go_wp2_with fail
    have hT := hz.out.set p.v
    try dsimp only at hT
    obtain ⟨-, -, z0, z1, z2⟩ := hT.facts
    try dsimp only at z0 z1 z2
    refine bodyPost_ret (v := .tuple #[.agg #[.int .i64 (p.v : Vl).k, .int .i64 (p.v : Vl).n, .string (p.v : Vl).s], .int .i64 p.e, .int .i64 (p.at_ : Nat)]) (by simp [results, Tryz.results181, go_sem, z0, z1, z2]) rfl ⟨?_, hT.bel⟩
    rfl

  | false =>
    rw [if_neg (by rintro (h | h); exact h45 h; rw [hd] at h; cases h)] at hpc
    have hd2 : ¬ (48 ≤ (s.data[0]'h0).toNat ∧ (s.data[0]'h0).toNat ≤ 57) := fun h => by rw [isD_iff.2 h] at hd; cases hd
    by_cases h48 : 48 ≤ (s[0]'h0).toNat
    · have c2 : (48 : Int) ≤ ((s[0]'h0).toNat : Int) := by omega
      have c3 : ¬ (((s[0]'h0).toNat : Int) ≤ 57) := by
        have h : ¬ ((s.data[0]'h0).toNat ≤ 57) := fun h => hd2 ⟨h48, h⟩
        show ¬ (((s.data[0]'h0).toNat : Int) ≤ 57); omega
      clear c0 c1 hd2
      skip
      have hk := hid (parseNone_any s (w.alloc (.cells #[.int .i64 0, .int .i64 0, .string ⟨#[]⟩] 55)) hs)
      rw [← hpc] at hk
      clear hpc h34 h45 hd h48
      go_enter Tryz.func181, Tryz.ntmps181
      go_upto_region 1 with fail
      generalize w.alloc (.cells #[.int .i64 0, .int .i64 0, .string ⟨#[]⟩] 55) = W at *
      obtain ⟨fz, hltz, z0, z1, z2⟩ := hz.out.facts
      go_wp2_with fail
      refine hk.out.mono ?_
      rintro e w2 ⟨rfl, hb20⟩
      have hz := hid (hz.out.below hb20)
      clear hb20 fz hltz z0 z1 z2
      obtain ⟨fz, hltz, z0, z1, z2⟩ := hz.out.facts
      go_wp2_with fail
      have hT := hz.out.set p.v
      try dsimp only at hT
      obtain ⟨-, -, z0, z1, z2⟩ := hT.facts
      try dsimp only at z0 z1 z2
      refine bodyPost_ret (v := .tuple #[.agg #[.int .i64 (p.v : Vl).k, .int .i64 (p.v : Vl).n, .string (p.v : Vl).s], .int .i64 p.e, .int .i64 (p.at_ : Nat)]) (by simp [results, Tryz.results181, go_sem, z0, z1, z2]) rfl ⟨?_, hT.bel⟩
      rfl

    · have c2 : ¬ ((48 : Int) ≤ ((s[0]'h0).toNat : Int)) := by omega
      clear c0 c1 hd2
      skip
      have hk := hid (parseNone_any s (w.alloc (.cells #[.int .i64 0, .int .i64 0, .string ⟨#[]⟩] 55)) hs)
      rw [← hpc] at hk
      clear hpc h34 h45 hd h48
      go_enter Tryz.func181, Tryz.ntmps181
      go_upto_region 1 with fail
      generalize w.alloc (.cells #[.int .i64 0, .int .i64 0, .string ⟨#[]⟩] 55) = W at *
      obtain ⟨fz, hltz, z0, z1, z2⟩ := hz.out.facts
      go_wp2_with fail
      refine hk.out.mono ?_
      rintro e w2 ⟨rfl, hb20⟩
      have hz := hid (hz.out.below hb20)
      clear hb20 fz hltz z0 z1 z2
      obtain ⟨fz, hltz, z0, z1, z2⟩ := hz.out.facts
      go_wp2_with fail
      have hT := hz.out.set p.v
      try dsimp only at hT
      obtain ⟨-, -, z0, z1, z2⟩ := hT.facts
      try dsimp only at z0 z1 z2
      refine bodyPost_ret (v := .tuple #[.agg #[.int .i64 (p.v : Vl).k, .int .i64 (p.v : Vl).n, .string (p.v : Vl).s], .int .i64 p.e, .int .i64 (p.at_ : Nat)]) (by simp [results, Tryz.results181, go_sem, z0, z1, z2]) rfl ⟨?_, hT.bel⟩
      rfl


end Go.Proofs.YtdmogoaaecdbaaaGreatDoor

namespace Go.Proofs.YtdmogoaaecdbaaaGreatDoor
open Go.RowKit
set_option linter.unusedVariables false
set_option linter.unusedSimpArgs false

theorem digits_any (n : Int) (h0 : -9223372036854775808 ≤ n) (h1 : n ≤ 9223372036854775807) (w : World) (he : Env w) :
    Calls Tryz.prog 90 #[.int .i64 n] w fun e w' => e = .returned (.string ⟨(Lib.itoa n).toArray⟩) ∧ Below w.heap.size w w' := by
  have hk := hid (fmt_any n h0 h1 w he)
  clear h0 h1 he
  go_enter Tryz.func90, Tryz.ntmps90
  go_wp2_with fail
  refine hk.out.mono ?_
  rintro e w2 ⟨rfl, hb⟩
  go_wp2_with fail
  go_ret
  exact ⟨rfl, hb⟩
end Go.Proofs.YtdmogoaaecdbaaaGreatDoor

namespace Go.Proofs.YtdmogoaaecdbaaaGreatDoor
open Go.RowKit
set_option linter.unusedVariables false
set_option linter.unusedSimpArgs false

end Go.Proofs.YtdmogoaaecdbaaaGreatDoor

namespace Go.Proofs.YtdmogoaaecdbaaaGreatDoor
open Go.RowKit
set_option linter.unusedVariables false
set_option linter.unusedSimpArgs false

end Go.Proofs.YtdmogoaaecdbaaaGreatDoor

namespace Go.Proofs.YtdmogoaaecdbaaaGreatDoor
open Go.RowKit
set_option linter.unusedVariables false
set_option linter.unusedSimpArgs false

def Rr.to (r : Rr) (a : Nat) : Rr := { r with at_ := a }
section
variable {S : Nat → Prop} {w : World} {g : Nat} {A : Option Addr} {c : Nat} {r : Rr} {res : (Value × Nat) ⊕ Int} {F : FuncId} {args : Array Value}
end
end Go.Proofs.YtdmogoaaecdbaaaGreatDoor

namespace Go.Proofs.YtdmogoaaecdbaaaGreatDoor
open Go.RowKit
set_option linter.unusedVariables false
set_option linter.unusedSimpArgs false

end Go.Proofs.YtdmogoaaecdbaaaGreatDoor

namespace Go.Proofs.YtdmogoaaecdbaaaGreatDoor
open Go.RowKit
set_option linter.unusedVariables false
set_option linter.unusedSimpArgs false

section
variable {S : Nat → Prop} {w W W' : World} {g : Nat} {A : Option Addr} {c : Nat} {r r' : Rr} {TX : TypeId} {vx : Value} {fr : Nat}
end

end Go.Proofs.YtdmogoaaecdbaaaGreatDoor

namespace Go.Proofs.YtdmogoaaecdbaaaGreatDoor
open Go.RowKit
set_option linter.unusedVariables false
set_option linter.unusedSimpArgs false

end Go.Proofs.YtdmogoaaecdbaaaGreatDoor

namespace Go.Proofs.YtdmogoaaecdbaaaGreatDoor
open Go.RowKit
set_option linter.unusedVariables false
set_option linter.unusedSimpArgs false

end Go.Proofs.YtdmogoaaecdbaaaGreatDoor

namespace Go.Proofs.YtdmogoaaecdbaaaGreatDoor
open Go.RowKit
set_option linter.unusedVariables false
set_option linter.unusedSimpArgs false

end Go.Proofs.YtdmogoaaecdbaaaGreatDoor

namespace Go.Proofs.YtdmogoaaecdbaaaGreatDoor
open Go.RowKit
set_option linter.unusedVariables false
set_option linter.unusedSimpArgs false

end Go.Proofs.YtdmogoaaecdbaaaGreatDoor

namespace Go.Proofs.YtdmogoaaecdbaaaGreatDoor
open Go.RowKit
set_option linter.unusedVariables false
set_option linter.unusedSimpArgs false

end Go.Proofs.YtdmogoaaecdbaaaGreatDoor

namespace Go.Proofs.YtdmogoaaecdbaaaGreatDoor
open Go.RowKit
set_option linter.unusedVariables false
set_option linter.unusedSimpArgs false

end Go.Proofs.YtdmogoaaecdbaaaGreatDoor

namespace Go.Proofs.YtdmogoaaecdbaaaGreatDoor
open Go.RowKit
set_option linter.unusedVariables false
set_option linter.unusedSimpArgs false

end Go.Proofs.YtdmogoaaecdbaaaGreatDoor

namespace Go.Proofs.YtdmogoaaecdbaaaGreatDoor
open Go.RowKit
set_option linter.unusedVariables false
set_option linter.unusedSimpArgs false

end Go.Proofs.YtdmogoaaecdbaaaGreatDoor

namespace Go.Proofs.YtdmogoaaecdbaaaGreatDoor
open Go.RowKit
set_option linter.unusedVariables false
set_option linter.unusedSimpArgs false

end Go.Proofs.YtdmogoaaecdbaaaGreatDoor

namespace Go.Proofs.YtdmogoaaecdbaaaGreatDoor
open Go.RowKit
set_option linter.unusedVariables false
set_option linter.unusedSimpArgs false

end Go.Proofs.YtdmogoaaecdbaaaGreatDoor

namespace Go.Proofs.YtdmogoaaecdbaaaGreatDoor
open Go.RowKit
set_option linter.unusedVariables false
set_option linter.unusedSimpArgs false

end Go.Proofs.YtdmogoaaecdbaaaGreatDoor

namespace Go.Proofs.YtdmogoaaecdbaaaGreatDoor
open Go.RowKit
set_option linter.unusedVariables false
set_option linter.unusedSimpArgs false

end Go.Proofs.YtdmogoaaecdbaaaGreatDoor

namespace Go.Proofs.YtdmogoaaecdbaaaGreatDoor
open Go.RowKit
set_option linter.unusedVariables false
set_option linter.unusedSimpArgs false

end Go.Proofs.YtdmogoaaecdbaaaGreatDoor

namespace Go.Proofs.YtdmogoaaecdbaaaGreatDoor
open Go.RowKit
set_option linter.unusedVariables false
set_option linter.unusedSimpArgs false

end Go.Proofs.YtdmogoaaecdbaaaGreatDoor

