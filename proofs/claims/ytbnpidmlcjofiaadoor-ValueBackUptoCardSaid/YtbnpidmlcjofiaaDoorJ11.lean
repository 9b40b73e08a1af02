/- Texts of the proof, joined: VRParse, VRPrint, KOpenA, KRTake, LawOf. -/
import Derived.Test.YtbnpidmlcjofiaaDoorJ08
import Derived.Test.YtbnpidmlcjofiaaDoorJ09
import Derived.Test.YtbnpidmlcjofiaaDoorJ04
import Derived.Test.YtbnpidmlcjofiaaDoorJ06
import Derived.Laws.OwnMore
import Derived.Deep.Slices
import Derived.Lib.SmallJoins
import Derived.SizedLaws
import Derived.Test.YtbnpidmlcjofiaaDoorJ10
import Derived.Test.YtbnpidmlcjofiaaDoorJ07
import Derived.Test.YtbnpidmlcjofiaaDoorJ01
import Derived.ProofKit
import Derived.OpenShut
import Derived.JoinedCond
namespace Go.Proofs.YtbnpidmlcjofiaaDoor
open Go.RowKit
set_option linter.unusedVariables false
set_option linter.unusedSimpArgs false

set_option maxRecDepth 100000 in
set_option maxHeartbeats 4000000 in
theorem rparse_any (s : ByteArray) (w : World) (hs : s.size ≤ 140737488351232) (he : Env w) : Calls Tryd.prog 16 #[.string s] w (PzOut (parseL s.data.toList) w) := by
  have hz := hid (VZ.start w)
  have he := hid (he.below (hz.out.bel))
  by_cases h00 : s.size = 0
  · obtain rfl := size0 h00
    clear h00 hs
    go_enter Tryd.func16, Tryd.ntmps16
    go_upto_region 1 with fail
    generalize w.alloc (.cells #[.int .i64 0, .int .i64 0, .string ⟨#[]⟩] 24) = W at *
    obtain ⟨fz, hltz, z0, z1, z2⟩ := hz.out.facts
    go_wp2_with fail
    have hT := hz.out.set ⟨0, 0, ⟨#[]⟩⟩
    try dsimp only at hT
    obtain ⟨-, -, z0, z1, z2⟩ := hT.facts
    try dsimp only at z0 z1 z2
    refine bodyPost_ret (v := .tuple #[.agg #[.int .i64 (⟨0, 0, ⟨#[]⟩⟩ : Vl).k, .int .i64 (⟨0, 0, ⟨#[]⟩⟩ : Vl).n, .string (⟨0, 0, ⟨#[]⟩⟩ : Vl).s], .int .i64 3, .int .i64 0]) (by simp [results, Tryd.results16, go_sem, z0, z1, z2]) rfl ⟨?_, hT.bel⟩
    rfl
  have h0 : 0 < s.size := by omega
  have hne : s ≠ ⟨#[]⟩ := fun e => h00 (by rw [e]; rfl)
  have hnil := str_nil hne
  have i00 : (0 : Int) < (s.size : Int) := by omega
  have hpc := parse_c h0
  clear h00 hne
  generalize hpp : parseL s.data.toList = p at *
  clear hpp
  by_cases h34 : s.data[0]'h0 = 34
  · rw [if_pos h34] at hpc
    have b0 : (s[0]'h0).toNat = 34 := byte_eq (hk := h0) h34
    have b1 : (((s[0]'h0).toNat : Int) == 34) = true := by rw [b0]; rfl
    have b3 : (((s[0]'h0).toNat : Int) == 110) = false := by rw [b0]; rfl
    skip
    have hk := hid (rwordL_any s (w.alloc (.cells #[.int .i64 0, .int .i64 0, .string ⟨#[]⟩] 24)) hs h0)
    rw [← hpc] at hk
    clear hpc h34
    go_enter Tryd.func16, Tryd.ntmps16
    go_upto_region 1 with fail
    generalize w.alloc (.cells #[.int .i64 0, .int .i64 0, .string ⟨#[]⟩] 24) = W at *
    obtain ⟨fz, hltz, z0, z1, z2⟩ := hz.out.facts
    go_wp2_with fail
    refine hk.out.mono ?_
    rintro e w2 ⟨rfl, hb20⟩
    have hz := hid (hz.out.below hb20)
    clear hb20 fz hltz z0 z1 z2
    obtain ⟨fz, hltz, z0, z1, z2⟩ := hz.out.facts
    go_wp2_with fail
    have hT := hz.out.set p.v
    try dsimp only at hT
    obtain ⟨-, -, z0, z1, z2⟩ := hT.facts
    try dsimp only at z0 z1 z2
    refine bodyPost_ret (v := .tuple #[.agg #[.int .i64 (p.v : Vl).k, .int .i64 (p.v : Vl).n, .string (p.v : Vl).s], .int .i64 p.e, .int .i64 (p.at_ : Nat)]) (by simp [results, Tryd.results16, go_sem, z0, z1, z2]) rfl ⟨?_, hT.bel⟩
    rfl

  rw [if_neg h34] at hpc
  have c0 : (s[0]'h0).toNat ≠ 34 := byte_ne (hk := h0) h34
  have b1 : (((s[0]'h0).toNat : Int) == 34) = false := by simp; omega
  by_cases h45 : s.data[0]'h0 = 45
  · rw [if_pos (.inl h45)] at hpc
    have b0 : (s[0]'h0).toNat = 45 := byte_eq (hk := h0) h45
    have b2 : (((s[0]'h0).toNat : Int) == 45) = true := by rw [b0]; rfl
    have b3 : (((s[0]'h0).toNat : Int) == 110) = false := by rw [b0]; rfl
    clear c0
    skip
    have hk := hid (rnum1_any s (w.alloc (.cells #[.int .i64 0, .int .i64 0, .string ⟨#[]⟩] 24)) hs h0 h45)
    rw [← hpc] at hk
    clear hpc h34 h45
    go_enter Tryd.func16, Tryd.ntmps16
    go_upto_region 1 with fail
    generalize w.alloc (.cells #[.int .i64 0, .int .i64 0, .string ⟨#[]⟩] 24) = W at *
    obtain ⟨fz, hltz, z0, z1, z2⟩ := hz.out.facts
    go_wp2_with fail
    refine hk.out.mono ?_
    rintro e w2 ⟨rfl, hb20⟩
    have hz := hid (hz.out.below hb20)
    clear hb20 fz hltz z0 z1 z2
    obtain ⟨fz, hltz, z0, z1, z2⟩ := hz.out.facts
    go_wp2_with fail
    have hT := hz.out.set p.v
    try dsimp only at hT
    obtain ⟨-, -, z0, z1, z2⟩ := hT.facts
    try dsimp only at z0 z1 z2
    refine bodyPost_ret (v := .tuple #[.agg #[.int .i64 (p.v : Vl).k, .int .i64 (p.v : Vl).n, .string (p.v : Vl).s], .int .i64 p.e, .int .i64 (p.at_ : Nat)]) (by simp [results, Tryd.results16, go_sem, z0, z1, z2]) rfl ⟨?_, hT.bel⟩
    rfl

  have c1 : (s[0]'h0).toNat ≠ 45 := byte_ne (hk := h0) h45
  have b2 : (((s[0]'h0).toNat : Int) == 45) = false := by simp; omega
  cases hd : isD (s.data[0]'h0) with
  | true =>
    rw [if_pos (.inr hd)] at hpc
    have hd2 := isD_iff.1 hd
    have c2 : (48 : Int) ≤ ((s[0]'h0).toNat : Int) := by show (48 : Int) ≤ ((s.data[0]'h0).toNat : Int); omega
    have c3 : ((s[0]'h0).toNat : Int) ≤ 57 := by show ((s.data[0]'h0).toNat : Int) ≤ 57; omega
    have b3 : (((s[0]'h0).toNat : Int) == 110) = false := by simp; omega
    have hdg : Hid (Calls Tryd.prog 51 #[.string s, .int .i64 0] (w.alloc (.cells #[.int .i64 0, .int .i64 0, .string ⟨#[]⟩] 24)) fun e w' => e = .returned (.bool true) ∧ w' = (w.alloc (.cells #[.int .i64 0, .int .i64 0, .string ⟨#[]⟩] 24))) := hid (by have h := rdigit_any s 0 (w.alloc (.cells #[.int .i64 0, .int .i64 0, .string ⟨#[]⟩] 24)); rw [dAt_lt h0, hd] at h; exact h)
    clear c0 c1 hd2
    skip
    have hk := hid (rnum0_any s (w.alloc (.cells #[.int .i64 0, .int .i64 0, .string ⟨#[]⟩] 24)) hs h0 hd)
    rw [← hpc] at hk
    clear hpc h34 h45 hd
    go_enter Tryd.func16, Tryd.ntmps16
    go_upto_region 1 with fail
    generalize w.alloc (.cells #[.int .i64 0, .int .i64 0, .string ⟨#[]⟩] 24) = W at *
    obtain ⟨fz, hltz, z0, z1, z2⟩ := hz.out.facts
    go_wp2_with fail
    refine hdg.out.mono ?_
    rintro e w2 ⟨rfl, hwq⟩
    obtain rfl := hwq.symm
    clear hdg
    go_wp2_with fail
    refine hk.out.mono ?_
    rintro e w2 ⟨rfl, hb20⟩
    have hz := hid (hz.out.below hb20)
    clear hb20 fz hltz z0 z1 z2
    obtain ⟨fz, hltz, z0, z1, z2⟩ := hz.out.facts
    go_wp2_with fail
    have hT := hz.out.set p.v
    try dsimp only at hT
    obtain ⟨-, -, z0, z1, z2⟩ := hT.facts
    try dsimp only at z0 z1 z2
    refine bodyPost_ret (v := .tuple #[.agg #[.int .i64 (p.v : Vl).k, .int .i64 (p.v : Vl).n, .string (p.v : Vl).s], .int .i64 p.e, .int .i64 (p.at_ : Nat)]) (by simp [results, Tryd.results16, go_sem, z0, z1, z2]) rfl ⟨?_, hT.bel⟩
    rfl

  | false =>
    rw [if_neg (by rintro (h | h); exact h45 h; rw [hd] at h; cases h)] at hpc
    have hd2 : ¬ (48 ≤ (s.data[0]'h0).toNat ∧ (s.data[0]'h0).toNat ≤ 57) := fun h => by rw [isD_iff.2 h] at hd; cases hd
    have hdg : Hid (Calls Tryd.prog 51 #[.string s, .int .i64 0] (w.alloc (.cells #[.int .i64 0, .int .i64 0, .string ⟨#[]⟩] 24)) fun e w' => e = .returned (.bool false) ∧ w' = (w.alloc (.cells #[.int .i64 0, .int .i64 0, .string ⟨#[]⟩] 24))) := hid (by have h := rdigit_any s 0 (w.alloc (.cells #[.int .i64 0, .int .i64 0, .string ⟨#[]⟩] 24)); rw [dAt_lt h0, hd] at h; exact h)
    by_cases h110 : s.data[0]'h0 = 110
    · have b0 : (s[0]'h0).toNat = 110 := byte_eq (hk := h0) h110
      have b3 : (((s[0]'h0).toNat : Int) == 110) = true := by rw [b0]; rfl
      clear c0 c1 hd2 hdg
      skip
      have hk := hid (rnothing_any s (w.alloc (.cells #[.int .i64 0, .int .i64 0, .string ⟨#[]⟩] 24)) hs)
      rw [← hpc] at hk
      clear hpc h34 h45 hd h110
      go_enter Tryd.func16, Tryd.ntmps16
      go_upto_region 1 with fail
      generalize w.alloc (.cells #[.int .i64 0, .int .i64 0, .string ⟨#[]⟩] 24) = W at *
      obtain ⟨fz, hltz, z0, z1, z2⟩ := hz.out.facts
      go_wp2_with fail
      refine hk.out.mono ?_
      rintro e w2 ⟨rfl, hb20⟩
      have hz := hid (hz.out.below hb20)
      clear hb20 fz hltz z0 z1 z2
      obtain ⟨fz, hltz, z0, z1, z2⟩ := hz.out.facts
      go_wp2_with fail
      have hT := hz.out.set p.v
      try dsimp only at hT
      obtain ⟨-, -, z0, z1, z2⟩ := hT.facts
      try dsimp only at z0 z1 z2
      refine bodyPost_ret (v := .tuple #[.agg #[.int .i64 (p.v : Vl).k, .int .i64 (p.v : Vl).n, .string (p.v : Vl).s], .int .i64 p.e, .int .i64 (p.at_ : Nat)]) (by simp [results, Tryd.results16, go_sem, z0, z1, z2]) rfl ⟨?_, hT.bel⟩
      rfl

    · have c4 : (s[0]'h0).toNat ≠ 110 := byte_ne (hk := h0) h110
      have b3 : (((s[0]'h0).toNat : Int) == 110) = false := by simp; omega
      rw [want_c h0 h110] at hpc
      have hfin := hid hpc
      clear c0 c1 hd2 c4 hpc h34 h45 hd h110
      go_enter Tryd.func16, Tryd.ntmps16
      go_upto_region 1 with fail
      generalize w.alloc (.cells #[.int .i64 0, .int .i64 0, .string ⟨#[]⟩] 24) = W at *
      obtain ⟨fz, hltz, z0, z1, z2⟩ := hz.out.facts
      go_wp2_with fail
      refine hdg.out.mono ?_
      rintro e w2 ⟨rfl, hwq⟩
      obtain rfl := hwq.symm
      clear hdg
      go_wp2_with fail
      have hT := hz.out.set ⟨0, 0, ⟨#[]⟩⟩
      try dsimp only at hT
      obtain ⟨-, -, z0, z1, z2⟩ := hT.facts
      try dsimp only at z0 z1 z2
      refine bodyPost_ret (v := .tuple #[.agg #[.int .i64 (⟨0, 0, ⟨#[]⟩⟩ : Vl).k, .int .i64 (⟨0, 0, ⟨#[]⟩⟩ : Vl).n, .string (⟨0, 0, ⟨#[]⟩⟩ : Vl).s], .int .i64 21, .int .i64 0]) (by simp [results, Tryd.results16, go_sem, z0, z1, z2]) rfl ⟨?_, hT.bel⟩
      rw [hfin.out]; rfl


end Go.Proofs.YtbnpidmlcjofiaaDoor

namespace Go.Proofs.YtbnpidmlcjofiaaDoor
open Go.RowKit
set_option linter.unusedVariables false
set_option linter.unusedSimpArgs false

theorem ext_one {s : ByteArray} {j : Nat} (h : j < s.size) : (s.extract j (j + 1)).data.toList = [s.data[j]'h] := by
  have h' : j < s.data.toList.length := by rw [Array.length_toList]; exact h
  rw [ByteArray.data_extract, Array.toList_extract, List.extract_eq_take_drop, List.drop_eq_getElem_cons h', Array.getElem_toList]
  simp
theorem lst_app (a b : ByteArray) : (a ++ b).data.toList = a.data.toList ++ b.data.toList := by rw [ByteArray.data_append, Array.toList_append]
theorem lst_len (a : ByteArray) : a.data.toList.length = a.size := by rw [Array.length_toList]; rfl

set_option maxRecDepth 100000 in
set_option maxHeartbeats 4000000 in
theorem rprint_any (v : Vl) (w : World) (hs : v.s.size ≤ 140737488351232) (hr : v.rng) : Calls Tryd.prog 29 #[.agg #[.int .i64 v.k, .int .i64 v.n, .string v.s]] w (PrOut v w) := by
  obtain ⟨W, hW⟩ : ∃ W, W = w.alloc (.cells #[.int .i64 v.k, .int .i64 v.n, .string v.s] 24) := ⟨_, rfl⟩
  have hB0 : Hid (Below w.heap.size w W) := hid (by subst hW; exact (Below.refl _ _).alloc (Nat.le_refl _) _)
  have kb0 : Hid (Blk W w.heap.size 24 #[.int .i64 v.k, .int .i64 v.n, .string v.s]) := hid (by subst hW; exact Blk.new w _ _)
  have hva := hid (rvalid_any v W (by omega))
  have hx0 : W.cell? ⟨w.heap.size, 0, none⟩ = some (.int .i64 v.k) := kb0.out.cell 0
  have hx1 : W.cell? ⟨w.heap.size, 1, none⟩ = some (.int .i64 v.n) := kb0.out.cell 1
  have hx2 : W.cell? ⟨w.heap.size, 2, none⟩ = some (.string v.s) := kb0.out.cell 2
  have hfz := fun q => kb0.out.frozen q
  have hlz := kb0.out.lt
  cases hok : v.ok with
  | false =>
    have hfin : Hid (printL v = [] ∧ printE v = 20) := hid (by unfold printL printE; rw [hok]; exact ⟨rfl, rfl⟩)
    rw [hok] at hva
    clear hok hs hr
    go_enter Tryd.func29, Tryd.ntmps29
    go_upto_region 1 with fail
    rw [← hW]
    clear hW
    go_wp2_with fail
    refine hva.out.mono ?_
    rintro e w2 ⟨rfl, hb20⟩
    have kb2 := hid (kb0.out.below_all hb20)
    have hB2 := hid (hB0.out.trans (hb20.mono hB0.out.size))
    have hbb2 := hid hb20
    clear hb20 hva hx0 hx1 hx2 hfz hlz kb0 hB0
    have x0 := kb2.out.cell 0
    have x1 := kb2.out.cell 1
    have x2 := kb2.out.cell 2
    simp only [List.getElem?_toArray, List.getElem?_cons_zero, List.getElem?_cons_succ] at x0 x1 x2
    have fz := fun q => kb2.out.frozen q
    have hlt := kb2.out.lt
    go_wp2_with fail
    refine bodyPost_ret (v := .tuple #[.string ⟨#[]⟩, .int .i64 20]) (by simp [results, Tryd.results29, go_sem]) rfl ⟨?_, hB2.out⟩
    rw [hfin.out.1, hfin.out.2]
  | true =>
    have hpe : Hid (printE v = 0) := hid (by unfold printE; rw [hok]; rfl)
    have hpl : printL v = litL v := by unfold printL; rw [hok]; rfl
    rw [hok] at hva
    rcases ok_forms hok with hv | ⟨h1, h2⟩ | ⟨h1, h2, h3, h4⟩
    · have e0 : v.k = 0 := by rw [hv]; rfl
      have hfin : Hid (printL v = noneT) := hid (by rw [hpl]; unfold litL; rw [e0]; rfl)
      have f1 : (v.k == 0) = true := by rw [e0]; rfl
      clear hok hs hr hv hpl e0
      go_enter Tryd.func29, Tryd.ntmps29
      go_upto_region 1 with fail
      rw [← hW]
      clear hW
      go_wp2_with fail
      refine hva.out.mono ?_
      rintro e w2 ⟨rfl, hb20⟩
      have kb2 := hid (kb0.out.below_all hb20)
      have hB2 := hid (hB0.out.trans (hb20.mono hB0.out.size))
      have hbb2 := hid hb20
      clear hb20 hva hx0 hx1 hx2 hfz hlz kb0 hB0
      have x0 := kb2.out.cell 0
      have x1 := kb2.out.cell 1
      have x2 := kb2.out.cell 2
      simp only [List.getElem?_toArray, List.getElem?_cons_zero, List.getElem?_cons_succ] at x0 x1 x2
      have fz := fun q => kb2.out.frozen q
      have hlt := kb2.out.lt
      go_wp2_with fail
      refine bodyPost_ret (v := .tuple #[.string ⟨#[110, 111, 110, 101]⟩, .int .i64 0]) (by simp [results, Tryd.results29, go_sem]) rfl ⟨?_, hB2.out⟩
      rw [hfin.out, hpe.out]; rfl
    · have hfin : Hid (printL v = Lib.itoa v.n) := hid (by rw [hpl]; unfold litL; rw [h1]; rfl)
      have f0 : (v.k == 1) = true := by rw [h1]; rfl
      have f1 : (v.k == 0) = false := by rw [h1]; rfl
      have hrr := hid hr
      clear hok hs hr hpl h1 h2
      go_enter Tryd.func29, Tryd.ntmps29
      go_upto_region 1 with fail
      rw [← hW]
      clear hW
      go_wp2_with fail
      refine hva.out.mono ?_
      rintro e w2 ⟨rfl, hb20⟩
      have kb2 := hid (kb0.out.below_all hb20)
      have hB2 := hid (hB0.out.trans (hb20.mono hB0.out.size))
      have hbb2 := hid hb20
      clear hb20 hva hx0 hx1 hx2 hfz hlz kb0 hB0
      have x0 := kb2.out.cell 0
      have x1 := kb2.out.cell 1
      have x2 := kb2.out.cell 2
      simp only [List.getElem?_toArray, List.getElem?_cons_zero, List.getElem?_cons_succ] at x0 x1 x2
      have fz := fun q => kb2.out.frozen q
      have hlt := kb2.out.lt
      go_wp2_with fail
      refine (rDigits_any v.n hrr.out.1 hrr.out.2 w2).mono ?_
      rintro e w3 ⟨rfl, hwq⟩
      obtain rfl := hwq.symm
      clear x0 x1 x2 fz hlt
      go_wp2_with fail
      refine bodyPost_ret (v := .tuple #[.string ⟨(Lib.itoa v.n).toArray⟩, .int .i64 0]) (by simp [results, Tryd.results29, go_sem]) rfl ⟨?_, hB2.out⟩
      rw [hfin.out, hpe.out]
    · have hfin : Hid (printL v = 34 :: (escL v.s.data.toList ++ [34])) := hid (lit_text hok h1)
      have hs64 := hid h3
      have hs9 : (v.s.size : Int) ≤ 64 := by omega
      have f0 : (v.k == 1) = false := by rw [h1]; rfl
      have f1 : (v.k == 0) = false := by rw [h1]; rfl
      clear hok hs hr hpl h3 h4 h1 h2
      go_enter Tryd.func29, Tryd.ntmps29
      go_upto_region 1 with fail
      rw [← hW]
      clear hW
      go_wp2_with fail
      refine hva.out.mono ?_
      rintro e w2 ⟨rfl, hb20⟩
      have kb2 := hid (kb0.out.below_all hb20)
      have hB2 := hid (hB0.out.trans (hb20.mono hB0.out.size))
      have hbb2 := hid hb20
      clear hb20 hva hx0 hx1 hx2 hfz hlz kb0 hB0
      have x0 := kb2.out.cell 0
      have x1 := kb2.out.cell 1
      have x2 := kb2.out.cell 2
      simp only [List.getElem?_toArray, List.getElem?_cons_zero, List.getElem?_cons_succ] at x0 x1 x2
      have fz := fun q => kb2.out.frozen q
      have hlt := kb2.out.lt
      go_wp2_with fail
      go_loopw [4, 5] (fun v4 v5 wr => ∃ (k : Nat) (t : ByteArray), v4 = .string t ∧ v5 = .int .i64 k ∧ k ≤ v.s.size ∧ t.size ≤ 1 + 2 * k ∧ wr = w2 ∧ t.data.toList = 34 :: escL (v.s.data.toList.take k)) (fun _ v5 _ => v.s.size - (intOf v5).toNat)
      case atStart => exact ⟨0, ⟨#[34]⟩, rfl, rfl, Nat.zero_le _, by decide, rfl, rfl⟩
      case round =>
        obtain ⟨k, t, rfl, rfl, hks, hL0, hwr, hR0⟩ := hrel
        obtain rfl := hwr.symm
        have hL := hid hL0; have hR := hid hR0
        have hL9 : (t.size : Int) ≤ 200 := by have := hs64.out; omega
        clear hL0 hR0
        by_cases hlt2 : k < v.s.size
        · have i1 : (k : Int) < (v.s.size : Int) := by omega
          have hst := esc_step hlt2
          have hx := ext_one hlt2
          have hxs : ((v.s.extract k (k + 1)).size : Int) = 1 := by rw [← lst_len, hx]; rfl
          by_cases hq : v.s.data[k]'hlt2 = 34 ∨ v.s.data[k]'hlt2 = 92
          · rw [if_pos hq] at hst
            have hR2 : Hid ((t ++ ⟨#[92]⟩ ++ v.s.extract k (k + 1)).data.toList = 34 :: escL (v.s.data.toList.take (k + 1))) := hid (by
              rw [hst, lst_app, lst_app, hx, hR.out]; simp)
            have hz2 : Hid ((t ++ ⟨#[92]⟩ ++ v.s.extract k (k + 1)).size ≤ 1 + 2 * (k + 1)) := hid (by
              rw [← lst_len, lst_app, lst_app, hx]; simp [lst_len]; have := hL.out; omega)
            have hcase : Hid (((v.s[k]'hlt2).toNat = 34) ∨ ((v.s[k]'hlt2).toNat ≠ 34 ∧ (v.s[k]'hlt2).toNat = 92)) := hid (by
              by_cases h34 : v.s.data[k]'hlt2 = 34
              · exact .inl (byte_eq (hk := hlt2) h34)
              · exact .inr ⟨byte_ne (hk := hlt2) h34, byte_eq (hk := hlt2) (hq.resolve_left h34)⟩)
            clear hq hst hx
            rcases hcase.out with hc | ⟨hc0, hc⟩
            · have b1 : (((v.s[k]'hlt2).toNat : Int) == 34) = true := by rw [hc]; rfl
              have b2 : (((v.s[k]'hlt2).toNat : Int) == 92) = false := by rw [hc]; rfl
              skip
              go_wp2_with fail
              refine ⟨⟨k + 1, t ++ ⟨#[92]⟩ ++ v.s.extract k (k + 1), by first | rfl | simp, by first | rfl | simp, by omega, hz2.out, by first | rfl | trivial, hR2.out⟩, ?_⟩
              simp [intOf]
              omega
            · have b1 : (((v.s[k]'hlt2).toNat : Int) == 34) = false := by rw [hc]; rfl
              have b2 : (((v.s[k]'hlt2).toNat : Int) == 92) = true := by rw [hc]; rfl
              clear hc0
              go_wp2_with fail
              refine ⟨⟨k + 1, t ++ ⟨#[92]⟩ ++ v.s.extract k (k + 1), by first | rfl | simp, by first | rfl | simp, by omega, hz2.out, by first | rfl | trivial, hR2.out⟩, ?_⟩
              simp [intOf]
              omega
          · rw [if_neg hq] at hst
            have c34 : (v.s[k]'hlt2).toNat ≠ 34 := byte_ne (hk := hlt2) fun e => hq (.inl e)
            have c92 : (v.s[k]'hlt2).toNat ≠ 92 := byte_ne (hk := hlt2) fun e => hq (.inr e)
            have b1 : (((v.s[k]'hlt2).toNat : Int) == 34) = false := by simp; omega
            have b2 : (((v.s[k]'hlt2).toNat : Int) == 92) = false := by simp; omega
            have hR2 : Hid ((t ++ v.s.extract k (k + 1)).data.toList = 34 :: escL (v.s.data.toList.take (k + 1))) := hid (by
              rw [hst, lst_app, hx, hR.out]; simp)
            have hz2 : Hid ((t ++ v.s.extract k (k + 1)).size ≤ 1 + 2 * (k + 1)) := hid (by
              rw [← lst_len, lst_app, hx]; simp [lst_len]; have := hL.out; omega)
            clear hst hq c34 c92 hx
            go_wp2_with fail
            refine ⟨⟨k + 1, t ++ v.s.extract k (k + 1), by first | rfl | simp, by first | rfl | simp, by omega, hz2.out, by first | rfl | trivial, hR2.out⟩, ?_⟩
            simp [intOf]
            omega
        · have i1 : ¬ ((k : Int) < (v.s.size : Int)) := by omega
          have hR2 : Hid ((t ++ (⟨#[34]⟩ : ByteArray)) = ⟨(printL v).toArray⟩) := hid (by
            apply ByteArray.ext
            apply Array.ext'
            rw [lst_app, hfin.out, hR.out, take_all (by omega)]; rfl)
          clear hlt2
          go_wp2_with fail
          refine bodyPost_ret (v := .tuple #[.string (t ++ (⟨#[34]⟩ : ByteArray)), .int .i64 0]) (by simp [results, Tryd.results29, go_sem]) rfl ⟨?_, hB2.out⟩
          rw [hR2.out, hpe.out]

end Go.Proofs.YtbnpidmlcjofiaaDoor

namespace Go.Proofs.YtbnpidmlcjofiaaDoor
open Go.RowKit Go.Deep Go.ChangeShapes
set_option linter.unusedVariables false
set_option linter.unusedSimpArgs false
set_option maxRecDepth 10000

theorem list3 {α : Type} {l : List α} (h : l.length = 3) : ∃ a b c, l = [a, b, c] := by
  match l, h with
  | [a, b, c], _ => exact ⟨a, b, c, rfl⟩
theorem list2 {α : Type} {l : List α} (h : l.length = 2) : ∃ a b, l = [a, b] := by
  match l, h with
  | [a, b], _ => exact ⟨a, b, rfl⟩
def big : Nat := 140737488351232
def WB (l : List Nat) : Prop := ∀ n ∈ l, n ≤ big
theorem WB.app {l m : List Nat} (h : WB (l ++ m)) : WB l ∧ WB m := ⟨fun n hn => h n (List.mem_append_left _ hn), fun n hn => h n (List.mem_append_right _ hn)⟩
theorem WB.cons {a : Nat} {m : List Nat} (h : WB (a :: m)) : a ≤ big ∧ WB m := ⟨h a List.mem_cons_self, fun n hn => h n (List.mem_cons_of_mem _ hn)⟩
theorem WB.of_all {l : List Nat} (h : l.all (· ≤ reachBytes) = true) : WB l := fun n hn => by
  exact (of_decide_eq_true (List.all_eq_true.1 h n hn) : n ≤ reachBytes)
theorem cell_lt {w : World} {a : Addr} {v : Value} (h : w.cell? a = some v) : a.block < w.heap.size := by
  by_cases hl : a.block < w.heap.size
  · exact hl
  · exfalso
    have : w.heap[a.block]? = none := by simp; omega
    unfold World.cell? at h
    split at h <;> simp_all
theorem add_plain (b o j : Nat) : (⟨b, o, none⟩ : Addr).add j = ⟨b, o + j, none⟩ := by
  unfold Addr.add; split <;> simp_all
theorem pickS {α : Type} (R : Nat → α → Prop) : ∀ len : Nat, (∀ i, i < len → ∃ a, R i a) → ∃ us : List α, us.length = len ∧ ∀ i (h : i < us.length), R i us[i] := by
  intro len
  induction len with
  | zero => intro _; exact ⟨[], rfl, fun i h => absurd h (by simp)⟩
  | succ n ih =>
    intro h
    obtain ⟨us, hl, hR⟩ := ih fun i hi => h i (by omega)
    obtain ⟨a, ha⟩ := h n (by omega)
    refine ⟨us ++ [a], by simp [hl], fun i hi => ?_⟩
    by_cases hin : i < us.length
    · rw [List.getElem_append_left hin]; exact hR i hin
    · have : i = us.length := by simp at hi; omega
      subst this
      rw [List.getElem_append_right (by omega)]
      simpa [hl] using ha
theorem weightsAll_mem {H : Type} {P : Program} {e : TypeId} {d : DataW H} : ∀ {l : List (DataW H)}, d ∈ l → ∀ n ∈ d.weights P e, n ∈ DataW.weightsAll P e l := by
  intro l
  induction l with
  | nil => intro h; cases h
  | cons x l ih =>
    intro h n hn
    simp only [DataW.weightsAll, List.mem_append]
    rcases List.mem_cons.1 h with rfl | h
    · exact .inl hn
    · exact .inr (ih h n hn)
/-- a slice's cells, element by element; no part is greater than a machine can hold -/
theorem open_rowsS {α H : Type} {enc : TypeId × Value → H} {w : World} {base : Nat} {spare : Nat → Bool} {held : Bool} {t e : TypeId} {fuel : Nat} {cs : List Value} {x : DataW H × List MemPlace}
    (cf : α → List Value) (ok : α → Prop) (sz : Nat) (hsz : 0 < sz) (hcf : ∀ a, (cf a).length = sz) (ht : Tryd.prog.underlying t = some (.slice e)) (hce : Tryd.prog.cellsOf e = sz)
    (hE : ∀ n cs' y, DataW.trod enc Tryd.prog w base spare held n e cs' = some y → WB (y.1.weights Tryd.prog e) → ∃ a, cs' = cf a ∧ ok a)
    (h : DataW.trod enc Tryd.prog w base spare held fuel t cs = some x) (hw : WB (x.1.weights Tryd.prog t)) :
    ∃ (A : Option Addr) (us : List α) (c : Nat), cs = [.slice A us.length c] ∧ Rd (fun b => b < w.heap.size) w sz A us.length (us.flatMap cf) ∧ (∀ a ∈ us, ok a) ∧ us.length * Tryd.prog.bytesOf e ≤ big := by
  rcases open_slice ht h with ⟨rfl, rfl⟩ | ⟨a, len, cap, m, n, D, Pl, rfl, hb, hl, hm, hmm, rfl, hx⟩
  · exact ⟨none, [], 0, rfl, Rd.nil_, by simp, by simp⟩
  · have hlm : len ≤ m := by rw [hmm]; split <;> omega
    simp only [DataW.weights, ht] at hw
    obtain ⟨hw1, hw2⟩ := hw.cons
    obtain ⟨hw3, _⟩ := hw2.app
    obtain ⟨us, hal, hR⟩ := pickS (fun i r => ok r ∧ ∃ cs', cs' = cf r ∧ w.cells? base (a.add (i * sz)) sz = some cs') len (fun i hi => by
      obtain ⟨cs', h1, h2⟩ := hx i (by omega)
      rw [hce] at h1
      obtain ⟨r, e1, e2⟩ := hE _ _ _ h2 (fun u hu => hw3 u (weightsAll_mem (List.mem_map.2 ⟨i, List.mem_range.2 hi, rfl⟩) u hu))
      exact ⟨r, e2, cs', e1, h1⟩)
    refine ⟨some a, us, cap, by rw [hal], ⟨?_, fun h0 => ?_⟩, fun r hr => ?_, ?_⟩
    · exact flat_length cf sz hcf us
    · obtain ⟨_, cs0, e1, e2⟩ := hR 0 h0
      obtain ⟨_, h3, h4⟩ := World.cells?_some e2
      have h5 := h4 0 hsz
      rw [List.getElem?_eq_getElem (by omega)] at h5
      simp at h5
      obtain ⟨b, o, sp⟩ := a
      have h8 : sp = none := by have := World.cell?_spot h5; simpa [Addr.add] using this
      have h9 : b < w.heap.size := by have := cell_lt h5; simpa [Addr.add] using this
      subst h8
      refine ⟨b, o, rfl, h9, h9, fun j u hu => ?_⟩
      have hj : j / sz < us.length := by
        have h1 := (List.getElem?_eq_some_iff.1 hu).1
        rw [flat_length cf sz hcf] at h1
        exact Nat.div_lt_of_lt_mul (by rw [Nat.mul_comm]; exact h1)
      have hjm := Nat.mod_lt j hsz
      have hdm : j / sz * sz + j % sz = j := by rw [Nat.mul_comm]; exact Nat.div_add_mod j sz
      obtain ⟨_, cs1, f1, f2⟩ := hR _ hj
      obtain ⟨_, f3, f4⟩ := World.cells?_some f2
      have f5 := f4 _ hjm
      rw [add_plain, add_plain, Nat.add_assoc, hdm] at f5
      rw [← hdm, flat_at cf sz hcf us _ _ hj hjm, ← f1, ← f5] at hu
      exact hu
    · obtain ⟨i, hi, rfl⟩ := List.mem_iff_getElem.1 hr
      exact (hR i hi).1
    · simp only [List.length_map, List.length_range] at hw1
      rw [hal]
      exact Nat.le_trans (Nat.mul_le_mul_right _ (Nat.le_add_right _ _)) hw1
section
variable {H : Type} {enc : TypeId × Value → H} {w : World} {base : Nat} {spare : Nat → Bool} {held : Bool} {fuel : Nat} {cs : List Value} {x : DataW H × List MemPlace}
theorem fieldAt {fs : Array Field} {xs : List (DataW H × List MemPlace)} {n : Nat} (hf : ∀ (i : Nat) (f : Field), fs[i]? = some f → DataW.trod enc Tryd.prog w base spare held n f.type ((cs.drop f.offset).take (Tryd.prog.cellsOf f.type)) = xs[i]?) (i : Nat) {f : Field} (T : TypeId) (o k : Nat) {y : DataW H × List MemPlace}
    (hi : fs[i]? = some f) (hT : f.type = T) (ho : f.offset = o) (hc : Tryd.prog.cellsOf T = k) (hx : xs[i]? = some y) : DataW.trod enc Tryd.prog w base spare held n T ((cs.drop o).take k) = some y := by
  have := hf i f hi
  rw [hT, ho, hc, hx] at this
  exact this
theorem cof_int : Tryd.prog.cellsOf 3 = 1 := by kernel_rfl
theorem cof_i64 : Tryd.prog.cellsOf 2 = 1 := by kernel_rfl
theorem cof_str : Tryd.prog.cellsOf 9 = 1 := by kernel_rfl
theorem cof_val : Tryd.prog.cellsOf 24 = 3 := by kernel_rfl
theorem cof_vals : Tryd.prog.cellsOf 68 = 1 := by kernel_rfl
theorem byt_val : Tryd.prog.bytesOf 24 = 32 := by kernel_rfl
theorem wf_i64 {n : Int} (h : (Lit.int .i64 n).wf = true) : -9223372036854775808 ≤ n ∧ n ≤ 9223372036854775807 := by
  simpa [Lit.wf, IntKind.min, IntKind.max, IntKind.bits, IntKind.signed] using h
theorem str_len (s : ByteArray) : s.data.toList.length = s.size := by rw [Array.length_toList]; rfl
theorem open_vl (h : DataW.trod enc Tryd.prog w base spare held fuel 24 cs = some x) (hw : WB (x.1.weights Tryd.prog 24)) : ∃ v : Vl, cs = v.cells ∧ v.rng ∧ v.s.size ≤ big := by
  obtain ⟨xs, n, _, rfl, hl, hlen, hf⟩ := DataW.trod_struct Tryd.underlying24 h
  rw [cof_val] at hl
  obtain ⟨c0, c1, c2, rfl⟩ := list3 hl
  obtain ⟨y0, y1, y2, rfl⟩ := list3 hlen
  have h0 := fieldAt hf 0 3 0 1 (y := y0) rfl rfl rfl cof_int rfl
  have h1 := fieldAt hf 1 2 1 1 (y := y1) rfl rfl rfl cof_i64 rfl
  have h2 := fieldAt hf 2 9 2 1 (y := y2) rfl rfl rfl cof_str rfl
  obtain ⟨k, e0, r0, _⟩ := DataW.trod_int Tryd.underlying3 (x := y0) h0
  obtain ⟨i, e1, r1, w1⟩ := DataW.trod_int Tryd.underlying2 (x := y1) h1
  obtain ⟨s, e2, r2, _⟩ := DataW.trod_string Tryd.underlying9 (x := y2) h2
  simp at e0 e1 e2
  subst e0 e1 e2 r0 r1 r2
  refine ⟨⟨k, i, s⟩, rfl, wf_i64 w1, ?_⟩
  have := hw s.data.toList.length (by simp [DataW.weights, DataW.weightsEach, Tryd.underlying24])
  rw [str_len] at this
  exact this
end
end Go.Proofs.YtbnpidmlcjofiaaDoor

namespace Go.Proofs.YtbnpidmlcjofiaaDoor
open Go.RowKit
set_option linter.unusedVariables false
set_option linter.unusedSimpArgs false

set_option maxRecDepth 100000 in
set_option maxHeartbeats 1000000 in
theorem rtake_any {S : Nat → Prop} {w : World} {g : Nat} {A : Option Addr} {c : Nat} {r : Rr} (h : RrIn S w g A c r) : Calls Tryd.prog 21 #[.pointer (some ⟨g, 0, none⟩)] w fun e w' => e = .returned (.agg #[.int .i64 r.take.1.k, .int .i64 r.take.1.n, .string r.take.1.s]) ∧ Upd (fun k => k = g) w w' ∧ RrIn S w' g A c r.take.2 := by
  have hne := hid h.ne
  have hgb := hid h.blk.lt
  have hb := h.bound
  have hB1 : Below w.heap.size w (w.alloc (.cells #[.int .i64 0, .int .i64 0, .string ⟨#[]⟩] 24)) := (Below.refl _ _).alloc (Nat.le_refl _) _
  have hr1 := hid (hb.below_all hB1)
  have kz := hid (Blk.new w 24 #[.int .i64 0, .int .i64 0, .string ⟨#[]⟩])
  have hu1 := hid (Upd.of_below' hB1 fun k => k = g)
  clear h hb hB1
  go_enter Tryd.func21, Tryd.ntmps21
  go_upto_region 1 with fail
  generalize w.alloc (.cells #[.int .i64 0, .int .i64 0, .string ⟨#[]⟩] 24) = w1 at *
  go_wp2_with fail
  refine (rbyte_any hr1.out).mono ?_
  rintro e w2 ⟨rfl, hu0, hr0⟩
  have kz2 := hid (kz.out.upd hu0 (by have := hgb.out; omega))
  have hr2 := hid hr0
  have hu2 := hid (hu1.out.trans hu0 fun _ _ h => h)
  clear hu0 hr0
  obtain ⟨q, r1, hq⟩ : ∃ q r1, r.byte = (q, r1) := ⟨_, _, rfl⟩
  have hbad := hid (show r1.e ≠ 0 → q = 0 from fun h => by have := Rr.byte_bad (r := r); rw [hq] at this; exact this h)
  rw [hq] at hr2
  simp only at hr2
  have hq8 := hid hq
  rw [hq]
  simp only
  go_upto_region 3 with fail
  have ht3 : Hid (TK 45 (fun k => S k ∧ k < w.heap.size) w (w2.alloc (.cells #[.int .i64 0, .int .i64 0, .string ⟨#[]⟩] 24)) g A c r1 w2.heap.size vl0 vl0) := hid ⟨hr2.out.below_all ((Below.refl _ _).alloc (Nat.le_refl _) _), fun k hk => hk.2, hgb.out, kz2.out.alloc _, Blk.new _ _ _, kz2.out.lt, hu2.out.alloc _⟩
  clear hq hr1 kz hu1 kz2 hr2 hu2
  generalize w2.alloc (.cells #[.int .i64 0, .int .i64 0, .string ⟨#[]⟩] 24) = w3 at *
  generalize w2.heap.size = y at *
  obtain ⟨e3, z0, z1, z2, y0, y1, y2, fz, fy, hlz, hly⟩ := ht3.out.cells
  have z0 : w3.cell? ⟨w.heap.size, 0, none⟩ = some (.int .i64 0) := z0
  have z1 : w3.cell? ⟨w.heap.size, 1, none⟩ = some (.int .i64 0) := z1
  have z2 : w3.cell? ⟨w.heap.size, 2, none⟩ = some (.string ⟨#[]⟩) := z2
  have y0 : w3.cell? ⟨y, 0, none⟩ = some (.int .i64 0) := y0
  have y1 : w3.cell? ⟨y, 1, none⟩ = some (.int .i64 0) := y1
  have y2 : w3.cell? ⟨y, 2, none⟩ = some (.string ⟨#[]⟩) := y2
  by_cases h0 : q = 0
  · have t0 : ((q : Int) == 0) = true := by simp [h0]
    have h0h := hid h0
    clear h0
    go_upto_region 12 with fail
    clear e3 z0 z1 z2 y0 y1 y2 fz fy hlz hly
    obtain ⟨e3, z0, z1, z2, y0, y1, y2, fz, fy, hlz, hly⟩ := ht3.out.cells
    have z0 : w3.cell? ⟨w.heap.size, 0, none⟩ = some (.int .i64 0) := z0
    have z1 : w3.cell? ⟨w.heap.size, 1, none⟩ = some (.int .i64 0) := z1
    have z2 : w3.cell? ⟨w.heap.size, 2, none⟩ = some (.string ⟨#[]⟩) := z2
    have y0 : w3.cell? ⟨y, 0, none⟩ = some (.int .i64 0) := y0
    have y1 : w3.cell? ⟨y, 1, none⟩ = some (.int .i64 0) := y1
    have y2 : w3.cell? ⟨y, 2, none⟩ = some (.string ⟨#[]⟩) := y2
    obtain ⟨re, hre⟩ : ∃ re, re = (r1).e := ⟨_, rfl⟩
    rw [← hre] at e3
    by_cases hee : re = 0
    · have te : (re != 0) = false := by simpa [hre] using hee
      have hfin : Hid (r.take = (vl0, r1)) := hid (by rw [hre] at hee; unfold Rr.take; rw [hq8.out]; simp [h0h.out])
      clear hee hre
      go_wp2_with fail
      have hT := ht3.out.putZ vl0
      refine bodyPost_ret (v := .agg #[.int .i64 0, .int .i64 0, .string ⟨#[]⟩]) ?_ rfl ⟨by first | (rw [hfin.out]; done) | (rw [hfin.out]; rfl), hT.up, by rw [hfin.out]; exact hT.rd.unbound hne.out⟩
      exact results_cell_row (P := Tryd.prog) rfl _ _ w.heap.size 24 _ (0, 0) _ rfl hT.zv Tryd.underlying24 rfl (by kernel_rfl)
    · have te : (re != 0) = true := by simpa [hre] using hee
      have hfin : Hid (r.take = (vl0, r1)) := hid (by rw [hre] at hee; unfold Rr.take; rw [hq8.out]; simp [h0h.out])
      clear hee hre
      go_wp2_with fail
      have hT := ht3.out.putZ vl0
      refine bodyPost_ret (v := .agg #[.int .i64 0, .int .i64 0, .string ⟨#[]⟩]) ?_ rfl ⟨by first | (rw [hfin.out]; done) | (rw [hfin.out]; rfl), hT.up, by rw [hfin.out]; exact hT.rd.unbound hne.out⟩
      exact results_cell_row (P := Tryd.prog) rfl _ _ w.heap.size 24 _ (0, 0) _ rfl hT.zv Tryd.underlying24 rfl (by kernel_rfl)
  · have t0 : ((q : Int) == 0) = false := by simp; omega
    by_cases h1 : q = 1
    · have t1 : ((q : Int) == 1) = true := by simp [h1]
      have h1h := hid h1
      clear h0 h1
      obtain ⟨n, r2, hi⟩ : ∃ n r2, r1.int = (n, r2) := ⟨_, _, rfl⟩
      have hih := hid hi
      go_wp2_with fail
      refine (rint_any ht3.out.rd).mono ?_
      rw [hi]
      rintro e w4 ⟨rfl, hu0, hr0⟩
      have ht4 := hid (ht3.out.call hu0 hr0)
      clear e3 z0 z1 z2 y0 y1 y2 fz fy hlz hly
      clear hu0 hr0 hi
      go_wp2_with fail
      refine (rof_any n w4).mono ?_
      rintro e w5 ⟨rfl, hb0⟩
      have ht5 := hid (ht4.out.below hb0)
      clear hb0
      obtain ⟨e3, z0, z1, z2, y0, y1, y2, fz, fy, hlz, hly⟩ := ht5.out.cells
      have z0 : w5.cell? ⟨w.heap.size, 0, none⟩ = some (.int .i64 0) := z0
      have z1 : w5.cell? ⟨w.heap.size, 1, none⟩ = some (.int .i64 0) := z1
      have z2 : w5.cell? ⟨w.heap.size, 2, none⟩ = some (.string ⟨#[]⟩) := z2
      have y0 : w5.cell? ⟨y, 0, none⟩ = some (.int .i64 0) := y0
      have y1 : w5.cell? ⟨y, 1, none⟩ = some (.int .i64 0) := y1
      have y2 : w5.cell? ⟨y, 2, none⟩ = some (.string ⟨#[]⟩) := y2
      go_upto_region 12 with fail
      have ht6 := hid (ht5.out.putY (⟨1, n, ⟨#[]⟩⟩ : Vl))
      generalize ((w5.setCell ⟨y, 0, none⟩ (.int .i64 1)).setCell ⟨y, 1, none⟩ (.int .i64 n)).setCell ⟨y, 2, none⟩ (.string ⟨#[]⟩) = w6 at *
      obtain ⟨e3, z0, z1, z2, y0, y1, y2, fz, fy, hlz, hly⟩ := ht6.out.cells
      have z0 : w6.cell? ⟨w.heap.size, 0, none⟩ = some (.int .i64 0) := z0
      have z1 : w6.cell? ⟨w.heap.size, 1, none⟩ = some (.int .i64 0) := z1
      have z2 : w6.cell? ⟨w.heap.size, 2, none⟩ = some (.string ⟨#[]⟩) := z2
      have y0 : w6.cell? ⟨y, 0, none⟩ = some (.int .i64 1) := y0
      have y1 : w6.cell? ⟨y, 1, none⟩ = some (.int .i64 n) := y1
      have y2 : w6.cell? ⟨y, 2, none⟩ = some (.string ⟨#[]⟩) := y2
      clear e3 z0 z1 z2 y0 y1 y2 fz fy hlz hly
      obtain ⟨e3, z0, z1, z2, y0, y1, y2, fz, fy, hlz, hly⟩ := ht6.out.cells
      have z0 : w6.cell? ⟨w.heap.size, 0, none⟩ = some (.int .i64 0) := z0
      have z1 : w6.cell? ⟨w.heap.size, 1, none⟩ = some (.int .i64 0) := z1
      have z2 : w6.cell? ⟨w.heap.size, 2, none⟩ = some (.string ⟨#[]⟩) := z2
      have y0 : w6.cell? ⟨y, 0, none⟩ = some (.int .i64 1) := y0
      have y1 : w6.cell? ⟨y, 1, none⟩ = some (.int .i64 n) := y1
      have y2 : w6.cell? ⟨y, 2, none⟩ = some (.string ⟨#[]⟩) := y2
      obtain ⟨re, hre⟩ : ∃ re, re = (r2).e := ⟨_, rfl⟩
      rw [← hre] at e3
      by_cases hee : re = 0
      · have te : (re != 0) = false := by simpa [hre] using hee
        have hfin : Hid (r.take = ((⟨1, n, ⟨#[]⟩⟩ : Vl), r2)) := hid (by rw [hre] at hee; unfold Rr.take; rw [hq8.out]; simp [h1h.out, hih.out, hee])
        clear hee hre
        go_wp2_with fail
        have hT := ht6.out.putZ (⟨1, n, ⟨#[]⟩⟩ : Vl)
        refine bodyPost_ret (v := .agg #[.int .i64 1, .int .i64 n, .string ⟨#[]⟩]) ?_ rfl ⟨by first | (rw [hfin.out]; done) | (rw [hfin.out]; rfl), hT.up, by rw [hfin.out]; exact hT.rd.unbound hne.out⟩
        exact results_cell_row (P := Tryd.prog) rfl _ _ w.heap.size 24 _ (0, 0) _ rfl hT.zv Tryd.underlying24 rfl (by kernel_rfl)
      · have te : (re != 0) = true := by simpa [hre] using hee
        have hfin : Hid (r.take = (vl0, r2)) := hid (by rw [hre] at hee; unfold Rr.take; rw [hq8.out]; simp [h1h.out, hih.out, hee])
        clear hee hre
        go_wp2_with fail
        have hT := ht6.out.putZ vl0
        refine bodyPost_ret (v := .agg #[.int .i64 0, .int .i64 0, .string ⟨#[]⟩]) ?_ rfl ⟨by first | (rw [hfin.out]; done) | (rw [hfin.out]; rfl), hT.up, by rw [hfin.out]; exact hT.rd.unbound hne.out⟩
        exact results_cell_row (P := Tryd.prog) rfl _ _ w.heap.size 24 _ (0, 0) _ rfl hT.zv Tryd.underlying24 rfl (by kernel_rfl)
    · have t1 : ((q : Int) == 1) = false := by simp; omega
      by_cases h2 : q = 2
      · have t2 : ((q : Int) == 2) = true := by simp [h2]
        have h2h := hid h2
        clear h0 h1 h2
        obtain ⟨s, r2, hi⟩ : ∃ s r2, r1.text 64 = (s, r2) := ⟨_, _, rfl⟩
        have hih := hid hi
        have hsz : Hid (s.size ≤ 64) := hid (by have := r1.text_le 64; rw [show ((64 : Nat) : Int) = 64 from rfl, hi] at this; exact this)
        have hsb : Hid (r2.e ≠ 0 → s = ⟨#[]⟩) := hid (fun h => by have := Rr.text_bad (r := r1) (most := 64); rw [hi] at this; exact this h)
        go_wp2_with fail
        refine (rtext_any ht3.out.rd 64 (by decide)).mono ?_
        rw [hi]
        rintro e w4 ⟨rfl, hu0, hr0⟩
        have ht4 := hid (ht3.out.call hu0 hr0)
        clear e3 z0 z1 z2 y0 y1 y2 fz fy hlz hly
        clear hu0 hr0 hi
        go_wp2_with fail
        refine (rword2_any s w4).mono ?_
        rintro e w5 ⟨rfl, hb0⟩
        have ht5 := hid (ht4.out.below hb0)
        clear hb0
        obtain ⟨e3, z0, z1, z2, y0, y1, y2, fz, fy, hlz, hly⟩ := ht5.out.cells
        have z0 : w5.cell? ⟨w.heap.size, 0, none⟩ = some (.int .i64 0) := z0
        have z1 : w5.cell? ⟨w.heap.size, 1, none⟩ = some (.int .i64 0) := z1
        have z2 : w5.cell? ⟨w.heap.size, 2, none⟩ = some (.string ⟨#[]⟩) := z2
        have y0 : w5.cell? ⟨y, 0, none⟩ = some (.int .i64 0) := y0
        have y1 : w5.cell? ⟨y, 1, none⟩ = some (.int .i64 0) := y1
        have y2 : w5.cell? ⟨y, 2, none⟩ = some (.string ⟨#[]⟩) := y2
        go_upto_region 10 with fail
        have ht6 := hid (ht5.out.putY (⟨2, 0, s⟩ : Vl))
        generalize ((w5.setCell ⟨y, 0, none⟩ (.int .i64 2)).setCell ⟨y, 1, none⟩ (.int .i64 0)).setCell ⟨y, 2, none⟩ (.string s) = w6 at *
        clear e3 z0 z1 z2 y0 y1 y2 fz fy hlz hly
        obtain ⟨e3, z0, z1, z2, y0, y1, y2, fz, fy, hlz, hly⟩ := ht6.out.cells
        have z0 : w6.cell? ⟨w.heap.size, 0, none⟩ = some (.int .i64 0) := z0
        have z1 : w6.cell? ⟨w.heap.size, 1, none⟩ = some (.int .i64 0) := z1
        have z2 : w6.cell? ⟨w.heap.size, 2, none⟩ = some (.string ⟨#[]⟩) := z2
        have y0 : w6.cell? ⟨y, 0, none⟩ = some (.int .i64 2) := y0
        have y1 : w6.cell? ⟨y, 1, none⟩ = some (.int .i64 0) := y1
        have y2 : w6.cell? ⟨y, 2, none⟩ = some (.string s) := y2
        have hg2 := hid ht6.out.gb
        obtain ⟨re, hre⟩ : ∃ re, re = r2.e := ⟨_, rfl⟩
        rw [← hre] at e3
        have hrh := hid hre
        clear hre
        by_cases he0 : re = 0
        · have te : (re == 0) = true := by simpa using he0
          have he0h := hid he0
          clear he0
          have hva := hid (rvalid_any ⟨2, 0, s⟩ w6 (by have := hsz.out; show s.size ≤ _; omega))
          go_wp2_with fail
          refine hva.out.mono ?_
          rintro e w7 ⟨rfl, hb0⟩
          have ht7 := hid (ht6.out.below hb0)
          clear hb0
          clear e3 z0 z1 z2 y0 y1 y2 fz fy hlz hly
          have hok : Vl.ok ⟨2, 0, s⟩ = okT s := by unfold Vl.ok; have := hsz.out; simp; omega
          rw [hok]
          clear hok
          by_cases hk : okT s = true
          · have hkh := hid hk
            rw [hk]
            clear hk hva
            obtain ⟨e3, z0, z1, z2, y0, y1, y2, fz, fy, hlz, hly⟩ := ht7.out.cells
            have z0 : w7.cell? ⟨w.heap.size, 0, none⟩ = some (.int .i64 0) := z0
            have z1 : w7.cell? ⟨w.heap.size, 1, none⟩ = some (.int .i64 0) := z1
            have z2 : w7.cell? ⟨w.heap.size, 2, none⟩ = some (.string ⟨#[]⟩) := z2
            have y0 : w7.cell? ⟨y, 0, none⟩ = some (.int .i64 2) := y0
            have y1 : w7.cell? ⟨y, 1, none⟩ = some (.int .i64 0) := y1
            have y2 : w7.cell? ⟨y, 2, none⟩ = some (.string s) := y2
            go_upto_region 12 with fail
            clear e3 z0 z1 z2 y0 y1 y2 fz fy hlz hly
            obtain ⟨e3, z0, z1, z2, y0, y1, y2, fz, fy, hlz, hly⟩ := ht7.out.cells
            have z0 : w7.cell? ⟨w.heap.size, 0, none⟩ = some (.int .i64 0) := z0
            have z1 : w7.cell? ⟨w.heap.size, 1, none⟩ = some (.int .i64 0) := z1
            have z2 : w7.cell? ⟨w.heap.size, 2, none⟩ = some (.string ⟨#[]⟩) := z2
            have y0 : w7.cell? ⟨y, 0, none⟩ = some (.int .i64 2) := y0
            have y1 : w7.cell? ⟨y, 1, none⟩ = some (.int .i64 0) := y1
            have y2 : w7.cell? ⟨y, 2, none⟩ = some (.string s) := y2
            obtain ⟨re, hre⟩ : ∃ re, re = (r2).e := ⟨_, rfl⟩
            rw [← hre] at e3
            by_cases hee : re = 0
            · have te : (re != 0) = false := by simpa [hre] using hee
              have hfin : Hid (r.take = ((⟨2, 0, s⟩ : Vl), r2)) := hid (by rw [hre] at hee; unfold Rr.take; rw [hq8.out]; simp [h2h.out, hih.out, hkh.out, hee])
              clear hee hre
              go_wp2_with fail
              have hT := ht7.out.putZ (⟨2, 0, s⟩ : Vl)
              refine bodyPost_ret (v := .agg #[.int .i64 2, .int .i64 0, .string s]) ?_ rfl ⟨by first | (rw [hfin.out]; done) | (rw [hfin.out]; rfl), hT.up, by rw [hfin.out]; exact hT.rd.unbound hne.out⟩
              exact results_cell_row (P := Tryd.prog) rfl _ _ w.heap.size 24 _ (0, 0) _ rfl hT.zv Tryd.underlying24 rfl (by kernel_rfl)
            · have te : (re != 0) = true := by simpa [hre] using hee
              have hfin : Hid (r.take = (vl0, r2)) := hid (by rw [hre] at hee; exfalso; have := he0h.out; have := hrh.out; omega)
              clear hee hre
              go_wp2_with fail
              have hT := ht7.out.putZ vl0
              refine bodyPost_ret (v := .agg #[.int .i64 0, .int .i64 0, .string ⟨#[]⟩]) ?_ rfl ⟨by first | (rw [hfin.out]; done) | (rw [hfin.out]; rfl), hT.up, by rw [hfin.out]; exact hT.rd.unbound hne.out⟩
              exact results_cell_row (P := Tryd.prog) rfl _ _ w.heap.size 24 _ (0, 0) _ rfl hT.zv Tryd.underlying24 rfl (by kernel_rfl)
          · have hk0 : okT s = false := by simpa using hk
            have hkh := hid hk0
            rw [hk0]
            clear hk hk0 hva
            obtain ⟨e3, z0, z1, z2, y0, y1, y2, fz, fy, hlz, hly⟩ := ht7.out.cells
            have z0 : w7.cell? ⟨w.heap.size, 0, none⟩ = some (.int .i64 0) := z0
            have z1 : w7.cell? ⟨w.heap.size, 1, none⟩ = some (.int .i64 0) := z1
            have z2 : w7.cell? ⟨w.heap.size, 2, none⟩ = some (.string ⟨#[]⟩) := z2
            have y0 : w7.cell? ⟨y, 0, none⟩ = some (.int .i64 2) := y0
            have y1 : w7.cell? ⟨y, 1, none⟩ = some (.int .i64 0) := y1
            have y2 : w7.cell? ⟨y, 2, none⟩ = some (.string s) := y2
            go_wp2_with fail
            refine (rfail_any ht7.out.rd 20).mono ?_
            rintro e w8 ⟨rfl, hu0, hr0⟩
            have ht8 := hid (ht7.out.call hu0 hr0)
            clear hu0 hr0
            go_upto_region 12 with fail
            clear e3 z0 z1 z2 y0 y1 y2 fz fy hlz hly
            obtain ⟨e3, z0, z1, z2, y0, y1, y2, fz, fy, hlz, hly⟩ := ht8.out.cells
            have z0 : w8.cell? ⟨w.heap.size, 0, none⟩ = some (.int .i64 0) := z0
            have z1 : w8.cell? ⟨w.heap.size, 1, none⟩ = some (.int .i64 0) := z1
            have z2 : w8.cell? ⟨w.heap.size, 2, none⟩ = some (.string ⟨#[]⟩) := z2
            have y0 : w8.cell? ⟨y, 0, none⟩ = some (.int .i64 2) := y0
            have y1 : w8.cell? ⟨y, 1, none⟩ = some (.int .i64 0) := y1
            have y2 : w8.cell? ⟨y, 2, none⟩ = some (.string s) := y2
            obtain ⟨re, hre⟩ : ∃ re, re = ((r2.fail 20)).e := ⟨_, rfl⟩
            rw [← hre] at e3
            by_cases hee : re = 0
            · have te : (re != 0) = false := by simpa [hre] using hee
              have hfin : Hid (r.take = ((⟨2, 0, s⟩ : Vl), (r2.fail 20))) := hid (by rw [hre] at hee; exfalso; have h5 := he0h.out; have h6 := hrh.out; unfold Rr.fail at hee; rw [if_pos ⟨by omega, by decide⟩] at hee; simp at hee)
              clear hee hre
              go_wp2_with fail
              have hT := ht8.out.putZ (⟨2, 0, s⟩ : Vl)
              refine bodyPost_ret (v := .agg #[.int .i64 2, .int .i64 0, .string s]) ?_ rfl ⟨by first | (rw [hfin.out]; done) | (rw [hfin.out]; rfl), hT.up, by rw [hfin.out]; exact hT.rd.unbound hne.out⟩
              exact results_cell_row (P := Tryd.prog) rfl _ _ w.heap.size 24 _ (0, 0) _ rfl hT.zv Tryd.underlying24 rfl (by kernel_rfl)
            · have te : (re != 0) = true := by simpa [hre] using hee
              have hfin : Hid (r.take = (vl0, (r2.fail 20))) := hid (by rw [hre] at hee; unfold Rr.take; rw [hq8.out]; simp [h2h.out, hih.out, hkh.out])
              clear hee hre
              go_wp2_with fail
              have hT := ht8.out.putZ vl0
              refine bodyPost_ret (v := .agg #[.int .i64 0, .int .i64 0, .string ⟨#[]⟩]) ?_ rfl ⟨by first | (rw [hfin.out]; done) | (rw [hfin.out]; rfl), hT.up, by rw [hfin.out]; exact hT.rd.unbound hne.out⟩
              exact results_cell_row (P := Tryd.prog) rfl _ _ w.heap.size 24 _ (0, 0) _ rfl hT.zv Tryd.underlying24 rfl (by kernel_rfl)
        · have te : (re == 0) = false := by simpa using he0
          have he0h := hid he0
          clear he0
          go_upto_region 12 with fail
          clear e3 z0 z1 z2 y0 y1 y2 fz fy hlz hly
          obtain ⟨e3, z0, z1, z2, y0, y1, y2, fz, fy, hlz, hly⟩ := ht6.out.cells
          have z0 : w6.cell? ⟨w.heap.size, 0, none⟩ = some (.int .i64 0) := z0
          have z1 : w6.cell? ⟨w.heap.size, 1, none⟩ = some (.int .i64 0) := z1
          have z2 : w6.cell? ⟨w.heap.size, 2, none⟩ = some (.string ⟨#[]⟩) := z2
          have y0 : w6.cell? ⟨y, 0, none⟩ = some (.int .i64 2) := y0
          have y1 : w6.cell? ⟨y, 1, none⟩ = some (.int .i64 0) := y1
          have y2 : w6.cell? ⟨y, 2, none⟩ = some (.string s) := y2
          obtain ⟨re, hre⟩ : ∃ re, re = (r2).e := ⟨_, rfl⟩
          rw [← hre] at e3
          by_cases hee : re = 0
          · have te : (re != 0) = false := by simpa [hre] using hee
            have hfin : Hid (r.take = ((⟨2, 0, s⟩ : Vl), r2)) := hid (by rw [hre] at hee; exfalso; have := he0h.out; have := hrh.out; omega)
            clear hee hre
            go_wp2_with fail
            have hT := ht6.out.putZ (⟨2, 0, s⟩ : Vl)
            refine bodyPost_ret (v := .agg #[.int .i64 2, .int .i64 0, .string s]) ?_ rfl ⟨by first | (rw [hfin.out]; done) | (rw [hfin.out]; rfl), hT.up, by rw [hfin.out]; exact hT.rd.unbound hne.out⟩
            exact results_cell_row (P := Tryd.prog) rfl _ _ w.heap.size 24 _ (0, 0) _ rfl hT.zv Tryd.underlying24 rfl (by kernel_rfl)
          · have te : (re != 0) = true := by simpa [hre] using hee
            have hfin : Hid (r.take = (vl0, r2)) := hid (by rw [hre] at hee; have h5 := hsb.out hee; unfold Rr.take; rw [hq8.out]; simp [h2h.out, hih.out, hee, h5, okT])
            clear hee hre
            go_wp2_with fail
            have hT := ht6.out.putZ vl0
            refine bodyPost_ret (v := .agg #[.int .i64 0, .int .i64 0, .string ⟨#[]⟩]) ?_ rfl ⟨by first | (rw [hfin.out]; done) | (rw [hfin.out]; rfl), hT.up, by rw [hfin.out]; exact hT.rd.unbound hne.out⟩
            exact results_cell_row (P := Tryd.prog) rfl _ _ w.heap.size 24 _ (0, 0) _ rfl hT.zv Tryd.underlying24 rfl (by kernel_rfl)
      · have t2 : ((q : Int) == 2) = false := by simp; omega
        have hqn : Hid (q ≠ 0 ∧ q ≠ 1 ∧ q ≠ 2) := hid ⟨h0, h1, h2⟩
        clear h0 h1 h2
        go_wp2_with fail
        refine (rfail_any ht3.out.rd 20).mono ?_
        rintro e w4 ⟨rfl, hu0, hr0⟩
        have ht4 := hid (ht3.out.call hu0 hr0)
        clear hu0 hr0
        go_upto_region 12 with fail
        clear e3 z0 z1 z2 y0 y1 y2 fz fy hlz hly
        obtain ⟨e3, z0, z1, z2, y0, y1, y2, fz, fy, hlz, hly⟩ := ht4.out.cells
        have z0 : w4.cell? ⟨w.heap.size, 0, none⟩ = some (.int .i64 0) := z0
        have z1 : w4.cell? ⟨w.heap.size, 1, none⟩ = some (.int .i64 0) := z1
        have z2 : w4.cell? ⟨w.heap.size, 2, none⟩ = some (.string ⟨#[]⟩) := z2
        have y0 : w4.cell? ⟨y, 0, none⟩ = some (.int .i64 0) := y0
        have y1 : w4.cell? ⟨y, 1, none⟩ = some (.int .i64 0) := y1
        have y2 : w4.cell? ⟨y, 2, none⟩ = some (.string ⟨#[]⟩) := y2
        obtain ⟨re, hre⟩ : ∃ re, re = ((r1.fail 20)).e := ⟨_, rfl⟩
        rw [← hre] at e3
        by_cases hee : re = 0
        · have te : (re != 0) = false := by simpa [hre] using hee
          have hfin : Hid (r.take = (vl0, (r1.fail 20))) := hid (by rw [hre] at hee; exfalso; have h5 := hqn.out; have h6 := hbad.out; unfold Rr.fail at hee; by_cases h7 : r1.e = 0; (rw [if_pos ⟨h7, by decide⟩] at hee; simp at hee); exact absurd (h6 h7) h5.1)
          clear hee hre
          go_wp2_with fail
          have hT := ht4.out.putZ vl0
          refine bodyPost_ret (v := .agg #[.int .i64 0, .int .i64 0, .string ⟨#[]⟩]) ?_ rfl ⟨by first | (rw [hfin.out]; done) | (rw [hfin.out]; rfl), hT.up, by rw [hfin.out]; exact hT.rd.unbound hne.out⟩
          exact results_cell_row (P := Tryd.prog) rfl _ _ w.heap.size 24 _ (0, 0) _ rfl hT.zv Tryd.underlying24 rfl (by kernel_rfl)
        · have te : (re != 0) = true := by simpa [hre] using hee
          have hfin : Hid (r.take = (vl0, (r1.fail 20))) := hid (by rw [hre] at hee; have h5 := hqn.out; unfold Rr.take; rw [hq8.out]; simp [h5.1, h5.2.1, h5.2.2])
          clear hee hre
          go_wp2_with fail
          have hT := ht4.out.putZ vl0
          refine bodyPost_ret (v := .agg #[.int .i64 0, .int .i64 0, .string ⟨#[]⟩]) ?_ rfl ⟨by first | (rw [hfin.out]; done) | (rw [hfin.out]; rfl), hT.up, by rw [hfin.out]; exact hT.rd.unbound hne.out⟩
          exact results_cell_row (P := Tryd.prog) rfl _ _ w.heap.size 24 _ (0, 0) _ rfl hT.zv Tryd.underlying24 rfl (by kernel_rfl)

end Go.Proofs.YtbnpidmlcjofiaaDoor

namespace Go.Proofs.YtbnpidmlcjofiaaDoor
open Go.ChangeShapes Go.WideShapes Go.ChangeAt Go.RowKit

theorem trodAll_below {H : Type} {enc : TypeId × Value → H} {P : Program} (hl : laidOutB P = true) {W W' : World} (hb : Below W.heap.size W W') :
    ∀ {ts : List TypeId} {vs : List Value} {ds : List (DataW H)} {ps : List MemPlace}, ts.all (fun t => P.readableRec t && decide (t < P.types.size)) = true → (∀ x ∈ ps, x.block < W.heap.size) →
      DataW.TrodAll enc P W 0 (fun _ => true) true ts vs ds ps → DataW.TrodAll enc P W' 0 (fun b => decide (b < W.heap.size)) true ts vs ds ps := by
  intro ts
  induction ts with
  | nil =>
    intro vs ds ps _ _ h
    obtain ⟨rfl, rfl, rfl⟩ := trodAll_nil h
    exact trodAll_mk0
  | cons t ts ih =>
    intro vs ds ps hr hlt h
    obtain ⟨v, vs', d, ds', p, q, rfl, rfl, rfl, h0, h1⟩ := trodAll_cons h
    simp only [List.all_cons, Bool.and_eq_true, decide_eq_true_eq] at hr
    exact trodAll_cons_mk (Below.trod hl hr.1.1 hr.1.2 h0 hb fun x hx => hlt x (List.mem_append_left _ hx)) (ih hr.2 (fun x hx => hlt x (List.mem_append_right _ hx)) h1)

theorem law_post {H : Type} {enc : TypeId × Value → H} {P : Program} {f : Func} {s : ChangeSpec} {W W' : World} {args : Array Value} {ds gs : List (DataW H)} {before : List MemPlace} {tb : TypeId}
    (hl : laidOutB P = true) (hrow : f.params.toList.all (fun t => P.readableRec t && decide (t < P.types.size)) = true) (hres : f.resultTypes = #[tb]) (htb : P.underlying tb = some .bool)
    (hv : s.vars = []) (hW : DataW.Whole enc P f.params.toList s.vars false W args.toList ds gs before)
    (hs : (s.fn H (ds ++ gs)).results = [.lit (.bool true)]) (ha : (s.fn H (ds ++ gs)).args = ds) (hvs : (s.fn H (ds ++ gs)).vars = []) (hb : Below W.heap.size W W') :
    s.post enc P f false true false false W args (.bool true) W' := by
  have hlt : ∀ p ∈ before, p.block < W.heap.size := fun p hp => hW.lt p hp
  have hW' := hW
  obtain ⟨p, q, hA, hV, rfl, _, _⟩ := hW
  rw [hv] at hV
  obtain ⟨rfl, rfl⟩ := trodVars_none hV
  refine ⟨ds, [], _, [], p, [], hW', ?_, ?_, ?_, World.keptBut_mono (fun x hx => ?_) (hb.frame (· ∈ p)), fun h => by cases h⟩
  · rw [hs, hres]
    exact trodAll_cons_mk (shut_bool htb _) trodAll_mk0
  · rw [ha]
    exact trodAll_below hl hb hrow (fun x hx => hlt x (List.mem_append_left _ hx)) hA
  · rw [hv, hvs]; rfl
  · exact ⟨by simpa using hx, .inr (.inl hx)⟩

end Go.Proofs.YtbnpidmlcjofiaaDoor

