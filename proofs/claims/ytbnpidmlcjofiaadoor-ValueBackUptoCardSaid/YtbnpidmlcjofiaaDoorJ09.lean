/- Texts of the proof, joined: VPrint, VOrd, VCmp, VEqual, KPut3, KCRd, KCUint, KCRx, KCRbyte, KCRuint64. -/
import Derived.Test.YtbnpidmlcjofiaaDoorJ08
import Derived.Test.YtbnpidmlcjofiaaDoorJ04
import Derived.Test.YtbnpidmlcjofiaaDoorJ06
import Derived.Laws.OwnMore
import Derived.Test.YtbnpidmlcjofiaaDoorJ03
import Derived.Lib.Bytealg
import Derived.Test.YtbnpidmlcjofiaaDoorJ07
import Derived.Defers
import Derived.Recover
namespace Go.Proofs.YtbnpidmlcjofiaaDoor
open Go.RowKit
set_option linter.unusedVariables false
set_option linter.unusedSimpArgs false

/-- what Print leaves -/
def PrOut (v : Vl) (w : World) (e : Ending) (w' : World) : Prop := e = .returned (.tuple #[.string ⟨(printL v).toArray⟩, .int .i64 (printE v)]) ∧ Below w.heap.size w w'
theorem esc_step {s : ByteArray} {k : Nat} (hk : k < s.size) : escL (s.data.toList.take (k + 1)) = escL (s.data.toList.take k) ++ (if s.data[k]'hk = 34 ∨ s.data[k]'hk = 92 then [92, s.data[k]'hk] else [s.data[k]'hk]) := by
  have hl : k < s.data.toList.length := by rw [Array.length_toList]; exact hk
  rw [List.take_succ_eq_append_getElem hl, Array.getElem_toList]
  unfold escL
  rw [List.flatMap_append]
  simp
theorem take_all {s : ByteArray} {k : Nat} (hk : s.size ≤ k) : s.data.toList.take k = s.data.toList := List.take_of_length_le (by rw [Array.length_toList]; exact hk)
theorem lit_text {v : Vl} (h : v.ok = true) (hk : v.k = 2) : printL v = 34 :: (escL v.s.data.toList ++ [34]) := by
  unfold printL litL
  rw [if_pos h, hk, if_neg (by decide), if_neg (by decide)]

set_option maxRecDepth 100000 in
set_option maxHeartbeats 4000000 in
theorem print_any (v : Vl) (w : World) (hs : v.s.size ≤ 140737488351232) (hr : v.rng) (he : Env w) : Calls Tryd.prog 26 #[.agg #[.int .i64 v.k, .int .i64 v.n, .string v.s]] w (PrOut v w) := by
  obtain ⟨ib, hb0, hb1, hb2, hb3⟩ := info_parts info_u8
  obtain ⟨W, hW⟩ : ∃ W, W = w.alloc (.cells #[.int .i64 v.k, .int .i64 v.n, .string v.s] 24) := ⟨_, rfl⟩
  have hB0 : Hid (Below w.heap.size w W) := hid (by subst hW; exact (Below.refl _ _).alloc (Nat.le_refl _) _)
  have kb0 : Hid (Blk W w.heap.size 24 #[.int .i64 v.k, .int .i64 v.n, .string v.s]) := hid (by subst hW; exact Blk.new w _ _)
  have hva := hid (valid_any v W (by omega))
  have hx0 : W.cell? ⟨w.heap.size, 0, none⟩ = some (.int .i64 v.k) := kb0.out.cell 0
  have hx1 : W.cell? ⟨w.heap.size, 1, none⟩ = some (.int .i64 v.n) := kb0.out.cell 1
  have hx2 : W.cell? ⟨w.heap.size, 2, none⟩ = some (.string v.s) := kb0.out.cell 2
  have hfz := fun q => kb0.out.frozen q
  have hlz := kb0.out.lt
  have he2 := hid (he.below hB0.out)
  clear he
  cases hok : v.ok with
  | false =>
    have hfin : Hid (printL v = [] ∧ printE v = 20) := hid (by unfold printL printE; rw [hok]; exact ⟨rfl, rfl⟩)
    rw [hok] at hva
    clear hok hs hr
    go_enter Tryd.func26, Tryd.ntmps26
    go_upto_region 1 with fail
    rw [← hW]
    clear hW
    go_wp2_with fail
    refine hva.out.mono ?_
    rintro e w2 ⟨rfl, hb20⟩
    have kb2 := hid (kb0.out.below_all hb20)
    have hB2 := hid (hB0.out.trans (hb20.mono hB0.out.size))
    have hbb2 := hid hb20
    clear hb20 hva hx0 hx1 hx2 hfz hlz kb0 hB0
    have x0 := kb2.out.cell 0
    have x1 := kb2.out.cell 1
    have x2 := kb2.out.cell 2
    simp only [List.getElem?_toArray, List.getElem?_cons_zero, List.getElem?_cons_succ] at x0 x1 x2
    have fz := fun q => kb2.out.frozen q
    have hlt := kb2.out.lt
    go_wp2_with fail
    refine bodyPost_ret (v := .tuple #[.string ⟨#[]⟩, .int .i64 20]) (by simp [results, Tryd.results26, go_sem]) rfl ⟨?_, hB2.out⟩
    rw [hfin.out.1, hfin.out.2]
  | true =>
    have hpe : Hid (printE v = 0) := hid (by unfold printE; rw [hok]; rfl)
    have hpl : printL v = litL v := by unfold printL; rw [hok]; rfl
    rw [hok] at hva
    rcases ok_forms hok with hv | ⟨h1, h2⟩ | ⟨h1, h2, h3, h4⟩
    · have e0 : v.k = 0 := by rw [hv]; rfl
      have hfin : Hid (printL v = noneT) := hid (by rw [hpl]; unfold litL; rw [e0]; rfl)
      have f0 : (v.k == 1) = false := by rw [e0]; rfl
      have f1 : (v.k == 0) = true := by rw [e0]; rfl
      clear hok hs hr hv hpl e0
      go_enter Tryd.func26, Tryd.ntmps26
      go_upto_region 1 with fail
      rw [← hW]
      clear hW
      go_wp2_with fail
      refine hva.out.mono ?_
      rintro e w2 ⟨rfl, hb20⟩
      have kb2 := hid (kb0.out.below_all hb20)
      have hB2 := hid (hB0.out.trans (hb20.mono hB0.out.size))
      have hbb2 := hid hb20
      clear hb20 hva hx0 hx1 hx2 hfz hlz kb0 hB0
      have x0 := kb2.out.cell 0
      have x1 := kb2.out.cell 1
      have x2 := kb2.out.cell 2
      simp only [List.getElem?_toArray, List.getElem?_cons_zero, List.getElem?_cons_succ] at x0 x1 x2
      have fz := fun q => kb2.out.frozen q
      have hlt := kb2.out.lt
      go_wp2_with fail
      refine bodyPost_ret (v := .tuple #[.string ⟨#[110, 111, 110, 101]⟩, .int .i64 0]) (by simp [results, Tryd.results26, go_sem]) rfl ⟨?_, hB2.out⟩
      rw [hfin.out, hpe.out]; rfl
    · have hfin : Hid (printL v = Lib.itoa v.n) := hid (by rw [hpl]; unfold litL; rw [h1]; rfl)
      have f0 : (v.k == 1) = true := by rw [h1]; rfl
      have hrr := hid hr
      clear hok hs hr hpl h1 h2
      go_enter Tryd.func26, Tryd.ntmps26
      go_upto_region 1 with fail
      rw [← hW]
      clear hW
      go_wp2_with fail
      refine hva.out.mono ?_
      rintro e w2 ⟨rfl, hb20⟩
      have kb2 := hid (kb0.out.below_all hb20)
      have hB2 := hid (hB0.out.trans (hb20.mono hB0.out.size))
      have hbb2 := hid hb20
      clear hb20 hva hx0 hx1 hx2 hfz hlz kb0 hB0
      have x0 := kb2.out.cell 0
      have x1 := kb2.out.cell 1
      have x2 := kb2.out.cell 2
      simp only [List.getElem?_toArray, List.getElem?_cons_zero, List.getElem?_cons_succ] at x0 x1 x2
      have fz := fun q => kb2.out.frozen q
      have hlt := kb2.out.lt
      have he3 := hid (he2.out.below (w := W) (w' := w2) (by first | exact hbb2.out))
      go_wp2_with fail
      refine (digits_any v.n hrr.out.1 hrr.out.2 w2 he3.out).mono ?_
      rintro e w3 ⟨rfl, hb30⟩
      have hB3 := hid (hB2.out.trans (hb30.mono hB2.out.size))
      clear hb30 x0 x1 x2 fz hlt
      go_wp2_with fail
      refine bodyPost_ret (v := .tuple #[.string ⟨(Lib.itoa v.n).toArray⟩, .int .i64 0]) (by simp [results, Tryd.results26, go_sem]) rfl ⟨?_, hB3.out⟩
      rw [hfin.out, hpe.out]
    · have hfin : Hid (printL v = 34 :: (escL v.s.data.toList ++ [34])) := hid (lit_text hok h1)
      have hs64 := hid h3
      have hs9 : (v.s.size : Int) ≤ 64 := by omega
      have f0 : (v.k == 1) = false := by rw [h1]; rfl
      have f1 : (v.k == 0) = false := by rw [h1]; rfl
      clear hok hs hr hpl h3 h4 h1 h2
      go_enter Tryd.func26, Tryd.ntmps26
      go_upto_region 1 with fail
      rw [← hW]
      clear hW
      go_wp2_with fail
      refine hva.out.mono ?_
      rintro e w2 ⟨rfl, hb20⟩
      have kb2 := hid (kb0.out.below_all hb20)
      have hB2 := hid (hB0.out.trans (hb20.mono hB0.out.size))
      have hbb2 := hid hb20
      clear hb20 hva hx0 hx1 hx2 hfz hlz kb0 hB0
      have x0 := kb2.out.cell 0
      have x1 := kb2.out.cell 1
      have x2 := kb2.out.cell 2
      simp only [List.getElem?_toArray, List.getElem?_cons_zero, List.getElem?_cons_succ] at x0 x1 x2
      have fz := fun q => kb2.out.frozen q
      have hlt := kb2.out.lt
      go_upto_region 8 with fail
      have ho0 := hid (World.ownsRow_lit (base := w2.heap.size) (e := 5) (size := 1) w2 #[.int .u8 34] 1 (Nat.le_refl _) (by decide) rfl)
      have hB3 : Hid (Below w2.heap.size w2 (w2.alloc (.cells #[.int .u8 34] 5))) := hid ((Below.refl _ _).alloc (Nat.le_refl _) _)
      generalize w2.alloc (.cells #[.int .u8 34] 5) = w3 at *
      have kb3 := hid (kb2.out.below_all hB3.out)
      clear x0 x1 x2 fz hlt
      have x2 : w3.cell? ⟨w.heap.size, 2, none⟩ = some (.string v.s) := kb3.out.cell 2
      have hlt := kb3.out.lt
      go_wp2_with fail
      go_loopw [4, 5, 25] (fun v4 _ v25 wr => ∃ (k : Nat) (A : Option Addr) (c : Nat) (L : List Nat), v4 = .slice A L.length c ∧ v25 = .int .i64 k ∧ k ≤ v.s.size ∧ L.length ≤ 1 + 2 * k ∧ wr.ownsRow w2.heap.size 5 1 (.slice A L.length c) L.length (bcells L) ∧ Below w2.heap.size w2 wr ∧ lb L = 34 :: escL (v.s.data.toList.take k)) (fun _ _ v25 _ => v.s.size - (intOf v25).toNat)
      case atStart => exact ⟨0, some ⟨w2.heap.size, 0, none⟩, 1, [34], rfl, rfl, Nat.zero_le _, by simp, ho0.out, hB3.out, rfl⟩
      case round =>
        clear x2 hlt ho0 hB3 kb3
        obtain ⟨k, A, c, L, rfl, rfl, hks, hL0, hown0, hB0, hR0⟩ := hrel
        have hL := hid hL0; have hown := hid hown0; have hB := hid hB0; have hR := hid hR0
        have hL9 : (L.length : Int) ≤ 200 := by have := hs64.out; omega
        have hL8 := hid (show L.length ≤ 200 by have := hs64.out; omega)
        clear hL0 hown0 hB0 hR0
        have kb4 := hid (kb2.out.below_all hB.out)
        have x2 : wr.cell? ⟨w.heap.size, 2, none⟩ = some (.string v.s) := kb4.out.cell 2
        have hltz := kb4.out.lt
        by_cases hlt : k < v.s.size
        · have i1 : (k : Int) < (v.s.size : Int) := by omega
          have hst := esc_step hlt
          by_cases hq : v.s.data[k]'hlt = 34 ∨ v.s.data[k]'hlt = 92
          · rw [if_pos hq] at hst
            have hR2 : Hid (lb ((L ++ [92]) ++ [(v.s[k]'hlt).toNat]) = 34 :: escL (v.s.data.toList.take (k + 1))) := hid (by
              rw [hst, show (v.s[k]'hlt).toNat = (v.s.data[k]'hlt).toNat from rfl, lb_snoc, show (92 : Nat) = (92 : UInt8).toNat from rfl, lb_snoc, hR.out]; simp)
            clear hst
            have hcase : Hid (((v.s[k]'hlt).toNat = 34) ∨ ((v.s[k]'hlt).toNat ≠ 34 ∧ (v.s[k]'hlt).toNat = 92)) := hid (by
              by_cases h34 : v.s.data[k]'hlt = 34
              · exact .inl (byte_eq (hk := hlt) h34)
              · exact .inr ⟨byte_ne (hk := hlt) h34, byte_eq (hk := hlt) (hq.resolve_left h34)⟩)
            clear hq
            rcases hcase.out with hc | ⟨hc0, hc⟩
            · have b1 : (((v.s[k]'hlt).toNat : Int) == 34) = true := by rw [hc]; rfl
              have b2 : (((v.s[k]'hlt).toNat : Int) == 92) = false := by rw [hc]; rfl
              rw [hc] at hR2
              skip
              go_upto_region 13 with (
                at_builtin
                refine wpList_append_rd _ rfl (.tmp 40) (.tmp 41) 22 rfl w2.heap.size 5 ib _ 1 1 Tryd.underlying22 hb0 hb1 hb2 hb3 rfl (by omega) (.slice A (L.length) c) (L.length) (bcells L) rfl (hown.out.alloc _) (fun b => b = wr.heap.size) (some ⟨wr.heap.size, 0, none⟩) 1 1 [.int .u8 (((92 : Nat) : Int))] rfl (Rd.new wr 5 1 1 #[.int .u8 (((92 : Nat) : Int))] _ rfl rfl) (by intro u hu; simp at hu; subst hu; rfl) (by simp only [maxLen]; have := hL8.out; omega) (by have := hL8.out; omega) (by have := hB.out.size; simp; omega) ?_
                intro v5 w5 hown5 hg5 hat5
                have hB5 := hid ((hB.out.alloc hB.out.size (.cells #[.int .u8 (((92 : Nat) : Int))] 5)).grown hg5 (by have := hB.out.size; simp; omega) fun k hk => (hown.out.lt k hk).1)
                obtain ⟨A5, c5, rfl, _⟩ := own_form hown5
                rw [← bcells_snoc] at hown5
                have hown5 := hid hown5
                skip
                clear hg5 hat5)
              have kb5 := hid (kb2.out.below_all hB5.out)
              clear x2 hltz
              have x2 : w5.cell? ⟨w.heap.size, 2, none⟩ = some (.string v.s) := kb5.out.cell 2
              have hltz := kb5.out.lt
              go_wp2_with (
                at_builtin
                refine wpList_append_rd _ rfl (.tmp 43) (.tmp 48) 22 rfl w2.heap.size 5 ib _ 1 1 Tryd.underlying22 hb0 hb1 hb2 hb3 rfl (by omega) (.slice A5 (L.length + 1) c5) (L.length + 1) (bcells (L ++ [92])) rfl (hown5.out.alloc _) (fun b => b = w5.heap.size) (some ⟨w5.heap.size, 0, none⟩) 1 1 [.int .u8 (((34 : Nat) : Int))] rfl (Rd.new w5 5 1 1 #[.int .u8 (((34 : Nat) : Int))] _ rfl rfl) (by intro u hu; simp at hu; subst hu; rfl) (by simp only [maxLen]; have := hL8.out; omega) (by have := hL8.out; omega) (by have := hB5.out.size; simp; omega) ?_
                intro v9 w9 hown9 hg9 hat9
                have hB9 := hid ((hB5.out.alloc hB5.out.size (.cells #[.int .u8 (((34 : Nat) : Int))] 5)).grown hg9 (by have := hB5.out.size; simp; omega) fun k hk => (hown5.out.lt k hk).1)
                obtain ⟨A9, c9, rfl, _⟩ := own_form hown9
                rw [← bcells_snoc] at hown9
                have hown9 := hid hown9
                skip
                clear hg9 hat9)
              refine ⟨⟨k + 1, A9, c9, (L ++ [92]) ++ [34], by simp, by first | rfl | simp, by omega, by have := hL.out; simp; omega, by simpa using hown9.out, hB9.out, hR2.out⟩, ?_⟩
              simp [intOf]
              omega
            · have b1 : (((v.s[k]'hlt).toNat : Int) == 34) = false := by rw [hc]; rfl
              have b2 : (((v.s[k]'hlt).toNat : Int) == 92) = true := by rw [hc]; rfl
              rw [hc] at hR2
              clear hc0
              go_upto_region 13 with (
                at_builtin
                refine wpList_append_rd _ rfl (.tmp 40) (.tmp 41) 22 rfl w2.heap.size 5 ib _ 1 1 Tryd.underlying22 hb0 hb1 hb2 hb3 rfl (by omega) (.slice A (L.length) c) (L.length) (bcells L) rfl (hown.out.alloc _) (fun b => b = wr.heap.size) (some ⟨wr.heap.size, 0, none⟩) 1 1 [.int .u8 (((92 : Nat) : Int))] rfl (Rd.new wr 5 1 1 #[.int .u8 (((92 : Nat) : Int))] _ rfl rfl) (by intro u hu; simp at hu; subst hu; rfl) (by simp only [maxLen]; have := hL8.out; omega) (by have := hL8.out; omega) (by have := hB.out.size; simp; omega) ?_
                intro v5 w5 hown5 hg5 hat5
                have hB5 := hid ((hB.out.alloc hB.out.size (.cells #[.int .u8 (((92 : Nat) : Int))] 5)).grown hg5 (by have := hB.out.size; simp; omega) fun k hk => (hown.out.lt k hk).1)
                obtain ⟨A5, c5, rfl, _⟩ := own_form hown5
                rw [← bcells_snoc] at hown5
                have hown5 := hid hown5
                skip
                clear hg5 hat5)
              have kb5 := hid (kb2.out.below_all hB5.out)
              clear x2 hltz
              have x2 : w5.cell? ⟨w.heap.size, 2, none⟩ = some (.string v.s) := kb5.out.cell 2
              have hltz := kb5.out.lt
              go_wp2_with (
                at_builtin
                refine wpList_append_rd _ rfl (.tmp 43) (.tmp 48) 22 rfl w2.heap.size 5 ib _ 1 1 Tryd.underlying22 hb0 hb1 hb2 hb3 rfl (by omega) (.slice A5 (L.length + 1) c5) (L.length + 1) (bcells (L ++ [92])) rfl (hown5.out.alloc _) (fun b => b = w5.heap.size) (some ⟨w5.heap.size, 0, none⟩) 1 1 [.int .u8 (((92 : Nat) : Int))] rfl (Rd.new w5 5 1 1 #[.int .u8 (((92 : Nat) : Int))] _ rfl rfl) (by intro u hu; simp at hu; subst hu; rfl) (by simp only [maxLen]; have := hL8.out; omega) (by have := hL8.out; omega) (by have := hB5.out.size; simp; omega) ?_
                intro v9 w9 hown9 hg9 hat9
                have hB9 := hid ((hB5.out.alloc hB5.out.size (.cells #[.int .u8 (((92 : Nat) : Int))] 5)).grown hg9 (by have := hB5.out.size; simp; omega) fun k hk => (hown5.out.lt k hk).1)
                obtain ⟨A9, c9, rfl, _⟩ := own_form hown9
                rw [← bcells_snoc] at hown9
                have hown9 := hid hown9
                skip
                clear hg9 hat9)
              refine ⟨⟨k + 1, A9, c9, (L ++ [92]) ++ [92], by simp, by first | rfl | simp, by omega, by have := hL.out; simp; omega, by simpa using hown9.out, hB9.out, hR2.out⟩, ?_⟩
              simp [intOf]
              omega
          · rw [if_neg hq] at hst
            have c34 : (v.s[k]'hlt).toNat ≠ 34 := byte_ne (hk := hlt) fun e => hq (.inl e)
            have c92 : (v.s[k]'hlt).toNat ≠ 92 := byte_ne (hk := hlt) fun e => hq (.inr e)
            have b1 : (((v.s[k]'hlt).toNat : Int) == 34) = false := by simp; omega
            have b2 : (((v.s[k]'hlt).toNat : Int) == 92) = false := by simp; omega
            have hR2 : Hid (lb (L ++ [(v.s[k]'hlt).toNat]) = 34 :: escL (v.s.data.toList.take (k + 1))) := hid (by
              rw [hst, show (v.s[k]'hlt).toNat = (v.s.data[k]'hlt).toNat from rfl, lb_snoc, hR.out]; simp)
            clear hst hq c34 c92
            go_wp2_with (
              at_builtin
              refine wpList_append_rd _ rfl (.tmp 43) (.tmp 48) 22 rfl w2.heap.size 5 ib _ 1 1 Tryd.underlying22 hb0 hb1 hb2 hb3 rfl (by omega) (.slice A (L.length) c) (L.length) (bcells L) rfl (hown.out.alloc _) (fun b => b = wr.heap.size) (some ⟨wr.heap.size, 0, none⟩) 1 1 [.int .u8 (((v.s[k]'hlt).toNat : Nat))] rfl (Rd.new wr 5 1 1 #[.int .u8 (((v.s[k]'hlt).toNat : Nat))] _ rfl rfl) (by intro u hu; simp at hu; subst hu; rfl) (by simp only [maxLen]; have := hL8.out; omega) (by have := hL8.out; omega) (by have := hB.out.size; simp; omega) ?_
              intro v9 w9 hown9 hg9 hat9
              have hB9 := hid ((hB.out.alloc hB.out.size (.cells #[.int .u8 (((v.s[k]'hlt).toNat : Nat))] 5)).grown hg9 (by have := hB.out.size; simp; omega) fun k hk => (hown.out.lt k hk).1)
              obtain ⟨A9, c9, rfl, _⟩ := own_form hown9
              rw [← bcells_snoc] at hown9
              have hown9 := hid hown9
              skip
              clear hg9 hat9)
            refine ⟨⟨k + 1, A9, c9, L ++ [(v.s[k]'hlt).toNat], by simp, by first | rfl | simp, by omega, by have := hL.out; simp; omega, by simpa using hown9.out, hB9.out, hR2.out⟩, ?_⟩
            simp [intOf]
            omega
        · have i1 : ¬ ((k : Int) < (v.s.size : Int)) := by omega
          have hR2 : Hid (lb (L ++ [34]) = printL v) := hid (by
            rw [hfin.out, show (34 : Nat) = (34 : UInt8).toNat from rfl, lb_snoc, hR.out, take_all (by omega)]; rfl)
          clear hlt
          go_wp2_with (
            at_builtin
            refine wpList_append_rd _ rfl (.tmp 51) (.tmp 52) 22 rfl w2.heap.size 5 ib _ 1 1 Tryd.underlying22 hb0 hb1 hb2 hb3 rfl (by omega) (.slice A (L.length) c) (L.length) (bcells L) rfl (hown.out.alloc _) (fun b => b = wr.heap.size) (some ⟨wr.heap.size, 0, none⟩) 1 1 [.int .u8 (((34 : Nat) : Int))] rfl (Rd.new wr 5 1 1 #[.int .u8 (((34 : Nat) : Int))] _ rfl rfl) (by intro u hu; simp at hu; subst hu; rfl) (by simp only [maxLen]; have := hL8.out; omega) (by have := hL8.out; omega) (by have := hB.out.size; simp; omega) ?_
            intro v9 w9 hown9 hg9 hat9
            have hB9 := hid ((hB.out.alloc hB.out.size (.cells #[.int .u8 (((34 : Nat) : Int))] 5)).grown hg9 (by have := hB.out.size; simp; omega) fun k hk => (hown.out.lt k hk).1)
            obtain ⟨A9, c9, rfl, _⟩ := own_form hown9
            rw [← bcells_snoc] at hown9
            have hown9 := hid hown9
            have hcv := convB (Rd.of_own hown9.out) (c := c9) (by simp)
            clear hg9 hat9)
          have hfb : Hid (Below w.heap.size w w9) := hid (hB2.out.trans (hB9.out.mono hB2.out.size))
          refine bodyPost_ret (v := .tuple #[.string (bt (L ++ [34])), .int .i64 0]) (by simp [results, Tryd.results26, go_sem]) rfl ⟨?_, hfb.out⟩
          rw [← hR2.out, hpe.out]; rfl

end Go.Proofs.YtbnpidmlcjofiaaDoor

namespace Go.Proofs.YtbnpidmlcjofiaaDoor
open Go
set_option linter.unusedVariables false
set_option linter.unusedSimpArgs false

/-- a three-way order -/
structure Ord3 {α : Type} (f : α → α → Int) : Prop where
  rng : ∀ a b, f a b = -1 ∨ f a b = 0 ∨ f a b = 1
  zero : ∀ a b, f a b = 0 ↔ a = b
  anti : ∀ a b, f b a = - f a b
  trans : ∀ a b c, f a b = -1 → f b c = -1 → f a c = -1
def cmpI (a b : Int) : Int := if a < b then -1 else if b < a then 1 else 0
theorem ord_int : Ord3 cmpI where
  rng a b := by unfold cmpI; by_cases h1 : a < b <;> by_cases h2 : b < a <;> simp [h1, h2]
  zero a b := by unfold cmpI; by_cases h1 : a < b <;> by_cases h2 : b < a <;> simp [h1, h2] <;> omega
  anti a b := by unfold cmpI; by_cases h1 : a < b <;> by_cases h2 : b < a <;> simp [h1, h2] <;> omega
  trans a b c h1 h2 := by
    unfold cmpI at *
    by_cases p1 : a < b
    · by_cases p2 : b < c
      · rw [if_pos (by omega)]
      · rw [if_neg p2] at h2; split at h2 <;> omega
    · rw [if_neg p1] at h1; split at h1 <;> omega
theorem ord_bytes : Ord3 Lib.compareBytes where
  rng a := by
    induction a with
    | nil => intro b; cases b <;> simp [Lib.compareBytes]
    | cons x l ih =>
      intro b
      cases b with
      | nil => simp [Lib.compareBytes]
      | cons y m => unfold Lib.compareBytes; by_cases h1 : x < y <;> by_cases h2 : y < x <;> simp only [h1, h2, if_true, if_false] <;> (first | exact ih m | simp)
  zero a := by
    induction a with
    | nil => intro b; cases b <;> simp [Lib.compareBytes]
    | cons x l ih =>
      intro b
      cases b with
      | nil => simp [Lib.compareBytes]
      | cons y m =>
        unfold Lib.compareBytes
        by_cases h1 : x < y
        · rw [if_pos h1]; simp; rintro rfl; exact absurd h1 (UInt8.lt_irrefl _)
        · by_cases h2 : y < x
          · rw [if_neg h1, if_pos h2]; simp; rintro rfl; exact absurd h2 (UInt8.lt_irrefl _)
          · have : x = y := UInt8.le_antisymm (UInt8.not_lt.1 h2) (UInt8.not_lt.1 h1)
            rw [if_neg h1, if_neg h2, ih m, this]; simp
  anti a := by
    induction a with
    | nil => intro b; cases b <;> simp [Lib.compareBytes]
    | cons x l ih =>
      intro b
      cases b with
      | nil => simp [Lib.compareBytes]
      | cons y m =>
        unfold Lib.compareBytes
        by_cases h1 : x < y
        · simp [h1, UInt8.lt_asymm h1]
        · by_cases h2 : y < x
          · simp [h1, h2]
          · rw [if_neg h1, if_neg h2, if_neg h2, if_neg h1]; exact ih m
  trans a := by
    induction a with
    | nil => intro b c; cases b <;> cases c <;> simp [Lib.compareBytes]
    | cons x l ih =>
      intro b c
      cases b with
      | nil => simp [Lib.compareBytes]
      | cons y m =>
        cases c with
        | nil => simp [Lib.compareBytes]
        | cons z n =>
          unfold Lib.compareBytes
          intro h1 h2
          by_cases a1 : x < y
          · by_cases a2 : y < z
            · rw [if_pos (UInt8.lt_trans a1 a2)]
            · rw [if_neg a2] at h2
              by_cases a3 : z < y
              · rw [if_pos a3] at h2; cases h2
              · have : y = z := UInt8.le_antisymm (UInt8.not_lt.1 a3) (UInt8.not_lt.1 a2)
                rw [← this, if_pos a1]
          · rw [if_neg a1] at h1
            by_cases a4 : y < x
            · rw [if_pos a4] at h1; cases h1
            · have e : x = y := UInt8.le_antisymm (UInt8.not_lt.1 a4) (UInt8.not_lt.1 a1)
              rw [if_neg a4] at h1
              subst e
              by_cases a2 : x < z
              · rw [if_pos a2]
              · rw [if_neg a2] at h2 ⊢
                by_cases a3 : z < x
                · rw [if_pos a3] at h2; cases h2
                · rw [if_neg a3] at h2 ⊢
                  exact ih m n h1 h2
/-- the order of values -/
def Vl.cmp (a b : Vl) : Int := if cmpI a.k b.k ≠ 0 then cmpI a.k b.k else if cmpI a.n b.n ≠ 0 then cmpI a.n b.n else Lib.compareBytes a.s.data.toList b.s.data.toList
theorem s_inj (a b : ByteArray) (h : a.data.toList = b.data.toList) : a = b := by
  obtain ⟨⟨a⟩⟩ := a; obtain ⟨⟨b⟩⟩ := b; simp at h; rw [h]
theorem ord_vl : Ord3 Vl.cmp where
  rng a b := by
    unfold Vl.cmp
    split
    · exact ord_int.rng _ _
    · split
      · exact ord_int.rng _ _
      · exact ord_bytes.rng _ _
  zero a b := by
    unfold Vl.cmp
    by_cases h1 : cmpI a.k b.k = 0
    · by_cases h2 : cmpI a.n b.n = 0
      · rw [if_neg (by simp [h1]), if_neg (by simp [h2]), ord_bytes.zero]
        have e1 := (ord_int.zero _ _).1 h1
        have e2 := (ord_int.zero _ _).1 h2
        obtain ⟨k, n, s⟩ := a; obtain ⟨k', n', s'⟩ := b
        simp only at e1 e2
        subst e1 e2
        simp
        exact ⟨fun h => s_inj _ _ (by rw [h]), fun h => by rw [h]⟩
      · rw [if_neg (by simp [h1]), if_pos h2]
        exact ⟨fun h => absurd h h2, by rintro rfl; exact absurd ((ord_int.zero _ _).2 rfl) h2⟩
    · rw [if_pos h1]
      exact ⟨fun h => absurd h h1, by rintro rfl; exact absurd ((ord_int.zero _ _).2 rfl) h1⟩
  anti a b := by
    unfold Vl.cmp
    have e1 := ord_int.anti a.k b.k
    have e2 := ord_int.anti a.n b.n
    have e3 := ord_bytes.anti a.s.data.toList b.s.data.toList
    rw [e1, e2, e3]
    split <;> split <;> (first | rfl | omega | (split <;> split <;> (first | rfl | omega)))
  trans a b c h1 h2 := by
    have k1 := ord_int.rng a.k b.k; have k2 := ord_int.rng b.k c.k
    have n1 := ord_int.rng a.n b.n; have n2 := ord_int.rng b.n c.n
    have kt := ord_int.trans a.k b.k c.k; have nt := ord_int.trans a.n b.n c.n
    have st := ord_bytes.trans a.s.data.toList b.s.data.toList c.s.data.toList
    have kz1 := (ord_int.zero a.k b.k).1; have kz2 := (ord_int.zero b.k c.k).1
    have nz1 := (ord_int.zero a.n b.n).1; have nz2 := (ord_int.zero b.n c.n).1
    unfold Vl.cmp at *
    by_cases p1 : cmpI a.k b.k = 0
    · rw [kz1 p1]
      by_cases p2 : cmpI b.k c.k = 0
      · rw [if_neg (by simp [p1])] at h1
        rw [if_neg (by simp [p2])] at h2 ⊢
        by_cases q1 : cmpI a.n b.n = 0
        · rw [nz1 q1]
          by_cases q2 : cmpI b.n c.n = 0
          · rw [if_neg (by simp [q1])] at h1
            rw [if_neg (by simp [q2])] at h2 ⊢
            exact st h1 h2
          · rw [if_pos q2] at h2 ⊢; exact h2
        · rw [if_pos q1] at h1
          by_cases q2 : cmpI b.n c.n = 0
          · rw [← nz2 q2]; rw [if_pos q1]; exact h1
          · rw [if_pos q2] at h2
            have := nt h1 h2
            rw [if_pos (by omega)]; exact this
      · rw [if_pos p2] at h2 ⊢; exact h2
    · rw [if_pos p1] at h1
      by_cases p2 : cmpI b.k c.k = 0
      · rw [← kz2 p2]; rw [if_pos p1]; exact h1
      · rw [if_pos p2] at h2
        have := kt h1 h2
        rw [if_pos (by omega)]; exact this
end Go.Proofs.YtbnpidmlcjofiaaDoor

namespace Go.Proofs.YtbnpidmlcjofiaaDoor
open Go.RowKit
set_option linter.unusedVariables false
set_option linter.unusedSimpArgs false

theorem nan_int (x : Int) (w : World) : Calls Tryd.prog 87 #[.int .i64 x] w fun e w' => e = .returned (.bool false) ∧ w' = w := by
  go_enter Tryd.func87, Tryd.ntmps87
  go_wp2_with fail
  go_ret
  exact ⟨by first | rfl | simp, by first | rfl | trivial⟩
theorem cmp_int (x y : Int) (w : World) : Calls Tryd.prog 65 #[.int .i64 x, .int .i64 y] w fun e w' => e = .returned (.int .i64 (cmpI x y)) ∧ w' = w := by
  by_cases h1 : x < y
  · have hf : Hid (cmpI x y = -1) := hid (by unfold cmpI; rw [if_pos h1])
    go_enter Tryd.func65, Tryd.ntmps65
    go_wp2_with (go_at_call 87; refine (nan_int _ _).mono ?_; rintro e w2 ⟨rfl, hwq⟩; obtain rfl := hwq.symm)
    go_ret
    exact ⟨by rw [hf.out]; first | rfl | simp, by first | rfl | trivial⟩
  · have hf1 : cmpI x y = if y < x then 1 else 0 := by unfold cmpI; rw [if_neg h1]
    by_cases h2 : y < x
    · have hf : Hid (cmpI x y = 1) := hid (by rw [hf1, if_pos h2])
      clear hf1
      go_enter Tryd.func65, Tryd.ntmps65
      go_wp2_with (go_at_call 87; refine (nan_int _ _).mono ?_; rintro e w2 ⟨rfl, hwq⟩; obtain rfl := hwq.symm)
      go_ret
      exact ⟨by rw [hf.out]; first | rfl | simp, by first | rfl | trivial⟩
    · have hf : Hid (cmpI x y = 0) := hid (by rw [hf1, if_neg h2])
      clear hf1
      go_enter Tryd.func65, Tryd.ntmps65
      go_wp2_with (go_at_call 87; refine (nan_int _ _).mono ?_; rintro e w2 ⟨rfl, hwq⟩; obtain rfl := hwq.symm)
      go_ret
      exact ⟨by rw [hf.out]; first | rfl | simp, by first | rfl | trivial⟩

theorem nan_int64 (x : Int) (w : World) : Calls Tryd.prog 88 #[.int .i64 x] w fun e w' => e = .returned (.bool false) ∧ w' = w := by
  go_enter Tryd.func88, Tryd.ntmps88
  go_wp2_with fail
  go_ret
  exact ⟨by first | rfl | simp, by first | rfl | trivial⟩
theorem cmp_int64 (x y : Int) (w : World) : Calls Tryd.prog 66 #[.int .i64 x, .int .i64 y] w fun e w' => e = .returned (.int .i64 (cmpI x y)) ∧ w' = w := by
  by_cases h1 : x < y
  · have hf : Hid (cmpI x y = -1) := hid (by unfold cmpI; rw [if_pos h1])
    go_enter Tryd.func66, Tryd.ntmps66
    go_wp2_with (go_at_call 88; refine (nan_int64 _ _).mono ?_; rintro e w2 ⟨rfl, hwq⟩; obtain rfl := hwq.symm)
    go_ret
    exact ⟨by rw [hf.out]; first | rfl | simp, by first | rfl | trivial⟩
  · have hf1 : cmpI x y = if y < x then 1 else 0 := by unfold cmpI; rw [if_neg h1]
    by_cases h2 : y < x
    · have hf : Hid (cmpI x y = 1) := hid (by rw [hf1, if_pos h2])
      clear hf1
      go_enter Tryd.func66, Tryd.ntmps66
      go_wp2_with (go_at_call 88; refine (nan_int64 _ _).mono ?_; rintro e w2 ⟨rfl, hwq⟩; obtain rfl := hwq.symm)
      go_ret
      exact ⟨by rw [hf.out]; first | rfl | simp, by first | rfl | trivial⟩
    · have hf : Hid (cmpI x y = 0) := hid (by rw [hf1, if_neg h2])
      clear hf1
      go_enter Tryd.func66, Tryd.ntmps66
      go_wp2_with (go_at_call 88; refine (nan_int64 _ _).mono ?_; rintro e w2 ⟨rfl, hwq⟩; obtain rfl := hwq.symm)
      go_ret
      exact ⟨by rw [hf.out]; first | rfl | simp, by first | rfl | trivial⟩

def orI (x y z : Int) : Int := if x ≠ 0 then x else if y ≠ 0 then y else z
set_option maxRecDepth 100000 in
theorem or_any (x y z : Int) (b : Nat) (w : World) (hb : Blk w b 3 #[.int .i64 x, .int .i64 y, .int .i64 z]) : Calls Tryd.prog 64 #[.slice (some ⟨b, 0, none⟩) 3 3] w fun e w' => e = .returned (.int .i64 (orI x y z)) ∧ w' = w := by
  have x0 : w.cell? ⟨b, 0, none⟩ = some (.int .i64 x) := hb.cell 0
  have x1 : w.cell? ⟨b, 1, none⟩ = some (.int .i64 y) := hb.cell 1
  have x2 : w.cell? ⟨b, 2, none⟩ = some (.int .i64 z) := hb.cell 2
  clear hb
  go_enter Tryd.func64, Tryd.ntmps64
  go_wp2_with fail
  go_loopw [5, 8] (fun _ v wr => ∃ k : Nat, v = .int .i64 k ∧ k ≤ 3 ∧ wr = w ∧ (0 < k → x = 0) ∧ (1 < k → y = 0) ∧ (2 < k → z = 0)) (fun _ v _ => 3 - (intOf v).toNat)
  case atStart => exact ⟨0, rfl, by decide, rfl, by omega, by omega, by omega⟩
  case round =>
    obtain ⟨k, rfl, hk, hwr, a0, a1, a2⟩ := hrel
    obtain rfl := hwr.symm
    obtain rfl | rfl | rfl | rfl : k = 0 ∨ k = 1 ∨ k = 2 ∨ k = 3 := by omega
    · by_cases h : x = 0
      · have b1 : (x != 0) = false := by rw [h]; rfl
        have hf := hid (⟨by omega, by omega, by omega⟩ : (0 < 1 → x = 0) ∧ (1 < 1 → y = 0) ∧ (2 < 1 → z = 0))
        clear a0 a1 a2 h hk
        go_wp2_with fail
        exact ⟨⟨1, by first | rfl | simp, by omega, by first | rfl | trivial, hf.out.1, hf.out.2.1, hf.out.2.2⟩, by simp [intOf]⟩
      · have b1 : (x != 0) = true := by simp [h]
        have hf : Hid (orI x y z = x) := hid (by unfold orI; rw [if_pos h])
        clear a0 a1 a2 h hk
        go_wp2_with fail
        go_ret
        exact ⟨by rw [hf.out]; rfl, by first | rfl | trivial⟩
    · by_cases h : y = 0
      · have b1 : (y != 0) = false := by rw [h]; rfl
        have hf := hid (⟨by omega, by omega, by omega⟩ : (0 < 2 → x = 0) ∧ (1 < 2 → y = 0) ∧ (2 < 2 → z = 0))
        clear a0 a1 a2 h hk
        go_wp2_with fail
        exact ⟨⟨2, by first | rfl | simp, by omega, by first | rfl | trivial, hf.out.1, hf.out.2.1, hf.out.2.2⟩, by simp [intOf]⟩
      · have b1 : (y != 0) = true := by simp [h]
        have hf : Hid (orI x y z = y) := hid (by unfold orI; rw [if_neg (by have := a0 (by omega); simp [this])]; rw [if_pos h])
        clear a0 a1 a2 h hk
        go_wp2_with fail
        go_ret
        exact ⟨by rw [hf.out]; rfl, by first | rfl | trivial⟩
    · by_cases h : z = 0
      · have b1 : (z != 0) = false := by rw [h]; rfl
        have hf := hid (⟨by omega, by omega, by omega⟩ : (0 < 3 → x = 0) ∧ (1 < 3 → y = 0) ∧ (2 < 3 → z = 0))
        clear a0 a1 a2 h hk
        go_wp2_with fail
        exact ⟨⟨3, by first | rfl | simp, by omega, by first | rfl | trivial, hf.out.1, hf.out.2.1, hf.out.2.2⟩, by simp [intOf]⟩
      · have b1 : (z != 0) = true := by simp [h]
        have hf : Hid (orI x y z = z) := hid (by unfold orI; rw [if_neg (by have := a0 (by omega); simp [this])]; rw [if_neg (by have := a1 (by omega); simp [this])])
        clear a0 a1 a2 h hk
        go_wp2_with fail
        go_ret
        exact ⟨by rw [hf.out]; rfl, by first | rfl | trivial⟩
    · have hf : Hid (orI x y z = 0) := hid (by unfold orI; rw [if_neg (by have := a0 (by omega); simp [this]), if_neg (by have := a1 (by omega); simp [this])]; exact a2 (by omega))
      clear a0 a1 a2 hk
      go_wp2_with fail
      go_ret
      exact ⟨by rw [hf.out]; rfl, by first | rfl | trivial⟩

theorem strCmp (a b : ByteArray) (w : World) : Calls Tryd.prog 67 #[.string a, .string b] w fun e w' => e = .returned (.int .i64 (Lib.compareBytes a.data.toList b.data.toList)) ∧ w' = w := strings_Compare a b w
theorem orI_cmp (a b : Vl) : orI (cmpI a.k b.k) (cmpI a.n b.n) (Lib.compareBytes a.s.data.toList b.s.data.toList) = Vl.cmp a b := by
  unfold orI Vl.cmp
  rfl
set_option maxRecDepth 100000 in
set_option maxHeartbeats 4000000 in
theorem compare_any (a b : Vl) (w : World) : Calls Tryd.prog 27 #[.agg #[.int .i64 a.k, .int .i64 a.n, .string a.s], .agg #[.int .i64 b.k, .int .i64 b.n, .string b.s]] w fun e w' => e = .returned (.int .i64 (Vl.cmp a b)) ∧ Below w.heap.size w w' := by
  obtain ⟨W, hW⟩ : ∃ W, W = (w.alloc (.cells #[.int .i64 a.k, .int .i64 a.n, .string a.s] 24)).alloc (.cells #[.int .i64 b.k, .int .i64 b.n, .string b.s] 24) := ⟨_, rfl⟩
  have hB0 : Hid (Below w.heap.size w W) := hid (by subst hW; exact ((Below.refl _ _).alloc (Nat.le_refl _) _).alloc (by simp) _)
  have k0 : Hid (Blk W w.heap.size 24 #[.int .i64 a.k, .int .i64 a.n, .string a.s]) := hid (by subst hW; exact (Blk.new w _ _).alloc _)
  have k1 : Hid (Blk W (w.heap.size + 1) 24 #[.int .i64 b.k, .int .i64 b.n, .string b.s]) := hid (by subst hW; exact Blk.new' _ _ _ (by simp))
  have hfin := hid (orI_cmp a b)
  generalize hR0 : Vl.cmp a b = R at *
  obtain ⟨a0, a1, a2⟩ := a
  obtain ⟨b0, b1, b2⟩ := b
  simp only at hW k0 k1 hfin
  clear hR0
  have x0 : W.cell? ⟨w.heap.size, 0, none⟩ = some (.int .i64 a0) := k0.out.cell 0
  have x1 : W.cell? ⟨w.heap.size, 1, none⟩ = some (.int .i64 a1) := k0.out.cell 1
  have x2 : W.cell? ⟨w.heap.size, 2, none⟩ = some (.string a2) := k0.out.cell 2
  have y0 : W.cell? ⟨w.heap.size + 1, 0, none⟩ = some (.int .i64 b0) := k1.out.cell 0
  have y1 : W.cell? ⟨w.heap.size + 1, 1, none⟩ = some (.int .i64 b1) := k1.out.cell 1
  have y2 : W.cell? ⟨w.heap.size + 1, 2, none⟩ = some (.string b2) := k1.out.cell 2
  have hkeep := hid (show ∀ W', Below W.heap.size W W' → W'.cell? ⟨w.heap.size, 0, none⟩ = some (.int .i64 a0) ∧ W'.cell? ⟨w.heap.size, 1, none⟩ = some (.int .i64 a1) ∧ W'.cell? ⟨w.heap.size, 2, none⟩ = some (.string a2) ∧ W'.cell? ⟨w.heap.size + 1, 0, none⟩ = some (.int .i64 b0) ∧ W'.cell? ⟨w.heap.size + 1, 1, none⟩ = some (.int .i64 b1) ∧ W'.cell? ⟨w.heap.size + 1, 2, none⟩ = some (.string b2) from fun W' hb => by
    have h0 := k0.out.below_all hb
    have h1 := k1.out.below_all hb
    exact ⟨h0.cell 0, h0.cell 1, h0.cell 2, h1.cell 0, h1.cell 1, h1.cell 2⟩)
  obtain ⟨p, hp⟩ : ∃ p, p = cmpI a0 b0 := ⟨_, rfl⟩
  obtain ⟨q, hq⟩ : ∃ q, q = cmpI a1 b1 := ⟨_, rfl⟩
  obtain ⟨r, hr⟩ : ∃ r, r = Lib.compareBytes a2.data.toList b2.data.toList := ⟨_, rfl⟩
  rw [← hp, ← hq, ← hr] at hfin
  have cp := hid (fun w => hp ▸ cmp_int a0 b0 w)
  have cq := hid (fun w => hq ▸ cmp_int64 a1 b1 w)
  have cr := hid (fun w => hr ▸ strCmp a2 b2 w)
  clear hp hq hr
  go_enter Tryd.func27, Tryd.ntmps27
  go_upto_region 1 with fail
  rw [← hW]
  clear hW
  go_region_held3 (fun W' => W'.cell? ⟨w.heap.size, 0, none⟩ = some (.int .i64 a0) ∧ W'.cell? ⟨w.heap.size, 1, none⟩ = some (.int .i64 a1) ∧ W'.cell? ⟨w.heap.size, 2, none⟩ = some (.string a2) ∧ W'.cell? ⟨w.heap.size + 1, 0, none⟩ = some (.int .i64 b0) ∧ W'.cell? ⟨w.heap.size + 1, 1, none⟩ = some (.int .i64 b1) ∧ W'.cell? ⟨w.heap.size + 1, 2, none⟩ = some (.string b2)) (first | exact hkeep.out _ hwo.out | exact hkeep.out _ hwo.out.drew | exact hkeep.out _ (Below.refl _ _) | exact hkeep.out _ (Below.refl _ _).drew | exact hkeep.out _ ((Below.refl _ _).alloc (Nat.le_refl _) _) | exact hkeep.out _ ((Below.refl _ _).alloc (Nat.le_refl _) _).drew)
    ((first
      | (go_at_call 65; refine (cp.out _).mono ?_; rintro e wb ⟨rfl, hwq⟩; obtain rfl := hwq.symm)
      | (go_at_call 66; refine (cq.out _).mono ?_; rintro e wb ⟨rfl, hwq⟩; obtain rfl := hwq.symm)
      | (go_at_call 67; refine (cr.out _).mono ?_; rintro e wb ⟨rfl, hwq⟩; obtain rfl := hwq.symm)
      | (go_at_call 64; refine (or_any p q r W.heap.size _ (by first | exact Blk.new W _ _ | exact (Blk.new W _ _).below_all (Below.refl _ _).drew)).mono ?_; rintro e wb ⟨rfl, hwq⟩; have hwo : Hid (Below W.heap.size W wb) := hid (by rw [hwq]; first | exact (Below.refl _ _).alloc (Nat.le_refl _) _ | exact ((Below.refl _ _).alloc (Nat.le_refl _) _).drew); clear hwq)))
  all_goals
    go_wp2_with fail
    go_ret
    exact ⟨by rw [hfin.out]; rfl, hB0.out.trans (hwo.out.mono hB0.out.size)⟩

end Go.Proofs.YtbnpidmlcjofiaaDoor

namespace Go.Proofs.YtbnpidmlcjofiaaDoor
open Go.RowKit
set_option linter.unusedVariables false
set_option linter.unusedSimpArgs false

theorem eql_vals (a b : Vl) (w : World) : (binOp .eql 24 (.agg #[.int .i64 a.k, .int .i64 a.n, .string a.s]) (.agg #[.int .i64 b.k, .int .i64 b.n, .string b.s])).run Tryd.prog w = .ok (.bool (decide (a = b))) w := by
  have h := run_eqVal a b w
  rw [run_eql_struct, h]
  simp only [Result.andThen]
set_option maxRecDepth 100000 in
set_option maxHeartbeats 1000000 in
theorem equal_any (a b : Vl) (w : World) : Calls Tryd.prog 28 #[.agg #[.int .i64 a.k, .int .i64 a.n, .string a.s], .agg #[.int .i64 b.k, .int .i64 b.n, .string b.s]] w fun e w' => e = .returned (.bool (decide (a = b))) ∧ Below w.heap.size w w' := by
  obtain ⟨W, hW⟩ : ∃ W, W = (w.alloc (.cells #[.int .i64 a.k, .int .i64 a.n, .string a.s] 24)).alloc (.cells #[.int .i64 b.k, .int .i64 b.n, .string b.s] 24) := ⟨_, rfl⟩
  have hB0 : Hid (Below w.heap.size w W) := hid (by subst hW; exact ((Below.refl _ _).alloc (Nat.le_refl _) _).alloc (by simp) _)
  have k0 : Hid (Blk W w.heap.size 24 #[.int .i64 a.k, .int .i64 a.n, .string a.s]) := hid (by subst hW; exact (Blk.new w _ _).alloc _)
  have k1 : Hid (Blk W (w.heap.size + 1) 24 #[.int .i64 b.k, .int .i64 b.n, .string b.s]) := hid (by subst hW; exact Blk.new' _ _ _ (by simp))
  have x0 : W.cell? ⟨w.heap.size, 0, none⟩ = some (.int .i64 a.k) := k0.out.cell 0
  have x1 : W.cell? ⟨w.heap.size, 1, none⟩ = some (.int .i64 a.n) := k0.out.cell 1
  have x2 : W.cell? ⟨w.heap.size, 2, none⟩ = some (.string a.s) := k0.out.cell 2
  have y0 : W.cell? ⟨w.heap.size + 1, 0, none⟩ = some (.int .i64 b.k) := k1.out.cell 0
  have y1 : W.cell? ⟨w.heap.size + 1, 1, none⟩ = some (.int .i64 b.n) := k1.out.cell 1
  have y2 : W.cell? ⟨w.heap.size + 1, 2, none⟩ = some (.string b.s) := k1.out.cell 2
  have heq := fun w => eql_vals a b w
  have hgd := guardVal
  go_enter Tryd.func28, Tryd.ntmps28
  go_upto_region 1 with fail
  rw [← hW]
  clear hW
  go_wp2_with fail
  go_ret
  exact ⟨rfl, hB0.out⟩

theorem less_cmp : ∀ (l m : List UInt8), Op.bytesLess l m = true ↔ Lib.compareBytes l m = -1 := by
  intro l
  induction l with
  | nil => intro m; cases m <;> simp [Op.bytesLess, Lib.compareBytes]
  | cons x l ih =>
    intro m
    cases m with
    | nil => simp [Op.bytesLess, Lib.compareBytes]
    | cons y m =>
      unfold Op.bytesLess Lib.compareBytes
      by_cases h1 : x < y
      · simp [h1]
      · by_cases h2 : y < x
        · have h3 : x ≠ y := fun e => by subst e; exact absurd h2 (UInt8.lt_irrefl _)
          simp [h1, h2, h3]
        · have h3 : x = y := UInt8.le_antisymm (UInt8.not_lt.1 h2) (UInt8.not_lt.1 h1)
          simp only [h1, h2, h3, if_false, decide_false, Bool.false_or, beq_self_eq_true, Bool.true_and]
          rw [if_neg (UInt8.lt_irrefl _), if_neg (UInt8.lt_irrefl _)]
          simp [UInt8.lt_irrefl]
          exact ih m
theorem lessS (a b : ByteArray) : Op.bytesLess a.toList b.toList = true ↔ Lib.compareBytes a.data.toList b.data.toList = -1 := by
  rw [Lib.toList_data, Lib.toList_data]; exact less_cmp _ _
theorem eqS (a b : ByteArray) : (a.toList == b.toList) = true ↔ Lib.compareBytes a.data.toList b.data.toList = 0 := by
  rw [Lib.toList_data, Lib.toList_data, beq_iff_eq, ord_bytes.zero]
theorem cmpI_lt {x y : Int} (h : x < y) : cmpI x y = -1 := by unfold cmpI; rw [if_pos h]
theorem cmpI_gt {x y : Int} (h : y < x) : cmpI x y = 1 := by unfold cmpI; rw [if_neg (by omega), if_pos h]
theorem cmpI_eq {x y : Int} (h1 : y ≤ x) (h2 : x ≤ y) : cmpI x y = 0 := by unfold cmpI; rw [if_neg (by omega), if_neg (by omega)]
set_option maxRecDepth 100000 in
set_option maxHeartbeats 4000000 in
theorem rcompare_any (a b : Vl) (w : World) : Calls Tryd.prog 37 #[.agg #[.int .i64 a.k, .int .i64 a.n, .string a.s], .agg #[.int .i64 b.k, .int .i64 b.n, .string b.s]] w fun e w' => e = .returned (.int .i64 (Vl.cmp a b)) ∧ Below w.heap.size w w' := by
  obtain ⟨W, hW⟩ : ∃ W, W = (w.alloc (.cells #[.int .i64 a.k, .int .i64 a.n, .string a.s] 24)).alloc (.cells #[.int .i64 b.k, .int .i64 b.n, .string b.s] 24) := ⟨_, rfl⟩
  have hB0 : Hid (Below w.heap.size w W) := hid (by subst hW; exact ((Below.refl _ _).alloc (Nat.le_refl _) _).alloc (by simp) _)
  have k0 : Hid (Blk W w.heap.size 24 #[.int .i64 a.k, .int .i64 a.n, .string a.s]) := hid (by subst hW; exact (Blk.new w _ _).alloc _)
  have k1 : Hid (Blk W (w.heap.size + 1) 24 #[.int .i64 b.k, .int .i64 b.n, .string b.s]) := hid (by subst hW; exact Blk.new' _ _ _ (by simp))
  have x0 : W.cell? ⟨w.heap.size, 0, none⟩ = some (.int .i64 a.k) := k0.out.cell 0
  have x1 : W.cell? ⟨w.heap.size, 1, none⟩ = some (.int .i64 a.n) := k0.out.cell 1
  have x2 : W.cell? ⟨w.heap.size, 2, none⟩ = some (.string a.s) := k0.out.cell 2
  have y0 : W.cell? ⟨w.heap.size + 1, 0, none⟩ = some (.int .i64 b.k) := k1.out.cell 0
  have y1 : W.cell? ⟨w.heap.size + 1, 1, none⟩ = some (.int .i64 b.n) := k1.out.cell 1
  have y2 : W.cell? ⟨w.heap.size + 1, 2, none⟩ = some (.string b.s) := k1.out.cell 2
  go_enter Tryd.func37, Tryd.ntmps37
  go_upto_region 1 with fail
  rw [← hW]
  clear hW
  go_wp2_with fail
  · rename_i h
    go_ret
    exact ⟨by rw [show Vl.cmp a b = -1 by unfold Vl.cmp; rw [cmpI_lt h]; rfl]; rfl, hB0.out⟩
  · rename_i h1 h
    go_ret
    exact ⟨by rw [show Vl.cmp a b = 1 by unfold Vl.cmp; rw [cmpI_gt h]; rfl]; rfl, hB0.out⟩
  · rename_i h2 h1 h
    go_ret
    exact ⟨by rw [show Vl.cmp a b = -1 by unfold Vl.cmp; rw [cmpI_eq h2 h1, cmpI_lt h]; rfl]; rfl, hB0.out⟩
  · rename_i h3 h2 h1 h
    go_ret
    exact ⟨by rw [show Vl.cmp a b = 1 by unfold Vl.cmp; rw [cmpI_eq h3 h2, cmpI_gt h]; rfl]; rfl, hB0.out⟩
  · rename_i h4 h3 h2 h1 h
    go_ret
    exact ⟨by rw [show Vl.cmp a b = -1 by unfold Vl.cmp; rw [cmpI_eq h4 h3, cmpI_eq h2 h1, (lessS _ _).1 h]; rfl]; rfl, hB0.out⟩
  · rename_i h5 h4 h3 h2 h1 h
    have hne : Lib.compareBytes a.s.data.toList b.s.data.toList ≠ -1 := fun e => by rw [(lessS _ _).2 e] at h1; cases h1
    have hnz : Lib.compareBytes a.s.data.toList b.s.data.toList ≠ 0 := fun e => by rw [(eqS _ _).2 e] at h; cases h
    have hr := ord_bytes.rng a.s.data.toList b.s.data.toList
    go_ret
    exact ⟨by rw [show Vl.cmp a b = 1 by unfold Vl.cmp; rw [cmpI_eq h5 h4, cmpI_eq h3 h2, if_neg (by decide), if_neg (by decide)]; omega]; rfl, hB0.out⟩
  · rename_i h5 h4 h3 h2 h1 h
    have hz : Lib.compareBytes a.s.data.toList b.s.data.toList = 0 := (eqS _ _).1 (by simpa using h)
    go_ret
    exact ⟨by rw [show Vl.cmp a b = 0 by unfold Vl.cmp; rw [cmpI_eq h5 h4, cmpI_eq h3 h2, if_neg (by decide), if_neg (by decide)]; exact hz]; rfl, hB0.out⟩

end Go.Proofs.YtbnpidmlcjofiaaDoor

namespace Go.Proofs.YtbnpidmlcjofiaaDoor
open Go.RowKit
set_option linter.unusedVariables false
set_option linter.unusedSimpArgs false

set_option maxRecDepth 100000 in
set_option maxHeartbeats 1000000 in
theorem vput_any (S : Nat → Prop) (A0 : Option Addr) (c0 : Nat) (bs : List Nat) (v : Vl) (w : World) (ha : Rd S w 1 A0 bs.length (bcells bs)) (hs : v.s.size ≤ 9223372036854775806) (hn1 : -9223372036854775808 ≤ v.n) (hn2 : v.n ≤ 9223372036854775807) (hl : bs.length ≤ 140737488353000) :
    Calls Tryd.prog 11 #[.slice A0 bs.length c0, .agg #[.int .i64 v.k, .int .i64 v.n, .string v.s]] w fun e w' => ∃ x, e = .returned x ∧ Cloned 5 1 (bcells (bs ++ vput v)) (bs ++ vput v).length w x w' := by
  obtain ⟨ib, hb0, hb1, hb2, hb3⟩ := info_parts info_u8
  have hgd := guardVal
  have hval := hid (fun W => valid_any v W hs)
  have hbl := hid hl
  have hnn := hid (And.intro hn1 hn2)
  have hB0 : Below w.heap.size w (w.alloc (.cells #[.int .i64 v.k, .int .i64 v.n, .string v.s] 24)) := (Below.refl _ _).alloc (Nat.le_refl _) _
  have hra0 := ha.below_all hB0
  have kb0 := Blk.new w 24 #[.int .i64 v.k, .int .i64 v.n, .string v.s]
  have hz0 : (w.alloc (.cells #[.int .i64 v.k, .int .i64 v.n, .string v.s] 24)).heap.size = w.heap.size + 1 := by simp
  have hB1 := hid hB0; have kb := hid kb0; have kb1 := hid kb0; have hz1 := hid hz0
  go_enter Tryd.func11, Tryd.ntmps11
  go_upto_region 1 with fail
  generalize w.alloc (.cells #[.int .i64 v.k, .int .i64 v.n, .string v.s] 24) = W1 at *
  have hra := hid (hra0.alloc (.cells #[] 5))
  have hgW := hid (show w.heap.size < W1.heap.size by rw [hz1.out]; omega)
  clear ha hs hn1 hn2 hl hB0 hra0 kb0 hz0
  go_wp2_with (
    at_builtin
    refine wpList_append_rd _ rfl (.tmp 6) (.tmp 7) 22 rfl W1.heap.size 5 ib _ 1 1 Tryd.underlying22 hb0 hb1 hb2 hb3 rfl (by omega) (.slice (some ⟨W1.heap.size, 0, none⟩) 0 0) 0 [] rfl (own_empty W1 5 1) S A0 bs.length c0 (bcells bs) rfl hra.out (bcells_one bs) (by simp only [maxLen]; have := hbl.out; omega) (by have := hbl.out; omega) (by simp) ?_
    intro v2 w2 hown0 hg0 hat0
    have hB20 := below_of_copy hg0
    obtain ⟨A2, c2, rfl, _⟩ := own_form hown0
    have hown2 : Hid (w2.ownsRow W1.heap.size 5 1 (.slice A2 bs.length c2) bs.length (bcells bs)) := hid (by simpa using hown0)
    have hB2 := hid hB20
    have kb2 := hid (kb.out.below_all hB20)
    have x0 := kb2.out.cell 0
    have x1 := kb2.out.cell 1
    have x2 := kb2.out.cell 2
    simp only [List.getElem?_toArray, List.getElem?_cons_zero, List.getElem?_cons_succ] at x0 x1 x2
    rw [Nat.zero_add]
    clear hown0 hB20 hg0 hat0 kb)
  refine (hval.out _).mono ?_
  rintro e w3 ⟨rfl, hb30⟩
  have hB3 := hid (hB2.out.trans (hb30.mono hB2.out.size))
  have hown3 := hid (own_below hown2.out hb30)
  have kb3 := hid (kb2.out.below_all hb30)
  clear hb30 x0 x1 x2 kb2 hown2 hB2 hra
  cases hok : v.ok with
  | false =>
    have hf := hid (show vput v = [] by unfold vput; rw [hok]; rfl)
    clear hok
    go_wp2_with fail
    go_ret
    refine ⟨_, rfl, ?_, hB1.out.trans (hB3.out.mono (by have := hgW.out; omega))⟩
    rw [hf.out, List.append_nil]
    exact own_base (by have := hgW.out; omega) hown3.out
  | true =>
    rcases ok_forms hok with rfl | ⟨hk, hs0⟩ | ⟨hk, hn0, hs64', hok2⟩
    · have hf := hid (show vput vl0 = [0] by rfl)
      unfold vl0 at kb3
      have y0 := kb3.out.cell 0
      have y1 := kb3.out.cell 1
      have y2 := kb3.out.cell 2
      simp only [List.getElem?_toArray, List.getElem?_cons_zero, List.getElem?_cons_succ] at y0 y1 y2
      clear hok
      go_wp2_with (
        at_builtin
        refine wpList_append_rd _ rfl (.tmp 34) (.tmp 35) 22 rfl W1.heap.size 5 ib _ 1 1 Tryd.underlying22 hb0 hb1 hb2 hb3 rfl (by omega) (.slice A2 bs.length c2) bs.length (bcells bs) rfl (hown3.out.alloc _) (fun b => b = w3.heap.size) (some ⟨w3.heap.size, 0, none⟩) 1 1 [.int .u8 (0)] rfl (Rd.new w3 5 1 1 #[.int .u8 (0)] _ rfl rfl) (by intro u hu; simp at hu; subst hu; rfl) (by simp only [maxLen]; have := hbl.out; omega) (by have := hbl.out; omega) (by have := hB3.out.size; simp; omega) ?_
        intro v4 w4 hown4 hg4 hat4
        have hb4 := hid ((hB3.out.alloc hB3.out.size (.cells #[.int .u8 (0)] 5)).grown hg4 (by have := hB3.out.size; simp; omega) fun k hk => (hown3.out.lt k hk).1)
        obtain ⟨A4, c4, rfl, _⟩ := own_form hown4
        have hown4 : w4.ownsRow W1.heap.size 5 1 (.slice A4 (bs.length + 1) c4) (bs.length + 1) (bcells (bs ++ [0])) := by rw [bcells_snoc]; exact hown4
        have hown4 := hid hown4
        clear hg4 hat4)
      go_ret
      refine ⟨_, rfl, ?_, hB1.out.trans (hb4.out.mono (by have := hgW.out; omega))⟩
      rw [hf.out]
      simpa using own_base (base' := w.heap.size) (by have := hgW.out; omega) hown4.out
    · have hf := hid (show vput v = 1 :: putU (zig v.n) by unfold vput; rw [if_pos hok, if_pos hk])
      obtain ⟨k, n, s⟩ := v
      simp only at hk hs0 hnn hf
      subst hk
      have hnn := hnn.out
      clear hok
      go_upto_region 4 with fail
      have y0 := kb3.out.cell 0
      have y1 := kb3.out.cell 1
      have y2 := kb3.out.cell 2
      simp only [List.getElem?_toArray, List.getElem?_cons_zero, List.getElem?_cons_succ] at y0 y1 y2
      go_upto_region 5 with fail
      have y0 := y1
      clear y1 y2
      have hcon : Hid (∀ (A : Option Addr) (c : Nat) (W : World), Rd (fun b => W1.heap.size ≤ b) W 1 A (bs.length + 1) (bcells bs ++ [.int .u8 1]) → Calls Tryd.prog 42 #[.slice A (bs.length + 1) c, .int .i64 n] W fun e w' => ∃ x, e = .returned x ∧ Cloned 5 1 (bcells (bs ++ 1 :: putU (zig n))) (bs ++ 1 :: putU (zig n)).length W x w') := hid fun A c W h => by
        have h2 : Rd (fun b => W1.heap.size ≤ b) W 1 A (bs ++ [1]).length (bcells (bs ++ [1])) := by rw [bcells_snoc, List.length_append]; exact h
        have h3 := putInt_any _ A c (bs ++ [1]) n W h2 hnn.1 hnn.2 (by simp; have := hbl.out; omega)
        have hl1 : (bs ++ [1]).length = bs.length + 1 := by simp
        rw [List.append_assoc, hl1] at h3
        exact h3
      have y3 : (w3.alloc (.cells #[.int .u8 1] 5)).cell? ⟨w.heap.size, 1, none⟩ = some (.int .i64 n) := (kb1.out.below_all (hB3.out.alloc hB3.out.size _)).cell 1
      go_region_held3 (fun w' => w'.cell? ⟨w.heap.size, 1, none⟩ = some (.int .i64 n)) (first | exact y0 | exact y3 | exact y1 | exact y2)
        ((first
          | (go_at_call 42
             refine (hcon.out A4 c4 _ hrd4.out).mono ?_
             rintro e w5 ⟨v, rfl, hown50, hb50⟩
             have hown5 := hid hown50
             have hb5 := hid (hb4.out.trans (hb50.mono hb4.out.size))
             have y2 : w5.cell? ⟨w.heap.size, 1, none⟩ = some (.int .i64 n) := (kb1.out.below_all hb5.out).cell 1
             clear hown50 hb50)
          | (refine step_append_rd (w3.alloc (.cells #[.int .u8 1] 5)).drew rfl (.tmp 18) (.tmp 19) 22 rfl W1.heap.size 5 ib _ 1 1 Tryd.underlying22 hb0 hb1 hb2 hb3 rfl (by omega) (.slice A2 bs.length c2) bs.length (bcells bs) rfl (World.ownsRow.drew (hown3.out.alloc _)) (fun b => b = w3.heap.size) (some ⟨w3.heap.size, 0, none⟩) 1 1 [.int .u8 1] rfl (Rd.new w3 5 1 1 #[.int .u8 1] w3.heap.size rfl rfl).drew (by intro u hu; simp at hu; subst hu; rfl) (by simp only [maxLen]; have := hbl.out; omega) (by have := hbl.out; omega) (by have := hB3.out.size; simp; omega) (bs.length + 1) rfl (bcells bs ++ [.int .u8 1]) rfl ?_
             intro A4 c4 w4 hown40 hg4 hat4
             have hb40 := ((hB3.out.alloc hB3.out.size (.cells #[.int .u8 1] 5)).drew).grown hg4 (by have := hB3.out.size; simp; omega) fun k hk => (hown3.out.lt k hk).1
             have hb4 := hid hb40
             have y1 : w4.cell? ⟨w.heap.size, 1, none⟩ = some (.int .i64 n) := (kb1.out.below_all hb40).cell 1
             have hrd4 := hid (Rd.of_own' hown40)
             clear hb40 hg4 hat4)))
      all_goals
        go_wp2_with fail
        go_ret
        refine ⟨_, rfl, ?_, hB1.out.trans (hb5.out.mono (by have := hgW.out; omega))⟩
        rw [hf.out]
        exact own_base (by have := hgW.out; have := hb4.out.size; omega) hown5.out
    · have hf := hid (show vput v = 2 :: (putU v.s.size ++ tb v.s) by unfold vput; rw [if_pos hok, if_neg (by omega), if_pos hk])
      obtain ⟨k, n, s⟩ := v
      simp only at hk hn0 hs64' hf
      subst hk
      have hs64 := hid hs64'
      clear hok hnn hs64'
      go_upto_region 4 with fail
      have y0 := kb3.out.cell 0
      have y1 := kb3.out.cell 1
      have y2 := kb3.out.cell 2
      simp only [List.getElem?_toArray, List.getElem?_cons_zero, List.getElem?_cons_succ] at y0 y1 y2
      go_upto_region 7 with fail
      have y0 := y2
      clear y1 y2
      have hcon : Hid (∀ (A : Option Addr) (c : Nat) (W : World), Rd (fun b => W1.heap.size ≤ b) W 1 A (bs.length + 1) (bcells bs ++ [.int .u8 2]) → Calls Tryd.prog 43 #[.slice A (bs.length + 1) c, .string s] W fun e w' => ∃ x, e = .returned x ∧ Cloned 5 1 (bcells (bs ++ 2 :: (putU s.size ++ tb s))) (bs ++ 2 :: (putU s.size ++ tb s)).length W x w') := hid fun A c W h => by
        have h2 : Rd (fun b => W1.heap.size ≤ b) W 1 A (bs ++ [2]).length (bcells (bs ++ [2])) := by rw [bcells_snoc, List.length_append]; exact h
        have h3 := putText_any _ A c (bs ++ [2]) s W h2 (by have := hs64.out; omega) (by simp; have := hbl.out; omega)
        have hl1 : (bs ++ [2]).length = bs.length + 1 := by simp
        rw [List.append_assoc, hl1] at h3
        exact h3
      have y3 : (w3.alloc (.cells #[.int .u8 2] 5)).cell? ⟨w.heap.size, 2, none⟩ = some (.string s) := (kb1.out.below_all (hB3.out.alloc hB3.out.size _)).cell 2
      go_region_held3 (fun w' => w'.cell? ⟨w.heap.size, 2, none⟩ = some (.string s)) (first | exact y0 | exact y3 | exact y1 | exact y2)
        ((first
          | (go_at_call 43
             refine (hcon.out A4 c4 _ hrd4.out).mono ?_
             rintro e w5 ⟨v, rfl, hown50, hb50⟩
             have hown5 := hid hown50
             have hb5 := hid (hb4.out.trans (hb50.mono hb4.out.size))
             have y2 : w5.cell? ⟨w.heap.size, 2, none⟩ = some (.string s) := (kb1.out.below_all hb5.out).cell 2
             clear hown50 hb50)
          | (refine step_append_rd (w3.alloc (.cells #[.int .u8 2] 5)).drew rfl (.tmp 28) (.tmp 29) 22 rfl W1.heap.size 5 ib _ 1 1 Tryd.underlying22 hb0 hb1 hb2 hb3 rfl (by omega) (.slice A2 bs.length c2) bs.length (bcells bs) rfl (World.ownsRow.drew (hown3.out.alloc _)) (fun b => b = w3.heap.size) (some ⟨w3.heap.size, 0, none⟩) 1 1 [.int .u8 2] rfl (Rd.new w3 5 1 1 #[.int .u8 2] w3.heap.size rfl rfl).drew (by intro u hu; simp at hu; subst hu; rfl) (by simp only [maxLen]; have := hbl.out; omega) (by have := hbl.out; omega) (by have := hB3.out.size; simp; omega) (bs.length + 1) rfl (bcells bs ++ [.int .u8 2]) rfl ?_
             intro A4 c4 w4 hown40 hg4 hat4
             have hb40 := ((hB3.out.alloc hB3.out.size (.cells #[.int .u8 2] 5)).drew).grown hg4 (by have := hB3.out.size; simp; omega) fun k hk => (hown3.out.lt k hk).1
             have hb4 := hid hb40
             have y1 : w4.cell? ⟨w.heap.size, 2, none⟩ = some (.string s) := (kb1.out.below_all hb40).cell 2
             have hrd4 := hid (Rd.of_own' hown40)
             clear hb40 hg4 hat4)))
      all_goals
        go_wp2_with fail
        go_ret
        refine ⟨_, rfl, ?_, hB1.out.trans (hb5.out.mono (by have := hgW.out; omega))⟩
        rw [hf.out]
        exact own_base (by have := hgW.out; have := hb4.out.size; omega) hown5.out
set_option maxRecDepth 100000 in
set_option maxHeartbeats 1000000 in
theorem rvput_any (S : Nat → Prop) (A0 : Option Addr) (c0 : Nat) (bs : List Nat) (v : Vl) (w : World) (ha : Rd S w 1 A0 bs.length (bcells bs)) (hs : v.s.size ≤ 9223372036854775806) (hn1 : -9223372036854775808 ≤ v.n) (hn2 : v.n ≤ 9223372036854775807) (hl : bs.length ≤ 140737488353000) :
    Calls Tryd.prog 13 #[.slice A0 bs.length c0, .agg #[.int .i64 v.k, .int .i64 v.n, .string v.s]] w fun e w' => ∃ x, e = .returned x ∧ Cloned 5 1 (bcells (bs ++ vput v)) (bs ++ vput v).length w x w' := by
  obtain ⟨ib, hb0, hb1, hb2, hb3⟩ := info_parts info_u8
  have hgd := guardVal
  have hval := hid (fun W => rvalid_any v W hs)
  have hbl := hid hl
  have hnn := hid (And.intro hn1 hn2)
  have hB0 : Below w.heap.size w (w.alloc (.cells #[.int .i64 v.k, .int .i64 v.n, .string v.s] 24)) := (Below.refl _ _).alloc (Nat.le_refl _) _
  have hra0 := ha.below_all hB0
  have kb0 := Blk.new w 24 #[.int .i64 v.k, .int .i64 v.n, .string v.s]
  have hz0 : (w.alloc (.cells #[.int .i64 v.k, .int .i64 v.n, .string v.s] 24)).heap.size = w.heap.size + 1 := by simp
  have hB1 := hid hB0; have kb := hid kb0; have kb1 := hid kb0; have hz1 := hid hz0
  go_enter Tryd.func13, Tryd.ntmps13
  go_upto_region 1 with fail
  generalize w.alloc (.cells #[.int .i64 v.k, .int .i64 v.n, .string v.s] 24) = W1 at *
  have hra := hid (hra0.alloc (.cells #[] 5))
  have hgW := hid (show w.heap.size < W1.heap.size by rw [hz1.out]; omega)
  clear ha hs hn1 hn2 hl hB0 hra0 kb0 hz0
  go_wp2_with (
    at_builtin
    refine wpList_append_rd _ rfl (.tmp 6) (.tmp 7) 22 rfl W1.heap.size 5 ib _ 1 1 Tryd.underlying22 hb0 hb1 hb2 hb3 rfl (by omega) (.slice (some ⟨W1.heap.size, 0, none⟩) 0 0) 0 [] rfl (own_empty W1 5 1) S A0 bs.length c0 (bcells bs) rfl hra.out (bcells_one bs) (by simp only [maxLen]; have := hbl.out; omega) (by have := hbl.out; omega) (by simp) ?_
    intro v2 w2 hown0 hg0 hat0
    have hB20 := below_of_copy hg0
    obtain ⟨A2, c2, rfl, _⟩ := own_form hown0
    have hown2 : Hid (w2.ownsRow W1.heap.size 5 1 (.slice A2 bs.length c2) bs.length (bcells bs)) := hid (by simpa using hown0)
    have hB2 := hid hB20
    have kb2 := hid (kb.out.below_all hB20)
    have x0 := kb2.out.cell 0
    have x1 := kb2.out.cell 1
    have x2 := kb2.out.cell 2
    simp only [List.getElem?_toArray, List.getElem?_cons_zero, List.getElem?_cons_succ] at x0 x1 x2
    rw [Nat.zero_add]
    clear hown0 hB20 hg0 hat0 kb)
  refine (hval.out _).mono ?_
  rintro e w3 ⟨rfl, hb30⟩
  have hB3 := hid (hB2.out.trans (hb30.mono hB2.out.size))
  have hown3 := hid (own_below hown2.out hb30)
  have kb3 := hid (kb2.out.below_all hb30)
  clear hb30 x0 x1 x2 kb2 hown2 hB2 hra
  cases hok : v.ok with
  | false =>
    have hf := hid (show vput v = [] by unfold vput; rw [hok]; rfl)
    clear hok
    go_wp2_with fail
    go_ret
    refine ⟨_, rfl, ?_, hB1.out.trans (hB3.out.mono (by have := hgW.out; omega))⟩
    rw [hf.out, List.append_nil]
    exact own_base (by have := hgW.out; omega) hown3.out
  | true =>
    rcases ok_forms hok with rfl | ⟨hk, hs0⟩ | ⟨hk, hn0, hs64', hok2⟩
    · have hf := hid (show vput vl0 = [0] by rfl)
      unfold vl0 at kb3 kb1
      have y0 := kb3.out.cell 0
      have y1 := kb3.out.cell 1
      have y2 := kb3.out.cell 2
      simp only [List.getElem?_toArray, List.getElem?_cons_zero, List.getElem?_cons_succ] at y0 y1 y2
      clear hok
      have f1 : IntKind.u8.wrap 0 = 0 := by decide
      go_wp2_with (
        at_builtin
        refine wpList_append_rd _ rfl (.tmp 13) (.tmp 17) 22 rfl W1.heap.size 5 ib _ 1 1 Tryd.underlying22 hb0 hb1 hb2 hb3 rfl (by omega) (.slice A2 bs.length c2) bs.length (bcells bs) rfl (hown3.out.alloc _) (fun b => b = w3.heap.size) (some ⟨w3.heap.size, 0, none⟩) 1 1 [.int .u8 (0)] rfl (Rd.new w3 5 1 1 #[.int .u8 (0)] _ rfl rfl) (by intro u hu; simp at hu; subst hu; rfl) (by simp only [maxLen]; have := hbl.out; omega) (by have := hbl.out; omega) (by have := hB3.out.size; simp; omega) ?_
        intro v4 w4 hown4 hg4 hat4
        have hb4 := hid ((hB3.out.alloc hB3.out.size (.cells #[.int .u8 (0)] 5)).grown hg4 (by have := hB3.out.size; simp; omega) fun k hk => (hown3.out.lt k hk).1)
        obtain ⟨A4, c4, rfl, _⟩ := own_form hown4
        have hown4 : w4.ownsRow W1.heap.size 5 1 (.slice A4 (bs.length + 1) c4) (bs.length + 1) (bcells (bs ++ [0])) := by rw [bcells_snoc]; exact hown4
        have hown4 := hid hown4
        clear hg4 hat4
        have z0 := (kb1.out.below_all hb4.out).cell 0
        have z1 := (kb1.out.below_all hb4.out).cell 1
        have z2 := (kb1.out.below_all hb4.out).cell 2
        simp only [List.getElem?_toArray, List.getElem?_cons_zero, List.getElem?_cons_succ] at z0 z1 z2)
      go_ret
      refine ⟨_, rfl, ?_, hB1.out.trans (hb4.out.mono (by have := hgW.out; omega))⟩
      rw [hf.out]
      simpa using own_base (base' := w.heap.size) (by have := hgW.out; omega) hown4.out
    · have hf := hid (show vput v = 1 :: putU (zig v.n) by unfold vput; rw [if_pos hok, if_pos hk])
      obtain ⟨k, n, s⟩ := v
      simp only at hk hs0 hnn hf
      subst hk
      have hnn := hnn.out
      clear hok
      have f1 : IntKind.u8.wrap 1 = 1 := by decide
      have hcon : Hid (∀ (A : Option Addr) (c : Nat) (W : World), Rd (fun b => W1.heap.size ≤ b) W 1 A (bs.length + 1) (bcells bs ++ [.int .u8 1]) → Calls Tryd.prog 44 #[.slice A (bs.length + 1) c, .int .i64 n] W fun e w' => ∃ x, e = .returned x ∧ Cloned 5 1 (bcells (bs ++ 1 :: putU (zig n))) (bs ++ 1 :: putU (zig n)).length W x w') := hid fun A c W h => by
        have h2 : Rd (fun b => W1.heap.size ≤ b) W 1 A (bs ++ [1]).length (bcells (bs ++ [1])) := by rw [bcells_snoc, List.length_append]; exact h
        have h3 := rputInt_any _ A c (bs ++ [1]) n W h2 hnn.1 hnn.2 (by simp; have := hbl.out; omega)
        have hl1 : (bs ++ [1]).length = bs.length + 1 := by simp
        rw [List.append_assoc, hl1] at h3
        exact h3
      have y0 := kb3.out.cell 0
      have y1 := kb3.out.cell 1
      have y2 := kb3.out.cell 2
      simp only [List.getElem?_toArray, List.getElem?_cons_zero, List.getElem?_cons_succ] at y0 y1 y2
      go_wp2_with (
        at_builtin
        refine wpList_append_rd _ rfl (.tmp 13) (.tmp 17) 22 rfl W1.heap.size 5 ib _ 1 1 Tryd.underlying22 hb0 hb1 hb2 hb3 rfl (by omega) (.slice A2 bs.length c2) bs.length (bcells bs) rfl (hown3.out.alloc _) (fun b => b = w3.heap.size) (some ⟨w3.heap.size, 0, none⟩) 1 1 [.int .u8 (1)] rfl (Rd.new w3 5 1 1 #[.int .u8 (1)] _ rfl rfl) (by intro u hu; simp at hu; subst hu; rfl) (by simp only [maxLen]; have := hbl.out; omega) (by have := hbl.out; omega) (by have := hB3.out.size; simp; omega) ?_
        intro v4 w4 hown4 hg4 hat4
        have hb4 := hid ((hB3.out.alloc hB3.out.size (.cells #[.int .u8 (1)] 5)).grown hg4 (by have := hB3.out.size; simp; omega) fun k hk => (hown3.out.lt k hk).1)
        obtain ⟨A4, c4, rfl, _⟩ := own_form hown4
        have hown4 : w4.ownsRow W1.heap.size 5 1 (.slice A4 (bs.length + 1) c4) (bs.length + 1) (bcells (bs ++ [1])) := by rw [bcells_snoc]; exact hown4
        have hown4 := hid hown4
        clear hg4 hat4
        have z0 := (kb1.out.below_all hb4.out).cell 0
        have z1 := (kb1.out.below_all hb4.out).cell 1
        have z2 := (kb1.out.below_all hb4.out).cell 2
        simp only [List.getElem?_toArray, List.getElem?_cons_zero, List.getElem?_cons_succ] at z0 z1 z2)
      refine (hcon.out A4 c4 _ (by have h := Rd.of_own' hown4.out; rw [bcells_snoc] at h; exact h)).mono ?_
      rintro e w5 ⟨v, rfl, hown50, hb50⟩
      have hown5 := hid hown50
      have hb5 := hid (hb4.out.trans (hb50.mono hb4.out.size))
      clear hown50 hb50
      go_wp2_with fail
      go_ret
      refine ⟨_, rfl, ?_, hB1.out.trans (hb5.out.mono (by have := hgW.out; omega))⟩
      rw [hf.out]
      exact own_base (by have := hgW.out; have := hb4.out.size; omega) hown5.out
    · have hf := hid (show vput v = 2 :: (putU v.s.size ++ tb v.s) by unfold vput; rw [if_pos hok, if_neg (by omega), if_pos hk])
      obtain ⟨k, n, s⟩ := v
      simp only at hk hn0 hs64' hf
      subst hk
      have hs64 := hid hs64'
      clear hok hnn hs64'
      have f1 : IntKind.u8.wrap 2 = 2 := by decide
      have hcon : Hid (∀ (A : Option Addr) (c : Nat) (W : World), Rd (fun b => W1.heap.size ≤ b) W 1 A (bs.length + 1) (bcells bs ++ [.int .u8 2]) → Calls Tryd.prog 45 #[.slice A (bs.length + 1) c, .string s] W fun e w' => ∃ x, e = .returned x ∧ Cloned 5 1 (bcells (bs ++ 2 :: (putU s.size ++ tb s))) (bs ++ 2 :: (putU s.size ++ tb s)).length W x w') := hid fun A c W h => by
        have h2 : Rd (fun b => W1.heap.size ≤ b) W 1 A (bs ++ [2]).length (bcells (bs ++ [2])) := by rw [bcells_snoc, List.length_append]; exact h
        have h3 := rputText_any _ A c (bs ++ [2]) s W h2 (by have := hs64.out; omega) (by simp; have := hbl.out; omega)
        have hl1 : (bs ++ [2]).length = bs.length + 1 := by simp
        rw [List.append_assoc, hl1] at h3
        exact h3
      have y0 := kb3.out.cell 0
      have y1 := kb3.out.cell 1
      have y2 := kb3.out.cell 2
      simp only [List.getElem?_toArray, List.getElem?_cons_zero, List.getElem?_cons_succ] at y0 y1 y2
      go_wp2_with (
        at_builtin
        refine wpList_append_rd _ rfl (.tmp 13) (.tmp 17) 22 rfl W1.heap.size 5 ib _ 1 1 Tryd.underlying22 hb0 hb1 hb2 hb3 rfl (by omega) (.slice A2 bs.length c2) bs.length (bcells bs) rfl (hown3.out.alloc _) (fun b => b = w3.heap.size) (some ⟨w3.heap.size, 0, none⟩) 1 1 [.int .u8 (2)] rfl (Rd.new w3 5 1 1 #[.int .u8 (2)] _ rfl rfl) (by intro u hu; simp at hu; subst hu; rfl) (by simp only [maxLen]; have := hbl.out; omega) (by have := hbl.out; omega) (by have := hB3.out.size; simp; omega) ?_
        intro v4 w4 hown4 hg4 hat4
        have hb4 := hid ((hB3.out.alloc hB3.out.size (.cells #[.int .u8 (2)] 5)).grown hg4 (by have := hB3.out.size; simp; omega) fun k hk => (hown3.out.lt k hk).1)
        obtain ⟨A4, c4, rfl, _⟩ := own_form hown4
        have hown4 : w4.ownsRow W1.heap.size 5 1 (.slice A4 (bs.length + 1) c4) (bs.length + 1) (bcells (bs ++ [2])) := by rw [bcells_snoc]; exact hown4
        have hown4 := hid hown4
        clear hg4 hat4
        have z0 := (kb1.out.below_all hb4.out).cell 0
        have z1 := (kb1.out.below_all hb4.out).cell 1
        have z2 := (kb1.out.below_all hb4.out).cell 2
        simp only [List.getElem?_toArray, List.getElem?_cons_zero, List.getElem?_cons_succ] at z0 z1 z2)
      refine (hcon.out A4 c4 _ (by have h := Rd.of_own' hown4.out; rw [bcells_snoc] at h; exact h)).mono ?_
      rintro e w5 ⟨v, rfl, hown50, hb50⟩
      have hown5 := hid hown50
      have hb5 := hid (hb4.out.trans (hb50.mono hb4.out.size))
      clear hown50 hb50
      go_wp2_with fail
      go_ret
      refine ⟨_, rfl, ?_, hB1.out.trans (hb5.out.mono (by have := hgW.out; omega))⟩
      rw [hf.out]
      exact own_base (by have := hgW.out; have := hb4.out.size; omega) hown5.out

end Go.Proofs.YtbnpidmlcjofiaaDoor

namespace Go.Proofs.YtbnpidmlcjofiaaDoor
open Go.RowKit
set_option linter.unusedVariables false
set_option linter.unusedSimpArgs false

abbrev CrIn := RrOf 78
def CGave (e : Int) (en : Ending) : Prop := en = .panicked [{ v := .iface 104 (.agg #[.int .i64 e]), recovered := false }]
def Rr.to (r : Rr) (a : Nat) : Rr := { r with at_ := a }
/-- what a taking leaves: a value and the place behind it, or it gave up -/
def CPost (S : Nat → Prop) (w : World) (g : Nat) (A : Option Addr) (c : Nat) (r : Rr) (res : (Value × Nat) ⊕ Int) (e : Ending) (w' : World) : Prop :=
  Upd (fun k => k = g) w w' ∧ match res with
  | .inl (v, a) => e = .returned v ∧ CrIn S w' g A c (r.to a)
  | .inr x => CGave x e ∧ ∃ a, CrIn S w' g A c (r.to a)
section
variable {S : Nat → Prop} {w : World} {g : Nat} {A : Option Addr} {c : Nat} {r : Rr} {res : (Value × Nat) ⊕ Int} {F : FuncId} {args : Array Value}
theorem cp_ok {v : Value} {a : Nat} (hr : res = .inl (v, a)) (h : Calls Tryd.prog F args w (CPost S w g A c r res)) : Calls Tryd.prog F args w fun e w' => e = .returned v ∧ Upd (fun k => k = g) w w' ∧ CrIn S w' g A c (r.to a) :=
  h.mono fun e w' h => by subst hr; exact ⟨h.2.1, h.1, h.2.2⟩
theorem cp_bad {x : Int} (hr : res = .inr x) (h : Calls Tryd.prog F args w (CPost S w g A c r res)) : Calls Tryd.prog F args w fun e w' => e = .panicked [{ v := .iface 104 (.agg #[.int .i64 x]), recovered := false }] ∧ Upd (fun k => k = g) w w' ∧ ∃ a, CrIn S w' g A c (r.to a) :=
  h.mono fun e w' h => by subst hr; exact ⟨h.2.1, h.1, h.2.2⟩
end
def cbyteR (r : Rr) : (Value × Nat) ⊕ Int := match r.b[r.at_]? with | none => .inr 3 | some c => .inl (.int .u8 (c : Nat), r.at_ + 1)
def cuintR (r : Rr) : (Value × Nat) ⊕ Int := match num r.b r.at_ with | .inr e => .inr e | .inl (n, k) => .inl (.int .u64 (n : Nat), r.at_ + k)
def cintR (r : Rr) : (Value × Nat) ⊕ Int := match num r.b r.at_ with | .inr e => .inr e | .inl (n, k) => .inl (.int .i64 (zag n), r.at_ + k)
def climR (r : Rr) (most : Int) (er : Int) : (Value × Nat) ⊕ Int := match num r.b r.at_ with | .inr e => .inr e | .inl (n, k) => if most < n then .inr er else .inl (.int .i64 (n : Nat), r.at_ + k)
theorem Rr.to_self (r : Rr) : r.to r.at_ = r := rfl
theorem u8_low (m : Nat) (h : m < 256) : bits BinOp.andNot IntKind.u8 (m : Int) 128 = ((m % 128 : Nat) : Int) := by
  have h1 : ∀ x : Fin 256, bits BinOp.andNot IntKind.u8 ((x.val : Nat) : Int) 128 = ((x.val % 128 : Nat) : Int) := by decide +kernel
  exact h1 ⟨m, h⟩
theorem bits_or_u64_nat (a b : Nat) (ha : a < 18446744073709551616) (hb : b < 18446744073709551616) : bits .or .u64 (a : Int) (b : Int) = ((a ||| b : Nat) : Int) := by
  have hx : a ||| b < 2 ^ 64 := Nat.or_lt_two_pow (by omega) (by omega)
  have h1 : (BitVec.ofInt 64 (a : Int)).toNat = a := by
    rw [BitVec.ofInt_natCast, BitVec.toNat_ofNat]; exact Nat.mod_eq_of_lt (by omega)
  have h2 : (BitVec.ofInt 64 (b : Int)).toNat = b := by
    rw [BitVec.ofInt_natCast, BitVec.toNat_ofNat]; exact Nat.mod_eq_of_lt (by omega)
  show IntKind.u64.wrap ((BitVec.ofInt 64 (a : Int) ||| BitVec.ofInt 64 (b : Int)).toNat : Int) = _
  rw [BitVec.toNat_or, h1, h2, IntKind.wrap_u64]
  omega
theorem or_add (i acc m : Nat) (ha : acc < 128 ^ i) : acc ||| m * 128 ^ i = acc + m * 128 ^ i := by
  have e : (128 : Nat) ^ i = 2 ^ (7 * i) := by rw [Nat.pow_mul]
  rw [e] at ha ⊢
  have := Nat.two_pow_add_eq_or_of_lt ha m
  rw [Nat.mul_comm, Nat.or_comm, ← this]; omega
set_option maxRecDepth 100000 in
theorem cbyte_any {S : Nat → Prop} {w : World} {g : Nat} {A : Option Addr} {c : Nat} {r : Rr} (h : CrIn S w g A c r) : Calls Tryd.prog 77 #[.pointer (some ⟨g, 0, none⟩)] w (CPost S w g A c r (cbyteR r)) := by
  have H := hid h
  have kb := h.blk
  have x0 := kb.cell 0
  have x1 := kb.cell 1
  have x2 := kb.cell 2
  have x3 := kb.cell 3
  have x4 := kb.cell 4
  simp only [List.getElem?_toArray, List.getElem?_cons_zero, List.getElem?_cons_succ] at x0 x1 x2 x3 x4
  have fz := fun q => kb.frozen q
  have hlt := kb.lt
  have hat0 : (r.at_ : Int) ≤ (r.b.length : Int) := by have := h.at_le; omega
  by_cases hat : r.at_ < r.b.length
  · obtain ⟨ba, o, hA, hSb, hbl, hc⟩ := h.row.at_ (k := r.at_) (by omega)
    have hbg : ba ≠ g := h.ne _ hSb
    have y0 := hc r.at_ _ (bcells_at hat)
    have i2 : ¬ ((r.b.length : Int) ≤ (r.at_ : Int)) := by omega
    have i3 : (r.at_ : Int) < (r.b.length : Int) := by omega
    have hres : Hid (cbyteR r = .inl (.int .u8 ((r.b[r.at_] : Nat) : Int), r.at_ + 1)) := hid (by unfold cbyteR; rw [List.getElem?_eq_getElem hat])
    have f1 : IntKind.i64.wrap ((r.at_ : Int) + 1) = (r.at_ : Int) + 1 := by have := h.len; rw [IntKind.wrap_i64]; omega
    have f2 : IntKind.i64.wrap (r.at_ : Int) = (r.at_ : Int) := by have := h.len; rw [IntKind.wrap_i64]; omega
    have f3 : wrap64 (r.at_ : Int) = (r.at_ : Int) := by have := h.len; unfold wrap64; omega
    have U1 : Upd (fun k => k = g) w ((w.drewN 0).setCell ⟨g, 1, none⟩ (.int .i64 ((r.at_ : Int) + 1))) := ((Upd.refl (fun k => k = g) w).drewN 0).setCell (p := ⟨g, 1, none⟩) (fun _ => rfl) _
    have hcap := hid h.cap
    generalize r.b[r.at_] = cv at *
    subst hA
    clear hc h kb U1
    go_enter Tryd.func77, Tryd.ntmps77
    go_upto_region 1 with fail
    go_quiet (fail)
    go_upto_region 4 with fail
    have U1 : Upd (fun k => k = g) w ((w.drewN nq).setCell ⟨g, 1, none⟩ (.int .i64 ((r.at_ : Int) + 1))) := ((Upd.refl (fun k => k = g) w).drewN nq).setCell (p := ⟨g, 1, none⟩) (fun _ => rfl) _
    have hr1 : CrIn S ((w.drewN nq).setCell ⟨g, 1, none⟩ (.int .i64 ((r.at_ : Int) + 1))) g (some ⟨ba, o, none⟩) c (r.to (r.at_ + 1)) := H.out.go U1 (by simpa [Rr.to] using (H.out.blk.drewN nq).set_ 1 (.int .i64 ((r.at_ : Int) + 1))) rfl (by show r.at_ + 1 ≤ _; omega)
    have z0 : ((w.drewN nq).setCell ⟨g, 1, none⟩ (.int .i64 ((r.at_ : Int) + 1))).cell? ⟨ba, o + r.at_, none⟩ = some (.int .u8 (cv : Nat)) := U1.cell y0 hbg
    have hU1 := hid U1; have hR1 := hid hr1
    generalize (w.drewN nq).setCell ⟨g, 1, none⟩ (.int .i64 ((r.at_ : Int) + 1)) = w1 at *
    clear x0 x1 x2 x3 x4 fz hlt U1 hr1 y0
    have kb := hR1.out.blk
    have x0 : w1.cell? ⟨g, 0, none⟩ = some (.slice (some ⟨ba, o, none⟩) r.b.length c) := kb.cell 0
    have x1 : w1.cell? ⟨g, 1, none⟩ = some (.int .i64 ((r.at_ : Int) + 1)) := kb.cell 1
    have fz := fun q => kb.frozen q
    have hlt := kb.lt
    clear kb
    go_quiet (fail)
    go_wp2_with fail
    go_ret
    refine ⟨hU1.out.drewN _, ?_⟩
    rw [hres.out]
    exact ⟨rfl, hR1.out.drewN _⟩
  · have i2 : (r.b.length : Int) ≤ (r.at_ : Int) := by omega
    have hres : Hid (cbyteR r = .inr 3) := hid (by unfold cbyteR; rw [List.getElem?_eq_none (by omega)])
    clear h hat kb
    go_enter Tryd.func77, Tryd.ntmps77
    go_upto_region 1 with fail
    go_quiet (fail)
    go_wp2_with fail
    refine ⟨rfl, ?_⟩
    refine ⟨(Upd.refl _ _).drewN _, ?_⟩
    rw [hres.out]
    exact ⟨rfl, r.at_, H.out.drewN _⟩

end Go.Proofs.YtbnpidmlcjofiaaDoor

namespace Go.Proofs.YtbnpidmlcjofiaaDoor
open Go.RowKit
set_option linter.unusedVariables false
set_option linter.unusedSimpArgs false

set_option maxRecDepth 100000 in
set_option maxHeartbeats 2000000 in
theorem cuint_any {S : Nat → Prop} {w : World} {g : Nat} {A : Option Addr} {c : Nat} {r : Rr} (h : CrIn S w g A c r) : Calls Tryd.prog 95 #[.pointer (some ⟨g, 0, none⟩)] w (CPost S w g A c r (cuintR r)) := by
  have H := hid h
  have hbyt := hid h.byt
  clear h
  go_enter Tryd.func95, Tryd.ntmps95
  go_wp2_with fail
  go_loopw [3, 6] (fun n v wr => ∃ (i acc : Nat), n = .int .u64 (acc : Nat) ∧ v = .int .i64 i ∧ i ≤ 9 ∧ acc < 128 ^ i ∧ numF r.b r.at_ (10 - i) i acc = num r.b r.at_ ∧ Upd (fun k => k = g) w wr ∧ CrIn S wr g A c (r.to (r.at_ + i))) (fun n v _ => 10 - (intOf v).toNat)
  case atStart => exact ⟨0, 0, rfl, rfl, by omega, by simp, rfl, Upd.refl _ _, H.out⟩
  case round =>
    obtain ⟨i, acc, rfl, rfl, hi, hacc0, hn0, hU0, hR0⟩ := hrel
    have hacc := hid hacc0; have hn := hid hn0; have hU := hid hU0; have hR := hid hR0
    clear hacc0 hn0 hU0 hR0
    have hcby := hid (cbyte_any hR.out)
    have i1 : (i : Int) < 10 := by omega
    have f9 : IntKind.i64.wrap ((i : Int) + 1) = (i : Int) + 1 := by rw [IntKind.wrap_i64]; omega
    cases hb : r.b[r.at_ + i]? with
    | none =>
      have hok : cbyteR (r.to (r.at_ + i)) = .inr 3 := by unfold cbyteR Rr.to; simp only; rw [hb]
      have hf : Hid (num r.b r.at_ = .inr 3) := hid (by rw [← hn.out, show 10 - i = (10 - (i + 1)) + 1 by omega, numF, hb])
      clear hb hi
      go_wp2_with fail
      refine (cp_bad hok hcby.out).mono ?_
      rintro e w2 ⟨rfl, hu0, a2, hr0⟩
      have hU2 := hid (hU.out.trans hu0 fun _ _ h => h)
      have hR2 : Hid (CrIn S w2 g A c (r.to a2)) := hid hr0
      clear hu0 hr0 hok hcby
      go_wp2_with fail
      refine ⟨rfl, ?_⟩
      refine ⟨hU2.out, ?_⟩
      rw [show cuintR r = .inr 3 by unfold cuintR; rw [hf.out]]
      exact ⟨rfl, _, hR2.out⟩
    | some cv =>
      have hok : cbyteR (r.to (r.at_ + i)) = .inl (.int .u8 (cv : Nat), r.at_ + i + 1) := by unfold cbyteR Rr.to; simp only; rw [hb]
      have hcb : cv < 256 := hbyt.out cv (List.mem_of_getElem? hb)
      have hst : num r.b r.at_ = if i = 9 ∧ 1 < cv then .inr 11 else if cv < 128 then (if 0 < i ∧ cv = 0 then .inr 10 else .inl (acc + cv * 128 ^ i, i + 1)) else numF r.b r.at_ (10 - (i + 1)) (i + 1) (acc + cv % 128 * 128 ^ i) := by
        rw [← hn.out, show 10 - i = (10 - (i + 1)) + 1 by omega, numF, hb]
      clear hb
      by_cases h9 : i = 9
      · have t9 : ((i : Int) == 9) = true := by simp [h9]
        by_cases h1 : 1 < cv
        · have h1' : (1 : Int) < (cv : Int) := by omega
          have hf : Hid (num r.b r.at_ = .inr 11) := hid (by rw [hst, if_pos ⟨h9, h1⟩])
          clear hst h1 h9
          go_wp2_with fail
          refine (cp_ok hok hcby.out).mono ?_
          rintro e w2 ⟨rfl, hu0, hr0⟩
          have hU2 := hid (hU.out.trans hu0 fun _ _ h => h)
          have hR2 : Hid (CrIn S w2 g A c (r.to (r.at_ + i + 1))) := hid hr0
          clear hu0 hr0 hok hcby
          go_wp2_with fail
          refine ⟨rfl, ?_⟩
          refine ⟨hU2.out, ?_⟩
          rw [show cuintR r = .inr 11 by unfold cuintR; rw [hf.out]]
          exact ⟨rfl, _, hR2.out⟩
        · have h1' : ¬ ((1 : Int) < (cv : Int)) := by omega
          have hc8 : (cv : Int) < 128 := by omega
          have i0 : (0 : Int) < (i : Int) := by omega
          by_cases hz : cv = 0
          · have z1 : ((cv : Int) == 0) = true := by simpa using hz
            have hf : Hid (num r.b r.at_ = .inr 10) := hid (by rw [hst, if_neg (by omega), if_pos (by omega), if_pos ⟨by omega, hz⟩])
            obtain ⟨m, hm⟩ : ∃ m, m = cv % 128 := ⟨_, rfl⟩
            obtain ⟨s, hs⟩ : ∃ s, s = 7 * i := ⟨_, rfl⟩
            obtain ⟨Q, hQ⟩ : ∃ Q, Q = acc + m * 128 ^ i := ⟨_, rfl⟩
            have hQl : Q < 18446744073709551616 := by rw [hQ, hm, hz]; have := hacc.out; have h4 : 128 ^ 9 < 18446744073709551616 := (by decide); rw [h9] at this; omega
            have fl : bits BinOp.andNot IntKind.u8 (cv : Int) 128 = (m : Int) := by rw [hm]; exact u8_low cv hcb
            have fc : IntKind.u64.wrap (m : Int) = (m : Int) := by rw [IntKind.wrap_u64]; omega
            have f7 : IntKind.i64.wrap (7 * (i : Int)) = (s : Int) := by rw [IntKind.wrap_i64]; omega
            have s64 : (s : Int) ≤ 64 := by omega
            have s64' : s ≤ 64 := by omega
            have fs : bits BinOp.or IntKind.u64 (acc : Int) (IntKind.u64.wrap ((m : Int) * 2 ^ s)) = (Q : Int) := by
              have e : (m : Int) * 2 ^ s = ((m * 128 ^ i : Nat) : Int) := by rw [hs, shl7, Int.natCast_mul]
              have e2 : IntKind.u64.wrap ((m * 128 ^ i : Nat) : Int) = ((m * 128 ^ i : Nat) : Int) := by
                rw [IntKind.wrap_u64]
                generalize m * 128 ^ i = X at *
                omega
              rw [e, e2, bits_or_u64_nat _ _ (by omega) (by generalize m * 128 ^ i = X at *; omega), or_add i acc m hacc.out, ← hQ]
            clear hst h1 hz hQ hQl hm hs h9 hi hcb
            go_wp2_with fail
            refine (cp_ok hok hcby.out).mono ?_
            rintro e w2 ⟨rfl, hu0, hr0⟩
            have hU2 := hid (hU.out.trans hu0 fun _ _ h => h)
            have hR2 : Hid (CrIn S w2 g A c (r.to (r.at_ + i + 1))) := hid hr0
            clear hu0 hr0 hok hcby
            go_wp2_with fail
            refine ⟨rfl, ?_⟩
            refine ⟨hU2.out, ?_⟩
            rw [show cuintR r = .inr 10 by unfold cuintR; rw [hf.out]]
            exact ⟨rfl, _, hR2.out⟩
          · have z1 : ((cv : Int) == 0) = false := by simpa using hz
            obtain ⟨m, hm⟩ : ∃ m, m = cv % 128 := ⟨_, rfl⟩
            obtain ⟨s, hs⟩ : ∃ s, s = 7 * i := ⟨_, rfl⟩
            obtain ⟨Q, hQ⟩ : ∃ Q, Q = acc + m * 128 ^ i := ⟨_, rfl⟩
            have hQl : Q < 18446744073709551616 := by have hc1 : m = 1 := (by omega); rw [hQ, hc1]; have := hacc.out; have h4 : 128 ^ 9 * 2 = 18446744073709551616 := (by decide); rw [h9] at this ⊢; omega
            have fl : bits BinOp.andNot IntKind.u8 (cv : Int) 128 = (m : Int) := by rw [hm]; exact u8_low cv hcb
            have fc : IntKind.u64.wrap (m : Int) = (m : Int) := by rw [IntKind.wrap_u64]; omega
            have f7 : IntKind.i64.wrap (7 * (i : Int)) = (s : Int) := by rw [IntKind.wrap_i64]; omega
            have s64 : (s : Int) ≤ 64 := by omega
            have s64' : s ≤ 64 := by omega
            have fs : bits BinOp.or IntKind.u64 (acc : Int) (IntKind.u64.wrap ((m : Int) * 2 ^ s)) = (Q : Int) := by
              have e : (m : Int) * 2 ^ s = ((m * 128 ^ i : Nat) : Int) := by rw [hs, shl7, Int.natCast_mul]
              have e2 : IntKind.u64.wrap ((m * 128 ^ i : Nat) : Int) = ((m * 128 ^ i : Nat) : Int) := by
                rw [IntKind.wrap_u64]
                generalize m * 128 ^ i = X at *
                omega
              rw [e, e2, bits_or_u64_nat _ _ (by omega) (by generalize m * 128 ^ i = X at *; omega), or_add i acc m hacc.out, ← hQ]
            have hf : Hid (num r.b r.at_ = .inl (Q, i + 1)) := hid (by rw [hst, if_neg (by omega), if_pos (by omega), if_neg (by omega), hQ, hm, Nat.mod_eq_of_lt (by omega)])
            clear hst h1 hz hQ hQl hm hs h9 hi hcb
            go_wp2_with fail
            refine (cp_ok hok hcby.out).mono ?_
            rintro e w2 ⟨rfl, hu0, hr0⟩
            have hU2 := hid (hU.out.trans hu0 fun _ _ h => h)
            have hR2 : Hid (CrIn S w2 g A c (r.to (r.at_ + i + 1))) := hid hr0
            clear hu0 hr0 hok hcby
            go_wp2_with fail
            go_ret
            refine ⟨hU2.out, ?_⟩
            rw [show cuintR r = .inl (.int .u64 (Q : Nat), r.at_ + (i + 1)) by unfold cuintR; rw [hf.out]]
            exact ⟨rfl, hR2.out⟩
      · have t9 : ((i : Int) == 9) = false := by simp; omega
        have hq := acc_lt (c := cv) (show i < 9 by omega) hacc.out
        obtain ⟨m, hm⟩ : ∃ m, m = cv % 128 := ⟨_, rfl⟩
        obtain ⟨s, hs⟩ : ∃ s, s = 7 * i := ⟨_, rfl⟩
        obtain ⟨Q, hQ⟩ : ∃ Q, Q = acc + m * 128 ^ i := ⟨_, rfl⟩
        have hQl : Q < 18446744073709551616 := by rw [hQ, hm]; exact hq.2
        have fl : bits BinOp.andNot IntKind.u8 (cv : Int) 128 = (m : Int) := by rw [hm]; exact u8_low cv hcb
        have fc : IntKind.u64.wrap (m : Int) = (m : Int) := by rw [IntKind.wrap_u64]; omega
        have f7 : IntKind.i64.wrap (7 * (i : Int)) = (s : Int) := by rw [IntKind.wrap_i64]; omega
        have s64 : (s : Int) ≤ 64 := by omega
        have s64' : s ≤ 64 := by omega
        have fs : bits BinOp.or IntKind.u64 (acc : Int) (IntKind.u64.wrap ((m : Int) * 2 ^ s)) = (Q : Int) := by
          have e : (m : Int) * 2 ^ s = ((m * 128 ^ i : Nat) : Int) := by rw [hs, shl7, Int.natCast_mul]
          have e2 : IntKind.u64.wrap ((m * 128 ^ i : Nat) : Int) = ((m * 128 ^ i : Nat) : Int) := by
            rw [IntKind.wrap_u64]
            generalize m * 128 ^ i = X at *
            omega
          rw [e, e2, bits_or_u64_nat _ _ (by omega) (by generalize m * 128 ^ i = X at *; omega), or_add i acc m hacc.out, ← hQ]
        by_cases h8 : cv < 128
        · have hc8 : (cv : Int) < 128 := by omega
          by_cases hi0 : 0 < i
          · have i0 : (0 : Int) < (i : Int) := by omega
            by_cases hz : cv = 0
            · have z1 : ((cv : Int) == 0) = true := by simpa using hz
              have hf : Hid (num r.b r.at_ = .inr 10) := hid (by rw [hst, if_neg (by omega), if_pos h8, if_pos ⟨hi0, hz⟩])
              clear hst h8 hz hi0 hq hQ hQl hm hs h9 hi hcb
              go_wp2_with fail
              refine (cp_ok hok hcby.out).mono ?_
              rintro e w2 ⟨rfl, hu0, hr0⟩
              have hU2 := hid (hU.out.trans hu0 fun _ _ h => h)
              have hR2 : Hid (CrIn S w2 g A c (r.to (r.at_ + i + 1))) := hid hr0
              clear hu0 hr0 hok hcby
              go_wp2_with fail
              refine ⟨rfl, ?_⟩
              refine ⟨hU2.out, ?_⟩
              rw [show cuintR r = .inr 10 by unfold cuintR; rw [hf.out]]
              exact ⟨rfl, _, hR2.out⟩
            · have z1 : ((cv : Int) == 0) = false := by simpa using hz
              have hf : Hid (num r.b r.at_ = .inl (Q, i + 1)) := hid (by rw [hst, if_neg (by omega), if_pos h8, if_neg (by omega), hQ, hm, Nat.mod_eq_of_lt h8])
              clear hst h8 hz hi0 hq hQ hQl hm hs h9 hi hcb
              go_wp2_with fail
              refine (cp_ok hok hcby.out).mono ?_
              rintro e w2 ⟨rfl, hu0, hr0⟩
              have hU2 := hid (hU.out.trans hu0 fun _ _ h => h)
              have hR2 : Hid (CrIn S w2 g A c (r.to (r.at_ + i + 1))) := hid hr0
              clear hu0 hr0 hok hcby
              go_wp2_with fail
              go_ret
              refine ⟨hU2.out, ?_⟩
              rw [show cuintR r = .inl (.int .u64 (Q : Nat), r.at_ + (i + 1)) by unfold cuintR; rw [hf.out]]
              exact ⟨rfl, hR2.out⟩
          · have i0 : ¬ ((0 : Int) < (i : Int)) := by omega
            have hf : Hid (num r.b r.at_ = .inl (Q, i + 1)) := hid (by rw [hst, if_neg (by omega), if_pos h8, if_neg (by omega), hQ, hm, Nat.mod_eq_of_lt h8])
            clear hst h8 hi0 hq hQ hQl hm hs h9 hi hcb
            go_wp2_with fail
            refine (cp_ok hok hcby.out).mono ?_
            rintro e w2 ⟨rfl, hu0, hr0⟩
            have hU2 := hid (hU.out.trans hu0 fun _ _ h => h)
            have hR2 : Hid (CrIn S w2 g A c (r.to (r.at_ + i + 1))) := hid hr0
            clear hu0 hr0 hok hcby
            go_wp2_with fail
            go_ret
            refine ⟨hU2.out, ?_⟩
            rw [show cuintR r = .inl (.int .u64 (Q : Nat), r.at_ + (i + 1)) by unfold cuintR; rw [hf.out]]
            exact ⟨rfl, hR2.out⟩
        · have hc8 : ¬ ((cv : Int) < 128) := by omega
          have hc9 : (128 : Int) ≤ (cv : Int) := by omega
          have hnx := hid (show numF r.b r.at_ (10 - (i + 1)) (i + 1) Q = num r.b r.at_ by rw [hst, if_neg (by omega), if_neg h8, hQ, hm])
          have hqa := hid (show Q < 128 ^ (i + 1) by rw [hQ, hm]; exact hq.1)
          have hi9 := hid (show i + 1 ≤ 9 by omega)
          clear hst h8 hq hQ hQl hm hs h9 hi hcb
          go_wp2_with fail
          refine (cp_ok hok hcby.out).mono ?_
          rintro e w2 ⟨rfl, hu0, hr0⟩
          have hU2 := hid (hU.out.trans hu0 fun _ _ h => h)
          have hR2 : Hid (CrIn S w2 g A c (r.to (r.at_ + i + 1))) := hid hr0
          clear hu0 hr0 hok hcby
          go_wp2_with fail
          go_roundw
          case rel => exact ⟨i + 1, Q, rfl, by go_num, hi9.out, hqa.out, hnx.out, hU2.out, hR2.out⟩
          case measure => simp [intOf]; have := hi9.out; omega

end Go.Proofs.YtbnpidmlcjofiaaDoor

namespace Go.Proofs.YtbnpidmlcjofiaaDoor
open Go.RowKit
set_option linter.unusedVariables false
set_option linter.unusedSimpArgs false

/-- memory while a thing is read: the box of r, the result x, the place from -/
structure RX (S : Nat → Prop) (w W : World) (g : Nat) (A : Option Addr) (c : Nat) (r : Rr) (TX : TypeId) (vx : Value) (fr : Nat) : Prop where
  rd : CrIn S W g A c r
  sb : ∀ k, S k → k < w.heap.size
  gb : g < w.heap.size
  bx : Blk W w.heap.size 36 #[.pointer (some ⟨g, 0, none⟩)]
  x : Blk W (w.heap.size + 1) TX #[vx]
  fr : Blk W (w.heap.size + 1 + 1) 3 #[.int .i64 (fr : Nat)]
  up : Upd (fun k => k = g) w W
section
variable {S : Nat → Prop} {w W W' : World} {g : Nat} {A : Option Addr} {c : Nat} {r r' : Rr} {TX : TypeId} {vx : Value} {fr : Nat}
theorem RX.call (h : RX S w W g A c r TX vx fr) (hu : Upd (fun k => k = g) W W') (hr : CrIn S W' g A c r') : RX S w W' g A c r' TX vx fr :=
  have := h.gb
  ⟨hr, h.sb, h.gb, h.bx.upd hu (by omega), h.x.upd hu (by omega), h.fr.upd hu (by omega), h.up.trans hu fun _ _ h => h⟩
theorem RX.below (h : RX S w W g A c r TX vx fr) (hb : Below W.heap.size W W') : RX S w W' g A c r TX vx fr :=
  ⟨h.rd.below_all hb, h.sb, h.gb, h.bx.below_all hb, h.x.below_all hb, h.fr.below_all hb, h.up.trans (Upd.of_below' hb Nil) fun _ _ h => h.elim⟩
theorem RX.drewN (h : RX S w W g A c r TX vx fr) (n : Nat) : RX S w (W.drewN n) g A c r TX vx fr := ⟨h.rd.drewN n, h.sb, h.gb, h.bx.drewN n, h.x.drewN n, h.fr.drewN n, h.up.drewN n⟩
theorem RX.drew (h : RX S w W g A c r TX vx fr) : RX S w W.drew g A c r TX vx fr := h.drewN 1
theorem RX.setX (h : RX S w W g A c r TX vx fr) (v : Value) : RX S w (W.setCell ⟨w.heap.size + 1, 0, none⟩ v) g A c r TX v fr := by
  have hg := h.gb
  have U : Upd (fun k => k = w.heap.size + 1) W (W.setCell ⟨w.heap.size + 1, 0, none⟩ v) := (Upd.refl (fun k => k = w.heap.size + 1) W).setCell (p := ⟨w.heap.size + 1, 0, none⟩) (fun _ => rfl) _
  refine ⟨h.rd.upd U (by omega) (fun b hb => by have := h.sb b hb; omega), h.sb, h.gb, h.bx.upd U (by omega), ?_, h.fr.upd U (by omega), h.up.trans U fun b hb e => by omega⟩
  simpa using h.x.set_ 0 v
theorem RX.setR (h : RX S w W g A c r TX vx fr) (i : Nat) (u : Value) (hc : (#[.slice A r.b.length c, .int .i64 (r.at_ : Nat), .int .i64 (r.last : Nat), .int .i64 r.e, .int .i64 (r.spot : Nat)] : Array Value).setIfInBounds i u = #[.slice A r.b.length c, .int .i64 (r'.at_ : Nat), .int .i64 (r'.last : Nat), .int .i64 r'.e, .int .i64 (r'.spot : Nat)]) (hb : r'.b = r.b) (ha : r'.at_ ≤ r.b.length) : RX S w (W.setCell ⟨g, i, none⟩ u) g A c r' TX vx fr := by
  have U : Upd (fun k => k = g) W (W.setCell ⟨g, i, none⟩ u) := (Upd.refl (fun k => k = g) W).setCell (p := ⟨g, i, none⟩) (fun _ => rfl) _
  exact h.call U (h.rd.go U (by rw [← hc]; exact h.rd.blk.set_ i u) hb ha)
theorem RX.cells (h : RX S w W g A c r TX vx fr) : W.cell? ⟨w.heap.size, 0, none⟩ = some (.pointer (some ⟨g, 0, none⟩)) ∧ W.cell? ⟨w.heap.size + 1, 0, none⟩ = some vx ∧ W.cell? ⟨w.heap.size + 1 + 1, 0, none⟩ = some (.int .i64 (fr : Nat)) ∧ (∀ q, W.frozen? ⟨w.heap.size + 1, q, none⟩ = false) ∧ (∀ q, W.frozen? ⟨g, q, none⟩ = false) ∧ W.cell? ⟨g, 1, none⟩ = some (.int .i64 (r.at_ : Nat)) ∧ W.cell? ⟨g, 2, none⟩ = some (.int .i64 (r.last : Nat)) ∧ W.cell? ⟨g, 3, none⟩ = some (.int .i64 r.e) ∧ W.cell? ⟨g, 4, none⟩ = some (.int .i64 (r.spot : Nat)) ∧ g < W.heap.size ∧ w.heap.size + 1 + 1 < W.heap.size :=
  ⟨h.bx.cell 0, h.x.cell 0, h.fr.cell 0, fun q => h.x.frozen q, fun q => h.rd.blk.frozen q, h.rd.blk.cell 1, h.rd.blk.cell 2, h.rd.blk.cell 3, h.rd.blk.cell 4, h.rd.blk.lt, h.fr.lt⟩
end

end Go.Proofs.YtbnpidmlcjofiaaDoor

namespace Go.Proofs.YtbnpidmlcjofiaaDoor
open Go.RowKit
set_option linter.unusedVariables false
set_option linter.unusedSimpArgs false

set_option maxRecDepth 100000 in
set_option maxHeartbeats 2000000 in
theorem cidle_byte {S : Nat → Prop} {w W : World} {g : Nat} {A : Option Addr} {c : Nat} {r : Rr} {vx : Value} {fr : Nat} (h : RX S w W g A c r 5 vx fr) :
    CallsD Tryd.prog 93 #[.pointer (some ⟨w.heap.size + 1 + 1, 0, none⟩), .pointer (some ⟨w.heap.size + 1, 0, none⟩), .pointer (some ⟨w.heap.size, 0, none⟩)] .returning W fun e u' W' => e = .returned (.tuple #[]) ∧ u' = .returning ∧ W' = W := by
  refine callsD_of_wpS Tryd.func93 rfl fun c₀ cs hu => ?_
  apply wpS_seq
  apply wpS_region
  simp [wpOpsS, go_sem, recoverD, hu, Tryd.ntmps93, Exit.thenS]
  refine wpS_of_wp ?_
  refine Code.wp_mono (Q := fun e a' W' => e = .normal ∧ a'.defers = [] ∧ W' = W) ?_ ?_
  · rintro e a' w' ⟨rfl, h1, rfl⟩
    simp [bodyPostS, Go.results, Tryd.results93, h1, hu]
    cases c₀
    simp_all
  clear hu
  have hne : ∀ w, (binOp .neq 20 .nilIface .nilIface).run Tryd.prog w = .ok (.bool false) w := fun w => by kernel_rfl
  have hfm : (#[.pointer (some ⟨w.heap.size + 1 + 1, 0, none⟩), .pointer (some ⟨w.heap.size + 1, 0, none⟩), .pointer (some ⟨w.heap.size, 0, none⟩)] : Array Value) ++ ((Array.replicate 29 undef).setIfInBounds 4 .nilIface).setIfInBounds 0 .nilIface = #[.pointer (some ⟨w.heap.size + 1 + 1, 0, none⟩), .pointer (some ⟨w.heap.size + 1, 0, none⟩), .pointer (some ⟨w.heap.size, 0, none⟩), .nilIface, undef, undef, undef, .nilIface, undef, undef, undef, undef, undef, undef, undef, undef, undef, undef, undef, undef, undef, undef, undef, undef, undef, undef, undef, undef, undef, undef, undef, undef] := by kernel_rfl
  rw [hfm]
  clear hfm
  go_wp2_with fail
set_option maxRecDepth 100000 in
set_option maxHeartbeats 2000000 in
theorem cpanic_byte {S : Nat → Prop} {w W : World} {g : Nat} {A : Option Addr} {c : Nat} {r : Rr} {vx : Value} {fr : Nat} (x : Int) (older : List PanicEntry) (hfr : fr ≤ r.b.length) (h : RX S w W g A c r 5 vx fr) :
    CallsD Tryd.prog 93 #[.pointer (some ⟨w.heap.size + 1 + 1, 0, none⟩), .pointer (some ⟨w.heap.size + 1, 0, none⟩), .pointer (some ⟨w.heap.size, 0, none⟩)] (.panicking ({ v := .iface 104 (.agg #[.int .i64 x]), recovered := false } :: older)) W fun e u' W' =>
      e = .returned (.tuple #[]) ∧ u' = .panicking ({ v := .iface 104 (.agg #[.int .i64 x]), recovered := true } :: older) ∧ RX S w W' g A c { r with at_ := fr, e := x, spot := fr } 5 (.int .u8 0) fr := by
  have hass : ∀ w, (Instr.typeAssert (.iface 104 (.agg #[.int .i64 x])) 20 104 true).run Tryd.prog w = .ok (.tuple #[.agg #[.int .i64 x], .bool true]) w := fun w => by kernel_rfl
  have hne : ∀ w, (binOp .neq 20 (.iface 104 (.agg #[.int .i64 x])) .nilIface).run Tryd.prog w = .ok (.bool true) w := fun w => by kernel_rfl
  refine callsD_of_wpS Tryd.func93 rfl fun c₀ cs hu => ?_
  apply wpS_seq
  apply wpS_region
  simp [wpOpsS, go_sem, recoverD, hu, Tryd.ntmps93, Exit.thenS]
  refine wpS_of_wp ?_
  refine Code.wp_mono (Q := fun e a' W' => e = .normal ∧ a'.defers = [] ∧ RX S w W' g A c { r with at_ := fr, e := x, spot := fr } 5 (.int .u8 0) fr) ?_ ?_
  · rintro e a' W' ⟨rfl, h1, h2⟩
    simp [bodyPostS, Go.results, Tryd.results93, h1]
    exact h2
  clear hu
  have kn := Blk.new W 104 #[.int .i64 x]
  have hb1 : Below W.heap.size W (W.alloc (.cells #[.int .i64 x] 104)) := (Below.refl _ _).alloc (Nat.le_refl _) _
  have H1 := hid (h.below hb1)
  have hz := hid h.fr.lt
  have hgz := hid h.gb
  have hF := hid hfr
  clear h hb1 hfr
  have hfm : (#[.pointer (some ⟨w.heap.size + 1 + 1, 0, none⟩), .pointer (some ⟨w.heap.size + 1, 0, none⟩), .pointer (some ⟨w.heap.size, 0, none⟩)] : Array Value) ++ ((Array.replicate 29 undef).setIfInBounds 4 (.iface 104 (.agg #[.int .i64 x]))).setIfInBounds 0 (.iface 104 (.agg #[.int .i64 x])) = #[.pointer (some ⟨w.heap.size + 1 + 1, 0, none⟩), .pointer (some ⟨w.heap.size + 1, 0, none⟩), .pointer (some ⟨w.heap.size, 0, none⟩), (.iface 104 (.agg #[.int .i64 x])), undef, undef, undef, (.iface 104 (.agg #[.int .i64 x])), undef, undef, undef, undef, undef, undef, undef, undef, undef, undef, undef, undef, undef, undef, undef, undef, undef, undef, undef, undef, undef, undef, undef, undef] := by kernel_rfl
  rw [hfm]
  clear hfm
  go_upto_region 6 with fail
  have n0 : (W.alloc (.cells #[.int .i64 x] 104)).cell? ⟨W.heap.size, 0, none⟩ = some (.int .i64 x) := kn.cell 0
  generalize W.alloc (.cells #[.int .i64 x] 104) = W1 at *
  clear kn
  obtain ⟨b0, x0, f0, fx, fg, r1, r2, r3, r4, hgl, hfl⟩ := H1.out.cells
  have e1 : ¬ W.heap.size = w.heap.size + 1 := by have := hz.out; omega
  have e2 : ¬ W.heap.size = g := by have := hz.out; have := hgz.out; omega
  have e3 : ¬ w.heap.size + 1 = W.heap.size := fun h => e1 h.symm
  have e4 : ¬ g = W.heap.size := fun h => e2 h.symm
  have e5 : ¬ w.heap.size + 1 = g := by have := hgz.out; omega
  have e6 : ¬ g = w.heap.size + 1 := fun h => e5 h.symm
  have e7 : ¬ w.heap.size = g := by have := hgz.out; omega
  have e8 : ¬ g = w.heap.size := fun h => e7 h.symm
  have e9 : ¬ w.heap.size + 1 + 1 = g := by have := hgz.out; omega
  have e10 : ¬ g = w.heap.size + 1 + 1 := fun h => e9 h.symm
  go_region
  all_goals
    refine ⟨rfl, rfl, ?_⟩
    refine RX.drew ?_
    exact ((((H1.out.setX _).setR (r' := { r with at_ := fr }) 1 (.int .i64 (fr : Nat)) rfl rfl hF.out).setR (r' := { r with at_ := fr, e := x }) 3 (.int .i64 x) rfl rfl hF.out).setR (r' := { r with at_ := fr, e := x, spot := fr }) 4 (.int .i64 (fr : Nat)) rfl rfl hF.out)
set_option maxRecDepth 100000 in
set_option maxHeartbeats 1000000 in
theorem cread_byte_err {S : Nat → Prop} {w : World} {g : Nat} {A : Option Addr} {c : Nat} {r : Rr} (h : CrIn S w g A c r) (hS : ∀ k, S k → k < w.heap.size) (he : r.e ≠ 0) : Calls Tryd.prog 76 #[.pointer (some ⟨g, 0, none⟩), .func (Fn.func 77) #[.pointer (some ⟨g, 0, none⟩)] #[]] w fun e w' => e = .returned (.int .u8 0) ∧ Upd (fun k => k = g) w w' ∧ CrIn S w' g A c r := by
  have hmf : ∀ (fn : Fn) (first cap : Array Value) (w : World), (Instr.makeFunc fn first cap).run Tryd.prog w = .ok (.func fn first cap) w := fun _ _ _ _ => rfl
  obtain ⟨W, hW⟩ : ∃ W, W = ((w.alloc (.cells #[.pointer (some ⟨g, 0, none⟩)] 36)).alloc (.cells #[.int .u8 0] 5)) := ⟨_, rfl⟩
  have hB0 : Hid (Below w.heap.size w W) := hid (by subst hW; exact ((Below.refl _ _).alloc (Nat.le_refl _) _).alloc (by simp) _)
  have kb : Hid (Blk W w.heap.size 36 #[.pointer (some ⟨g, 0, none⟩)]) := hid (by subst hW; exact (Blk.new w _ _).alloc _)
  have kx : Hid (Blk W (w.heap.size + 1) 5 #[.int .u8 0]) := hid (by subst hW; exact Blk.new' _ _ _ (by simp))
  have hsz : W.heap.size = w.heap.size + 1 + 1 := by subst hW; simp
  have hr0 := hid (h.below_all hB0.out)
  have hgb := hid h.blk.lt
  have hSb := hid hS
  have hne := hid h.ne
  have t1 : (r.e != 0) = true := by simpa using he
  clear h hS he
  go_enter_defers Tryd.func76, Tryd.ntmps76
  go_upto_region 1 with fail
  rw [← hW]
  clear hW
  have b0 : W.cell? ⟨w.heap.size, 0, none⟩ = some (.pointer (some ⟨g, 0, none⟩)) := kb.out.cell 0
  have x0 : W.cell? ⟨w.heap.size + 1, 0, none⟩ = some (.int .u8 0) := kx.out.cell 0
  have fx := fun q => kx.out.frozen q
  have r1 : W.cell? ⟨g, 1, none⟩ = some (.int .i64 (r.at_ : Nat)) := hr0.out.blk.cell 1
  have r3 : W.cell? ⟨g, 3, none⟩ = some (.int .i64 r.e) := hr0.out.blk.cell 3
  go_wp2_with fail
  have U : Upd (fun k => k = w.heap.size + 1) W (W.setCell ⟨w.heap.size + 1, 0, none⟩ (.int .u8 0)) := (Upd.refl (fun k => k = w.heap.size + 1) W).setCell (p := ⟨w.heap.size + 1, 0, none⟩) (fun _ => rfl) _
  refine ⟨.int .u8 0, ?_, rfl, (Upd.of_below' hB0.out _).trans U fun b hb e => by omega, hr0.out.upd U (by have := hgb.out; omega) fun b hb => by have := hSb.out b hb; omega⟩
  have HX : (W.setCell ⟨w.heap.size + 1, 0, none⟩ (.int .u8 0)).cell? ⟨w.heap.size + 1, 0, none⟩ = some (.int .u8 0) := (kx.out.set_ 0 (.int .u8 0)).cell 0
  simp [Go.results, Tryd.results76, asAddr, go_sem, HX]
set_option maxRecDepth 100000 in
set_option maxHeartbeats 1000000 in
theorem cread_byte_bad {S : Nat → Prop} {w : World} {g : Nat} {A : Option Addr} {c : Nat} {r : Rr} (h : CrIn S w g A c r) (hS : ∀ k, S k → k < w.heap.size) (he : r.e = 0) (res : (Value × Nat) ⊕ Int) (hT : ∀ W, Below w.heap.size w W → CrIn S W g A c r → Calls Tryd.prog 77 #[.pointer (some ⟨g, 0, none⟩)] W (CPost S W g A c r res)) (x : Int) (hres : res = .inr x) : Calls Tryd.prog 76 #[.pointer (some ⟨g, 0, none⟩), .func (Fn.func 77) #[.pointer (some ⟨g, 0, none⟩)] #[]] w fun e w' => e = .returned (.int .u8 0) ∧ Upd (fun k => k = g) w w' ∧ CrIn S w' g A c (r.fails x) := by
  have hmf : ∀ (fn : Fn) (first cap : Array Value) (w : World), (Instr.makeFunc fn first cap).run Tryd.prog w = .ok (.func fn first cap) w := fun _ _ _ _ => rfl
  obtain ⟨W, hW⟩ : ∃ W, W = ((w.alloc (.cells #[.pointer (some ⟨g, 0, none⟩)] 36)).alloc (.cells #[.int .u8 0] 5)) := ⟨_, rfl⟩
  have hB0 : Hid (Below w.heap.size w W) := hid (by subst hW; exact ((Below.refl _ _).alloc (Nat.le_refl _) _).alloc (by simp) _)
  have kb : Hid (Blk W w.heap.size 36 #[.pointer (some ⟨g, 0, none⟩)]) := hid (by subst hW; exact (Blk.new w _ _).alloc _)
  have kx : Hid (Blk W (w.heap.size + 1) 5 #[.int .u8 0]) := hid (by subst hW; exact Blk.new' _ _ _ (by simp))
  have hsz : W.heap.size = w.heap.size + 1 + 1 := by subst hW; simp
  have hr0 := hid (h.below_all hB0.out)
  have hgb := hid h.blk.lt
  have hSb := hid hS
  have hne := hid h.ne
  have t1 : (r.e != 0) = false := by simpa using he
  have hal := hid h.at_le
  obtain ⟨W4, hW4⟩ : ∃ W4, W4 = (W.alloc (.cells #[.int .i64 (r.at_ : Nat)] 3)) := ⟨_, rfl⟩
  have hB4 : Below W.heap.size W W4 := by subst hW4; exact (Below.refl _ _).alloc (Nat.le_refl _) _
  have kf : Blk W4 (w.heap.size + 1 + 1) 3 #[.int .i64 (r.at_ : Nat)] := by subst hW4; exact Blk.new' W 3 _ hsz.symm
  have hX4 : Hid (RX S w W4 g A c r 5 (.int .u8 0) r.at_) := hid ⟨hr0.out.below_all hB4, hS, hgb.out, kb.out.below_all hB4, kx.out.below_all hB4, kf, Upd.of_below' (hB0.out.trans (hB4.mono hB0.out.size)) _⟩
  have hT4 := hid (hT W4 (hB0.out.trans (hB4.mono hB0.out.size)) hX4.out.rd)
  clear h hS he hB4 kf hT
  go_enter_defers Tryd.func76, Tryd.ntmps76
  go_upto_region 1 with fail
  rw [← hW]
  clear hW
  have hre : Hid (r.e = r.e) := hid rfl
  have b0 : W.cell? ⟨w.heap.size, 0, none⟩ = some (.pointer (some ⟨g, 0, none⟩)) := kb.out.cell 0
  have x0 : W.cell? ⟨w.heap.size + 1, 0, none⟩ = some (.int .u8 0) := kx.out.cell 0
  have fx := fun q => kx.out.frozen q
  have r1 : W.cell? ⟨g, 1, none⟩ = some (.int .i64 (r.at_ : Nat)) := hr0.out.blk.cell 1
  have r3 : W.cell? ⟨g, 3, none⟩ = some (.int .i64 r.e) := hr0.out.blk.cell 3
  go_upto_region 4 with fail
  rw [← hW4]
  clear hW4 b0 x0 fx r1 r3 hr0 kb kx hB0
  go_wp2_with fail
  refine (cp_bad hres hT4.out).mono ?_
  rintro e w5 ⟨rfl, hu0, a, hr5⟩
  have hX5 := hid (hX4.out.call hu0 hr5)
  clear hu0 hr5 hX4 hT4 hres
  go_wp2_with fail
  refine leaves_cons (f := 93) (args := #[.pointer (some ⟨w.heap.size + 1 + 1, 0, none⟩), .pointer (some ⟨w.heap.size + 1, 0, none⟩), .pointer (some ⟨w.heap.size, 0, none⟩)]) (by simp) (by simp [go_sem]) ?_
  refine (cpanic_byte (r := r.to a) x [] hal.out hX5.out).mono ?_
  rintro e u' w'' ⟨rfl, rfl, hX6⟩
  refine ⟨.int .u8 0, ?_, rfl, hX6.up, hX6.rd⟩
  have HX : w''.cell? ⟨w.heap.size + 1, 0, none⟩ = some (.int .u8 0) := hX6.x.cell 0
  simp [Go.results, Tryd.results76, asAddr, go_sem, HX]
set_option maxRecDepth 100000 in
set_option maxHeartbeats 1000000 in
theorem cread_byte_ok {S : Nat → Prop} {w : World} {g : Nat} {A : Option Addr} {c : Nat} {r : Rr} (h : CrIn S w g A c r) (hS : ∀ k, S k → k < w.heap.size) (he : r.e = 0) (res : (Value × Nat) ⊕ Int) (hT : ∀ W, Below w.heap.size w W → CrIn S W g A c r → Calls Tryd.prog 77 #[.pointer (some ⟨g, 0, none⟩)] W (CPost S W g A c r res)) (n : Int) (a : Nat) (hres : res = .inl (.int .u8 n, a)) : Calls Tryd.prog 76 #[.pointer (some ⟨g, 0, none⟩), .func (Fn.func 77) #[.pointer (some ⟨g, 0, none⟩)] #[]] w fun e w' => e = .returned (.int .u8 n) ∧ Upd (fun k => k = g) w w' ∧ CrIn S w' g A c { r with at_ := a, last := r.at_ } := by
  have hmf : ∀ (fn : Fn) (first cap : Array Value) (w : World), (Instr.makeFunc fn first cap).run Tryd.prog w = .ok (.func fn first cap) w := fun _ _ _ _ => rfl
  obtain ⟨W, hW⟩ : ∃ W, W = ((w.alloc (.cells #[.pointer (some ⟨g, 0, none⟩)] 36)).alloc (.cells #[.int .u8 0] 5)) := ⟨_, rfl⟩
  have hB0 : Hid (Below w.heap.size w W) := hid (by subst hW; exact ((Below.refl _ _).alloc (Nat.le_refl _) _).alloc (by simp) _)
  have kb : Hid (Blk W w.heap.size 36 #[.pointer (some ⟨g, 0, none⟩)]) := hid (by subst hW; exact (Blk.new w _ _).alloc _)
  have kx : Hid (Blk W (w.heap.size + 1) 5 #[.int .u8 0]) := hid (by subst hW; exact Blk.new' _ _ _ (by simp))
  have hsz : W.heap.size = w.heap.size + 1 + 1 := by subst hW; simp
  have hr0 := hid (h.below_all hB0.out)
  have hgb := hid h.blk.lt
  have hSb := hid hS
  have hne := hid h.ne
  have t1 : (r.e != 0) = false := by simpa using he
  have hal := hid h.at_le
  obtain ⟨W4, hW4⟩ : ∃ W4, W4 = (W.alloc (.cells #[.int .i64 (r.at_ : Nat)] 3)) := ⟨_, rfl⟩
  have hB4 : Below W.heap.size W W4 := by subst hW4; exact (Below.refl _ _).alloc (Nat.le_refl _) _
  have kf : Blk W4 (w.heap.size + 1 + 1) 3 #[.int .i64 (r.at_ : Nat)] := by subst hW4; exact Blk.new' W 3 _ hsz.symm
  have hX4 : Hid (RX S w W4 g A c r 5 (.int .u8 0) r.at_) := hid ⟨hr0.out.below_all hB4, hS, hgb.out, kb.out.below_all hB4, kx.out.below_all hB4, kf, Upd.of_below' (hB0.out.trans (hB4.mono hB0.out.size)) _⟩
  have hT4 := hid (hT W4 (hB0.out.trans (hB4.mono hB0.out.size)) hX4.out.rd)
  clear h hS he hB4 kf hT
  go_enter_defers Tryd.func76, Tryd.ntmps76
  go_upto_region 1 with fail
  rw [← hW]
  clear hW
  have hre : Hid (r.e = r.e) := hid rfl
  have b0 : W.cell? ⟨w.heap.size, 0, none⟩ = some (.pointer (some ⟨g, 0, none⟩)) := kb.out.cell 0
  have x0 : W.cell? ⟨w.heap.size + 1, 0, none⟩ = some (.int .u8 0) := kx.out.cell 0
  have fx := fun q => kx.out.frozen q
  have r1 : W.cell? ⟨g, 1, none⟩ = some (.int .i64 (r.at_ : Nat)) := hr0.out.blk.cell 1
  have r3 : W.cell? ⟨g, 3, none⟩ = some (.int .i64 r.e) := hr0.out.blk.cell 3
  go_upto_region 4 with fail
  rw [← hW4]
  clear hW4 b0 x0 fx r1 r3 hr0 kb kx hB0
  go_wp2_with fail
  refine (cp_ok hres hT4.out).mono ?_
  rintro e w5 ⟨rfl, hu0, hr5⟩
  have hX5 := hid (hX4.out.call hu0 hr5)
  clear hu0 hr5 hX4 hT4 hres
  obtain ⟨b0, x0, f0, fx, fg, r1, r2, r3, r4, hgl, hfl⟩ := hX5.out.cells
  go_upto_region 6 with fail
  have hX6 := hid (hX5.out.setX (.int .u8 n))
  generalize w5.setCell ⟨w.heap.size + 1, 0, none⟩ (.int .u8 n) = w6 at *
  clear b0 x0 f0 fx fg r1 r2 r3 r4 hgl hfl hX5
  obtain ⟨b0, x0, f0, fx, fg, r1, r2, r3, r4, hgl, hfl⟩ := hX6.out.cells
  go_upto_region 7 with fail
  have hX7 := hid (hX6.out.setR (r' := { r with at_ := a, last := r.at_ }) 2 (.int .i64 (r.at_ : Nat)) rfl rfl hX6.out.rd.at_le)
  generalize w6.setCell ⟨g, 2, none⟩ (.int .i64 (r.at_ : Nat)) = w7 at *
  clear b0 x0 f0 fx fg r1 r2 r3 r4 hgl hfl hX6
  obtain ⟨b0, x0, f0, fx, fg, r1, r2, r3, r4, hgl, hfl⟩ := hX7.out.cells
  go_wp2_with fail
  have hX8 := hX7.out.setX (.int .u8 n)
  refine leaves_cons (f := 93) (args := #[.pointer (some ⟨w.heap.size + 1 + 1, 0, none⟩), .pointer (some ⟨w.heap.size + 1, 0, none⟩), .pointer (some ⟨w.heap.size, 0, none⟩)]) (by simp) (by simp [go_sem]) ?_
  refine (cidle_byte hX8).mono ?_
  rintro e u' w'' ⟨rfl, rfl, rfl⟩
  refine ⟨.int .u8 n, ?_, rfl, hX8.up, hX8.rd⟩
  have HX := hX8.x.cell 0
  have HX : (w7.setCell ⟨w.heap.size + 1, 0, none⟩ (.int .u8 n)).cell? ⟨w.heap.size + 1, 0, none⟩ = some (.int .u8 n) := hX8.x.cell 0
  simp [Go.results, Tryd.results76, asAddr, go_sem, HX]

end Go.Proofs.YtbnpidmlcjofiaaDoor

namespace Go.Proofs.YtbnpidmlcjofiaaDoor
open Go.RowKit
set_option linter.unusedVariables false
set_option linter.unusedSimpArgs false

end Go.Proofs.YtbnpidmlcjofiaaDoor

