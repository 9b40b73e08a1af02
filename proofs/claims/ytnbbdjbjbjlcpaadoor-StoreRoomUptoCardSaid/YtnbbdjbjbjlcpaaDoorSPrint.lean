/- store: value.Print, in the program. -/
import Derived.Test.YtnbbdjbjbjlcpaaDoorSVal
import Derived.Laws.OwnMore
namespace Go.Proofs.YtnbbdjbjbjlcpaaDoor
open Go.RowKit
set_option linter.unusedVariables false
set_option linter.unusedSimpArgs false

/-- what Print leaves -/
def PrOut (v : Vl) (w : World) (e : Ending) (w' : World) : Prop := e = .returned (.tuple #[.string ⟨(printL v).toArray⟩, .int .i64 (printE v)]) ∧ Below w.heap.size w w'
theorem esc_step {s : ByteArray} {k : Nat} (hk : k < s.size) : escL (s.data.toList.take (k + 1)) = escL (s.data.toList.take k) ++ (if s.data[k]'hk = 34 ∨ s.data[k]'hk = 92 then [92, s.data[k]'hk] else [s.data[k]'hk]) := by
  have hl : k < s.data.toList.length := by rw [Array.length_toList]; exact hk
  rw [List.take_succ_eq_append_getElem hl, Array.getElem_toList]
  unfold escL
  rw [List.flatMap_append]
  simp
theorem take_all {s : ByteArray} {k : Nat} (hk : s.size ≤ k) : s.data.toList.take k = s.data.toList := List.take_of_length_le (by rw [Array.length_toList]; exact hk)
theorem lit_text {v : Vl} (h : v.ok = true) (hk : v.k = 2) : printL v = 34 :: (escL v.s.data.toList ++ [34]) := by
  unfold printL litL
  rw [if_pos h, hk, if_neg (by decide), if_neg (by decide)]

set_option maxRecDepth 100000 in
set_option maxHeartbeats 4000000 in
theorem print_any (v : Vl) (w : World) (hs : v.s.size ≤ 140737488351232) (hr : v.rng) (he : Env w) : Calls Tryd.prog 27 #[.agg #[.int .i64 v.k, .int .i64 v.n, .string v.s]] w (PrOut v w) := by
  obtain ⟨ib, hb0, hb1, hb2, hb3⟩ := info_parts info_u8
  obtain ⟨W, hW⟩ : ∃ W, W = w.alloc (.cells #[.int .i64 v.k, .int .i64 v.n, .string v.s] 50) := ⟨_, rfl⟩
  have hB0 : Hid (Below w.heap.size w W) := hid (by subst hW; exact (Below.refl _ _).alloc (Nat.le_refl _) _)
  have kb0 : Hid (Blk W w.heap.size 50 #[.int .i64 v.k, .int .i64 v.n, .string v.s]) := hid (by subst hW; exact Blk.new w _ _)
  have hva := hid (valid_any v W (by omega))
  have hx0 : W.cell? ⟨w.heap.size, 0, none⟩ = some (.int .i64 v.k) := kb0.out.cell 0
  have hx1 : W.cell? ⟨w.heap.size, 1, none⟩ = some (.int .i64 v.n) := kb0.out.cell 1
  have hx2 : W.cell? ⟨w.heap.size, 2, none⟩ = some (.string v.s) := kb0.out.cell 2
  have hfz := fun q => kb0.out.frozen q
  have hlz := kb0.out.lt
  have he2 := hid (he.below hB0.out)
  clear he
  cases hok : v.ok with
  | false =>
    have hfin : Hid (printL v = [] ∧ printE v = 20) := hid (by unfold printL printE; rw [hok]; exact ⟨rfl, rfl⟩)
    rw [hok] at hva
    clear hok hs hr
    go_enter Tryd.func27, Tryd.ntmps27
    go_upto_region 1 with fail
    rw [← hW]
    clear hW
    go_wp2_with fail
    refine hva.out.mono ?_
    rintro e w2 ⟨rfl, hb20⟩
    have kb2 := hid (kb0.out.below_all hb20)
    have hB2 := hid (hB0.out.trans (hb20.mono hB0.out.size))
    have hbb2 := hid hb20
    clear hb20 hva hx0 hx1 hx2 hfz hlz kb0 hB0
    have x0 := kb2.out.cell 0
    have x1 := kb2.out.cell 1
    have x2 := kb2.out.cell 2
    simp only [List.getElem?_toArray, List.getElem?_cons_zero, List.getElem?_cons_succ] at x0 x1 x2
    have fz := fun q => kb2.out.frozen q
    have hlt := kb2.out.lt
    go_wp2_with fail
    refine bodyPost_ret (v := .tuple #[.string ⟨#[]⟩, .int .i64 20]) (by simp [results, Tryd.results27, go_sem]) rfl ⟨?_, hB2.out⟩
    rw [hfin.out.1, hfin.out.2]
  | true =>
    have hpe : Hid (printE v = 0) := hid (by unfold printE; rw [hok]; rfl)
    have hpl : printL v = litL v := by unfold printL; rw [hok]; rfl
    rw [hok] at hva
    rcases ok_forms hok with hv | ⟨h1, h2⟩ | ⟨h1, h2, h3, h4⟩
    · have e0 : v.k = 0 := by rw [hv]; rfl
      have hfin : Hid (printL v = noneT) := hid (by rw [hpl]; unfold litL; rw [e0]; rfl)
      have f0 : (v.k == 1) = false := by rw [e0]; rfl
      have f1 : (v.k == 0) = true := by rw [e0]; rfl
      clear hok hs hr hv hpl e0
      go_enter Tryd.func27, Tryd.ntmps27
      go_upto_region 1 with fail
      rw [← hW]
      clear hW
      go_wp2_with fail
      refine hva.out.mono ?_
      rintro e w2 ⟨rfl, hb20⟩
      have kb2 := hid (kb0.out.below_all hb20)
      have hB2 := hid (hB0.out.trans (hb20.mono hB0.out.size))
      have hbb2 := hid hb20
      clear hb20 hva hx0 hx1 hx2 hfz hlz kb0 hB0
      have x0 := kb2.out.cell 0
      have x1 := kb2.out.cell 1
      have x2 := kb2.out.cell 2
      simp only [List.getElem?_toArray, List.getElem?_cons_zero, List.getElem?_cons_succ] at x0 x1 x2
      have fz := fun q => kb2.out.frozen q
      have hlt := kb2.out.lt
      go_wp2_with fail
      refine bodyPost_ret (v := .tuple #[.string ⟨#[110, 111, 110, 101]⟩, .int .i64 0]) (by simp [results, Tryd.results27, go_sem]) rfl ⟨?_, hB2.out⟩
      rw [hfin.out, hpe.out]; rfl
    · have hfin : Hid (printL v = Lib.itoa v.n) := hid (by rw [hpl]; unfold litL; rw [h1]; rfl)
      have f0 : (v.k == 1) = true := by rw [h1]; rfl
      have hrr := hid hr
      clear hok hs hr hpl h1 h2
      go_enter Tryd.func27, Tryd.ntmps27
      go_upto_region 1 with fail
      rw [← hW]
      clear hW
      go_wp2_with fail
      refine hva.out.mono ?_
      rintro e w2 ⟨rfl, hb20⟩
      have kb2 := hid (kb0.out.below_all hb20)
      have hB2 := hid (hB0.out.trans (hb20.mono hB0.out.size))
      have hbb2 := hid hb20
      clear hb20 hva hx0 hx1 hx2 hfz hlz kb0 hB0
      have x0 := kb2.out.cell 0
      have x1 := kb2.out.cell 1
      have x2 := kb2.out.cell 2
      simp only [List.getElem?_toArray, List.getElem?_cons_zero, List.getElem?_cons_succ] at x0 x1 x2
      have fz := fun q => kb2.out.frozen q
      have hlt := kb2.out.lt
      have he3 := hid (he2.out.below (w := W) (w' := w2) (by first | exact hbb2.out))
      go_wp2_with fail
      refine (digits_any v.n hrr.out.1 hrr.out.2 w2 he3.out).mono ?_
      rintro e w3 ⟨rfl, hb30⟩
      have hB3 := hid (hB2.out.trans (hb30.mono hB2.out.size))
      clear hb30 x0 x1 x2 fz hlt
      go_wp2_with fail
      refine bodyPost_ret (v := .tuple #[.string ⟨(Lib.itoa v.n).toArray⟩, .int .i64 0]) (by simp [results, Tryd.results27, go_sem]) rfl ⟨?_, hB3.out⟩
      rw [hfin.out, hpe.out]
    · have hfin : Hid (printL v = 34 :: (escL v.s.data.toList ++ [34])) := hid (lit_text hok h1)
      have hs64 := hid h3
      have hs9 : (v.s.size : Int) ≤ 64 := by omega
      have f0 : (v.k == 1) = false := by rw [h1]; rfl
      have f1 : (v.k == 0) = false := by rw [h1]; rfl
      clear hok hs hr hpl h3 h4 h1 h2
      go_enter Tryd.func27, Tryd.ntmps27
      go_upto_region 1 with fail
      rw [← hW]
      clear hW
      go_wp2_with fail
      refine hva.out.mono ?_
      rintro e w2 ⟨rfl, hb20⟩
      have kb2 := hid (kb0.out.below_all hb20)
      have hB2 := hid (hB0.out.trans (hb20.mono hB0.out.size))
      have hbb2 := hid hb20
      clear hb20 hva hx0 hx1 hx2 hfz hlz kb0 hB0
      have x0 := kb2.out.cell 0
      have x1 := kb2.out.cell 1
      have x2 := kb2.out.cell 2
      simp only [List.getElem?_toArray, List.getElem?_cons_zero, List.getElem?_cons_succ] at x0 x1 x2
      have fz := fun q => kb2.out.frozen q
      have hlt := kb2.out.lt
      go_upto_region 8 with fail
      have ho0 := hid (World.ownsRow_lit (base := w2.heap.size) (e := 5) (size := 1) w2 #[.int .u8 34] 1 (Nat.le_refl _) (by decide) rfl)
      have hB3 : Hid (Below w2.heap.size w2 (w2.alloc (.cells #[.int .u8 34] 5))) := hid ((Below.refl _ _).alloc (Nat.le_refl _) _)
      generalize w2.alloc (.cells #[.int .u8 34] 5) = w3 at *
      have kb3 := hid (kb2.out.below_all hB3.out)
      clear x0 x1 x2 fz hlt
      have x2 : w3.cell? ⟨w.heap.size, 2, none⟩ = some (.string v.s) := kb3.out.cell 2
      have hlt := kb3.out.lt
      go_wp2_with fail
      go_loopw [4, 5, 25] (fun v4 _ v25 wr => ∃ (k : Nat) (A : Option Addr) (c : Nat) (L : List Nat), v4 = .slice A L.length c ∧ v25 = .int .i64 k ∧ k ≤ v.s.size ∧ L.length ≤ 1 + 2 * k ∧ wr.ownsRow w2.heap.size 5 1 (.slice A L.length c) L.length (bcells L) ∧ Below w2.heap.size w2 wr ∧ lb L = 34 :: escL (v.s.data.toList.take k)) (fun _ _ v25 _ => v.s.size - (intOf v25).toNat)
      case atStart => exact ⟨0, some ⟨w2.heap.size, 0, none⟩, 1, [34], rfl, rfl, Nat.zero_le _, by simp, ho0.out, hB3.out, rfl⟩
      case round =>
        clear x2 hlt ho0 hB3 kb3
        obtain ⟨k, A, c, L, rfl, rfl, hks, hL0, hown0, hB0, hR0⟩ := hrel
        have hL := hid hL0; have hown := hid hown0; have hB := hid hB0; have hR := hid hR0
        have hL9 : (L.length : Int) ≤ 200 := by have := hs64.out; omega
        have hL8 := hid (show L.length ≤ 200 by have := hs64.out; omega)
        clear hL0 hown0 hB0 hR0
        have kb4 := hid (kb2.out.below_all hB.out)
        have x2 : wr.cell? ⟨w.heap.size, 2, none⟩ = some (.string v.s) := kb4.out.cell 2
        have hltz := kb4.out.lt
        by_cases hlt : k < v.s.size
        · have i1 : (k : Int) < (v.s.size : Int) := by omega
          have hst := esc_step hlt
          by_cases hq : v.s.data[k]'hlt = 34 ∨ v.s.data[k]'hlt = 92
          · rw [if_pos hq] at hst
            have hR2 : Hid (lb ((L ++ [92]) ++ [(v.s[k]'hlt).toNat]) = 34 :: escL (v.s.data.toList.take (k + 1))) := hid (by
              rw [hst, show (v.s[k]'hlt).toNat = (v.s.data[k]'hlt).toNat from rfl, lb_snoc, show (92 : Nat) = (92 : UInt8).toNat from rfl, lb_snoc, hR.out]; simp)
            clear hst
            have hcase : Hid (((v.s[k]'hlt).toNat = 34) ∨ ((v.s[k]'hlt).toNat ≠ 34 ∧ (v.s[k]'hlt).toNat = 92)) := hid (by
              by_cases h34 : v.s.data[k]'hlt = 34
              · exact .inl (byte_eq (hk := hlt) h34)
              · exact .inr ⟨byte_ne (hk := hlt) h34, byte_eq (hk := hlt) (hq.resolve_left h34)⟩)
            clear hq
            rcases hcase.out with hc | ⟨hc0, hc⟩
            · have b1 : (((v.s[k]'hlt).toNat : Int) == 34) = true := by rw [hc]; rfl
              have b2 : (((v.s[k]'hlt).toNat : Int) == 92) = false := by rw [hc]; rfl
              rw [hc] at hR2
              skip
              go_upto_region 13 with (
                at_builtin
                refine wpList_append_rd _ rfl (.tmp 40) (.tmp 41) 37 rfl w2.heap.size 5 ib _ 1 1 Tryd.underlying37 hb0 hb1 hb2 hb3 rfl (by omega) (.slice A (L.length) c) (L.length) (bcells L) rfl (hown.out.alloc _) (fun b => b = wr.heap.size) (some ⟨wr.heap.size, 0, none⟩) 1 1 [.int .u8 (((92 : Nat) : Int))] rfl (Rd.new wr 5 1 1 #[.int .u8 (((92 : Nat) : Int))] _ rfl rfl) (by intro u hu; simp at hu; subst hu; rfl) (by simp only [maxLen]; have := hL8.out; omega) (by have := hL8.out; omega) (by have := hB.out.size; simp; omega) ?_
                intro v5 w5 hown5 hg5 hat5
                have hB5 := hid ((hB.out.alloc hB.out.size (.cells #[.int .u8 (((92 : Nat) : Int))] 5)).grown hg5 (by have := hB.out.size; simp; omega) fun k hk => (hown.out.lt k hk).1)
                obtain ⟨A5, c5, rfl, _⟩ := own_form hown5
                rw [← bcells_snoc] at hown5
                have hown5 := hid hown5
                skip
                clear hg5 hat5)
              have kb5 := hid (kb2.out.below_all hB5.out)
              clear x2 hltz
              have x2 : w5.cell? ⟨w.heap.size, 2, none⟩ = some (.string v.s) := kb5.out.cell 2
              have hltz := kb5.out.lt
              go_wp2_with (
                at_builtin
                refine wpList_append_rd _ rfl (.tmp 43) (.tmp 48) 37 rfl w2.heap.size 5 ib _ 1 1 Tryd.underlying37 hb0 hb1 hb2 hb3 rfl (by omega) (.slice A5 (L.length + 1) c5) (L.length + 1) (bcells (L ++ [92])) rfl (hown5.out.alloc _) (fun b => b = w5.heap.size) (some ⟨w5.heap.size, 0, none⟩) 1 1 [.int .u8 (((34 : Nat) : Int))] rfl (Rd.new w5 5 1 1 #[.int .u8 (((34 : Nat) : Int))] _ rfl rfl) (by intro u hu; simp at hu; subst hu; rfl) (by simp only [maxLen]; have := hL8.out; omega) (by have := hL8.out; omega) (by have := hB5.out.size; simp; omega) ?_
                intro v9 w9 hown9 hg9 hat9
                have hB9 := hid ((hB5.out.alloc hB5.out.size (.cells #[.int .u8 (((34 : Nat) : Int))] 5)).grown hg9 (by have := hB5.out.size; simp; omega) fun k hk => (hown5.out.lt k hk).1)
                obtain ⟨A9, c9, rfl, _⟩ := own_form hown9
                rw [← bcells_snoc] at hown9
                have hown9 := hid hown9
                skip
                clear hg9 hat9)
              refine ⟨⟨k + 1, A9, c9, (L ++ [92]) ++ [34], by simp, by first | rfl | simp, by omega, by have := hL.out; simp; omega, by simpa using hown9.out, hB9.out, hR2.out⟩, ?_⟩
              simp [intOf]
              omega
            · have b1 : (((v.s[k]'hlt).toNat : Int) == 34) = false := by rw [hc]; rfl
              have b2 : (((v.s[k]'hlt).toNat : Int) == 92) = true := by rw [hc]; rfl
              rw [hc] at hR2
              clear hc0
              go_upto_region 13 with (
                at_builtin
                refine wpList_append_rd _ rfl (.tmp 40) (.tmp 41) 37 rfl w2.heap.size 5 ib _ 1 1 Tryd.underlying37 hb0 hb1 hb2 hb3 rfl (by omega) (.slice A (L.length) c) (L.length) (bcells L) rfl (hown.out.alloc _) (fun b => b = wr.heap.size) (some ⟨wr.heap.size, 0, none⟩) 1 1 [.int .u8 (((92 : Nat) : Int))] rfl (Rd.new wr 5 1 1 #[.int .u8 (((92 : Nat) : Int))] _ rfl rfl) (by intro u hu; simp at hu; subst hu; rfl) (by simp only [maxLen]; have := hL8.out; omega) (by have := hL8.out; omega) (by have := hB.out.size; simp; omega) ?_
                intro v5 w5 hown5 hg5 hat5
                have hB5 := hid ((hB.out.alloc hB.out.size (.cells #[.int .u8 (((92 : Nat) : Int))] 5)).grown hg5 (by have := hB.out.size; simp; omega) fun k hk => (hown.out.lt k hk).1)
                obtain ⟨A5, c5, rfl, _⟩ := own_form hown5
                rw [← bcells_snoc] at hown5
                have hown5 := hid hown5
                skip
                clear hg5 hat5)
              have kb5 := hid (kb2.out.below_all hB5.out)
              clear x2 hltz
              have x2 : w5.cell? ⟨w.heap.size, 2, none⟩ = some (.string v.s) := kb5.out.cell 2
              have hltz := kb5.out.lt
              go_wp2_with (
                at_builtin
                refine wpList_append_rd _ rfl (.tmp 43) (.tmp 48) 37 rfl w2.heap.size 5 ib _ 1 1 Tryd.underlying37 hb0 hb1 hb2 hb3 rfl (by omega) (.slice A5 (L.length + 1) c5) (L.length + 1) (bcells (L ++ [92])) rfl (hown5.out.alloc _) (fun b => b = w5.heap.size) (some ⟨w5.heap.size, 0, none⟩) 1 1 [.int .u8 (((92 : Nat) : Int))] rfl (Rd.new w5 5 1 1 #[.int .u8 (((92 : Nat) : Int))] _ rfl rfl) (by intro u hu; simp at hu; subst hu; rfl) (by simp only [maxLen]; have := hL8.out; omega) (by have := hL8.out; omega) (by have := hB5.out.size; simp; omega) ?_
                intro v9 w9 hown9 hg9 hat9
                have hB9 := hid ((hB5.out.alloc hB5.out.size (.cells #[.int .u8 (((92 : Nat) : Int))] 5)).grown hg9 (by have := hB5.out.size; simp; omega) fun k hk => (hown5.out.lt k hk).1)
                obtain ⟨A9, c9, rfl, _⟩ := own_form hown9
                rw [← bcells_snoc] at hown9
                have hown9 := hid hown9
                skip
                clear hg9 hat9)
              refine ⟨⟨k + 1, A9, c9, (L ++ [92]) ++ [92], by simp, by first | rfl | simp, by omega, by have := hL.out; simp; omega, by simpa using hown9.out, hB9.out, hR2.out⟩, ?_⟩
              simp [intOf]
              omega
          · rw [if_neg hq] at hst
            have c34 : (v.s[k]'hlt).toNat ≠ 34 := byte_ne (hk := hlt) fun e => hq (.inl e)
            have c92 : (v.s[k]'hlt).toNat ≠ 92 := byte_ne (hk := hlt) fun e => hq (.inr e)
            have b1 : (((v.s[k]'hlt).toNat : Int) == 34) = false := by simp; omega
            have b2 : (((v.s[k]'hlt).toNat : Int) == 92) = false := by simp; omega
            have hR2 : Hid (lb (L ++ [(v.s[k]'hlt).toNat]) = 34 :: escL (v.s.data.toList.take (k + 1))) := hid (by
              rw [hst, show (v.s[k]'hlt).toNat = (v.s.data[k]'hlt).toNat from rfl, lb_snoc, hR.out]; simp)
            clear hst hq c34 c92
            go_wp2_with (
              at_builtin
              refine wpList_append_rd _ rfl (.tmp 43) (.tmp 48) 37 rfl w2.heap.size 5 ib _ 1 1 Tryd.underlying37 hb0 hb1 hb2 hb3 rfl (by omega) (.slice A (L.length) c) (L.length) (bcells L) rfl (hown.out.alloc _) (fun b => b = wr.heap.size) (some ⟨wr.heap.size, 0, none⟩) 1 1 [.int .u8 (((v.s[k]'hlt).toNat : Nat))] rfl (Rd.new wr 5 1 1 #[.int .u8 (((v.s[k]'hlt).toNat : Nat))] _ rfl rfl) (by intro u hu; simp at hu; subst hu; rfl) (by simp only [maxLen]; have := hL8.out; omega) (by have := hL8.out; omega) (by have := hB.out.size; simp; omega) ?_
              intro v9 w9 hown9 hg9 hat9
              have hB9 := hid ((hB.out.alloc hB.out.size (.cells #[.int .u8 (((v.s[k]'hlt).toNat : Nat))] 5)).grown hg9 (by have := hB.out.size; simp; omega) fun k hk => (hown.out.lt k hk).1)
              obtain ⟨A9, c9, rfl, _⟩ := own_form hown9
              rw [← bcells_snoc] at hown9
              have hown9 := hid hown9
              skip
              clear hg9 hat9)
            refine ⟨⟨k + 1, A9, c9, L ++ [(v.s[k]'hlt).toNat], by simp, by first | rfl | simp, by omega, by have := hL.out; simp; omega, by simpa using hown9.out, hB9.out, hR2.out⟩, ?_⟩
            simp [intOf]
            omega
        · have i1 : ¬ ((k : Int) < (v.s.size : Int)) := by omega
          have hR2 : Hid (lb (L ++ [34]) = printL v) := hid (by
            rw [hfin.out, show (34 : Nat) = (34 : UInt8).toNat from rfl, lb_snoc, hR.out, take_all (by omega)]; rfl)
          clear hlt
          go_wp2_with (
            at_builtin
            refine wpList_append_rd _ rfl (.tmp 51) (.tmp 52) 37 rfl w2.heap.size 5 ib _ 1 1 Tryd.underlying37 hb0 hb1 hb2 hb3 rfl (by omega) (.slice A (L.length) c) (L.length) (bcells L) rfl (hown.out.alloc _) (fun b => b = wr.heap.size) (some ⟨wr.heap.size, 0, none⟩) 1 1 [.int .u8 (((34 : Nat) : Int))] rfl (Rd.new wr 5 1 1 #[.int .u8 (((34 : Nat) : Int))] _ rfl rfl) (by intro u hu; simp at hu; subst hu; rfl) (by simp only [maxLen]; have := hL8.out; omega) (by have := hL8.out; omega) (by have := hB.out.size; simp; omega) ?_
            intro v9 w9 hown9 hg9 hat9
            have hB9 := hid ((hB.out.alloc hB.out.size (.cells #[.int .u8 (((34 : Nat) : Int))] 5)).grown hg9 (by have := hB.out.size; simp; omega) fun k hk => (hown.out.lt k hk).1)
            obtain ⟨A9, c9, rfl, _⟩ := own_form hown9
            rw [← bcells_snoc] at hown9
            have hown9 := hid hown9
            have hcv := convB (Rd.of_own hown9.out) (c := c9) (by simp)
            clear hg9 hat9)
          have hfb : Hid (Below w.heap.size w w9) := hid (hB2.out.trans (hB9.out.mono hB2.out.size))
          refine bodyPost_ret (v := .tuple #[.string (bt (L ++ [34])), .int .i64 0]) (by simp [results, Tryd.results27, go_sem]) rfl ⟨?_, hfb.out⟩
          rw [← hR2.out, hpe.out]; rfl

end Go.Proofs.YtnbbdjbjbjlcpaaDoor
