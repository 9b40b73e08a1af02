/- Texts of the proof, joined: KRGet, KPut5, LawOf. -/
import Derived.Test.YtbakfkhmopebnaaJ10
import Derived.Test.YtbakfkhmopebnaaJ11
import Derived.Test.YtbakfkhmopebnaaJ01
import Derived.ProofKit
import Derived.OpenShut
import Derived.JoinedCond
import Derived.Lib.SmallJoins
namespace Go.Proofs.Ytbakfkhmopebnaa
open Go.RowKit
set_option linter.unusedVariables false
set_option linter.unusedSimpArgs false

theorem and_255 (n : Nat) (h : n < 18446744073709551616) : bits BinOp.and IntKind.u64 (n : Int) 255 = ((n % 256 : Nat) : Int) := by
  have h1 : (BitVec.ofInt 64 (n : Int)).toNat = n := by
    rw [BitVec.ofInt_natCast, BitVec.toNat_ofNat]; exact Nat.mod_eq_of_lt (by omega)
  show IntKind.u64.wrap ((BitVec.ofInt 64 (n : Int) &&& BitVec.ofInt 64 255).toNat : Int) = _
  rw [BitVec.toNat_and, h1, show (BitVec.ofInt 64 255).toNat = 2 ^ 8 - 1 from rfl, Nat.and_two_pow_sub_one_eq_mod, IntKind.wrap_u64]
  omega
set_option maxRecDepth 100000 in
set_option maxHeartbeats 8000000 in
theorem rget_any (S0 : Nat → Prop) (A0 : Option Addr) (c0 : Nat) (bs : List Nat) (w : World) (ha : Rd S0 w 1 A0 bs.length (bcells bs)) (hl : bs.length ≤ 1000000) (hb : ∀ x ∈ bs, x < 256) :
    Calls Try.prog 24 #[.slice A0 bs.length c0] w (GetPost bs w) := by
  obtain ⟨iv, hv0, hv1, hv2, hv3⟩ := info_parts info_val
  obtain ⟨ii, hi0, hi1, hi2, hi3⟩ := info_parts info_ins
  obtain ⟨W, hW⟩ : ∃ W, W = w.alloc (.cells #[.int .i64 0, .slice none 0 0, .slice none 0 0] 29) := ⟨_, rfl⟩
  have hB0 : Hid (Below w.heap.size w W) := hid (by subst hW; exact (Below.refl _ _).alloc (Nat.le_refl _) _)
  have kz : Hid (Blk W w.heap.size 29 #[.int .i64 0, .slice none 0 0, .slice none 0 0]) := hid (by subst hW; exact Blk.new w _ _)
  have hsz : Hid (W.heap.size = w.heap.size + 1) := hid (by subst hW; simp)
  have hnew := hid (rnew_any S0 A0 c0 bs W (ha.below_all hB0.out) hl hb)
  have hll := hid hl
  have hbb := hid hb
  clear ha hl hb
  go_enter Try.func24, Try.ntmps24
  go_upto_region 1 with fail
  rw [← hW]
  clear hW
  go_wp2_with fail
  refine hnew.out.mono ?_
  rintro e w3 ⟨g, A, c, S', rfl, hb3, hg3, hS3, hr3⟩
  have hr3h := hid hr3
  have hb3h := hid hb3
  have hg3h := hid (show W.heap.size ≤ g ∧ ∀ k, S' k → W.heap.size ≤ k from ⟨hg3, hS3⟩)
  clear hb3 hg3 hS3 hr3 hnew
  obtain ⟨a, ra, hca⟩ : ∃ a ra, (Rr.new bs).count 8 = (a, ra) := ⟨_, _, rfl⟩
  obtain ⟨n, rn, hcn⟩ : ∃ n rn, ra.count 32 = (n, rn) := ⟨_, _, rfl⟩
  have ha8 : Hid (a ≤ 8) := hid (by have := (Rr.new bs).count_le 8; rw [show ((8 : Nat) : Int) = 8 from rfl, hca] at this; exact this)
  have hn32 : Hid (n ≤ 32) := hid (by have := ra.count_le 32; rw [show ((32 : Nat) : Int) = 32 from rfl, hcn] at this; exact this)
  have hrab : ra.b = bs := by have := (Rr.new bs).count_b 8; rw [hca] at this; exact this
  have hrnb : Hid (rn.b = bs) := hid (by have := ra.count_b 32; rw [hcn] at this; exact this.trans hrab)
  obtain ⟨G, hG⟩ : ∃ G, G = getC n rn [] := ⟨_, rfl⟩
  have hGP : Hid (getP bs = getG a G) := hid (by rw [getP_eq, hca]; simp only; rw [hcn]; simp only; rw [← hG])
  have hGh := hid hG
  have hcah := hid hca; have hcnh := hid hcn
  clear hG hca hcn hrab
  go_wp2_with fail
  refine (rcount_any hr3h.out 8 (by decide)).mono ?_
  rw [hcah.out]
  rintro e w4 ⟨rfl, hu0, hr0⟩
  have hu4 := hid hu0; have hr4 := hid hr0
  clear hu0 hr0 hcah
  go_upto_region 3 with fail
  obtain ⟨bp, hbp⟩ : ∃ bp, bp = w4.heap.size := ⟨_, rfl⟩
  obtain ⟨N, hN⟩ : ∃ N, N = w4.heap.size + 1 := ⟨_, rfl⟩
  obtain ⟨S, hS⟩ : ∃ S : Nat → Prop, S = fun k => S' k ∧ k < w4.heap.size := ⟨_, rfl⟩
  have h5 : Hid (GM 81 S w (w4.alloc (.cells #[.int .i64 (a : Nat), .slice none 0 0, .slice none 0 0] 29)) N g A c ra bp (a : Nat) (.slice none 0 0) (.slice none 0 0) [] []) := hid (by
    have h1 := hsz.out
    have h2 := hr4.out.blk.lt
    have h3 := hg3h.out
    have h6 := hb3h.out.size
    have h7 := hu4.out.size
    have hb5 : Below w4.heap.size w4 (w4.alloc (.cells #[.int .i64 (a : Nat), .slice none 0 0, .slice none 0 0] 29)) := (Below.refl _ _).alloc (Nat.le_refl _) _
    refine ⟨?_, fun k hk => ?_, ⟨by omega, by omega, by omega, by omega, by omega⟩, ((kz.out.below_all hb3h.out).upd hu4.out (by omega)).below_all hb5, Blk.new' _ _ _ hbp, World.ownsRow_nil _ _ _ _, World.ownsRow_nil _ _ _ _, ((hB0.out.trans (hb3h.out.mono hB0.out.size)).trans (hu4.out.below (B := w.heap.size) (by omega) fun k hk e => by omega)).trans (hb5.mono (by omega)), by simp; omega⟩
    · rw [hS]; exact hr4.out.bound.below_all hb5
    · rw [hS] at hk
      have := h3.2 k hk.1
      exact ⟨by omega, by omega, by omega⟩)
  rw [← hbp]
  generalize w4.alloc (.cells #[.int .i64 (a : Nat), .slice none 0 0, .slice none 0 0] 29) = w5 at *
  clear hbp hN hS hr4 hu4 hr3h hb3h hg3h kz hsz hB0
  go_wp2_with fail
  refine (rcount_any h5.out.rd 32 (by decide)).mono ?_
  rw [hcnh.out]
  rintro e w6 ⟨rfl, hu0, hr0⟩
  have h6 := hid (h5.out.call hu0 hr0)
  clear hu0 hr0 h5 hcnh
  go_wp2_with fail
  go_loopw [8] (fun v wr => ∃ (k : Nat) (A1 : Option Addr) (c1 : Nat) (cs : List Vl) (r : Rr), v = .int .i64 k ∧ k ≤ n ∧ GM 81 S w wr N g A c r bp (a : Nat) (.slice A1 cs.length c1) (.slice none 0 0) cs [] ∧ cs.length = k ∧ (∀ x ∈ cs, x.s.size ≤ 64) ∧ r.b = bs ∧ ((r.e = 0 ∧ getC (n - k) r cs = G) ∨ (r.e ≠ 0 ∧ ∃ l, G = .inl (r, l)))) (fun v _ => n - (intOf v).toNat)
  case atStart => exact ⟨0, none, 0, [], rn, rfl, Nat.zero_le _, h6.out, rfl, fun x hx => (by cases hx), hrnb.out, by
    by_cases he : rn.e = 0
    · exact .inl ⟨he, hGh.out.symm⟩
    · exact .inr ⟨he, [], by rw [hGh.out, getC_bad he]⟩⟩
  case round =>
    clear h6
    obtain ⟨k, A1, c1, cs, r, rfl, hk, h70, hck, hsm0, hrb0, hJ0⟩ := hrel
    have h7 := hid h70; have hsm := hid hsm0; have hrb := hid hrb0; have hckh := hid hck
    have e1 : wr.cell? ⟨g, 1, none⟩ = _ := h70.rd.blk.cell 1
    have e3 : wr.cell? ⟨g, 3, none⟩ = _ := h70.rd.blk.cell 3
    have e4 : wr.cell? ⟨g, 4, none⟩ = _ := h70.rd.blk.cell 4
    simp only [List.getElem?_toArray, List.getElem?_cons_zero, List.getElem?_cons_succ] at e1 e3 e4
    clear h70 hsm0 hrb0
    by_cases hlt : k < n
    · have i1 : (k : Int) < (n : Int) := by omega
      by_cases he : r.e = 0
      · have t0 : (r.e == 0) = true := by simpa using he
        have hkn := hid hlt
        have hJ : Hid (getC (n - k) r cs = G) := hid (by
          rcases hJ0 with ⟨_, h⟩ | ⟨h, _⟩
          · exact h
          · exact absurd he h)
        have he0 := hid he
        have hk1 := hid (show k + 1 ≤ 32 by have := hn32.out; omega)
        clear hk hlt hck he hJ0
        go_upto_region 8 with fail
        clear e1 e3 e4
        go_wp2_with fail
        refine (rtake_any h7.out.rd).mono ?_
        rintro e w9 ⟨rfl, hu0, hr0⟩
        obtain ⟨v, r1, hv⟩ : ∃ v r1, r.take = (v, r1) := ⟨_, _, rfl⟩
        rw [hv] at hr0
        simp only at hr0
        have h9 := hid (h7.out.call hu0 hr0)
        have hvh := hid hv
        have hvs : Hid (v.s.size ≤ 64) := hid (by have := r.take_sz; rw [hv] at this; exact this)
        have hr1b : Hid (r1.b = bs) := hid (by have := r.take_b; rw [hv] at this; exact this.trans hrb.out)
        rw [hv]
        simp only
        clear hu0 hr0 h7 hv
        go_upto_region 9 with fail
        obtain ⟨bv, hbv⟩ : ∃ bv, bv = w9.heap.size := ⟨_, rfl⟩
        have kv0 : Blk (w9.alloc (.cells #[.int .i64 v.k, .int .i64 v.n, .string v.s] 51)) bv 51 #[.int .i64 v.k, .int .i64 v.n, .string v.s] := Blk.new' _ _ _ hbv
        have h11 := hid (h9.out.below (W' := w9.alloc (.cells #[.int .i64 v.k, .int .i64 v.n, .string v.s] 51)) ((Below.refl _ _).alloc (Nat.le_refl _) _))
        generalize w9.alloc (.cells #[.int .i64 v.k, .int .i64 v.n, .string v.s] 51) = w11 at *
        rw [← hbv]
        have v0 : w11.cell? ⟨bv, 0, none⟩ = some (.int .i64 v.k) := kv0.cell 0
        have v1 : w11.cell? ⟨bv, 1, none⟩ = some (.int .i64 v.n) := kv0.cell 1
        have v2 : w11.cell? ⟨bv, 2, none⟩ = some (.string v.s) := kv0.cell 2
        have hlv := kv0.lt
        clear hbv kv0 h9
        obtain ⟨z0, z1, z2, p0, p1, p2, fz, fp, hlz, hlp⟩ := h11.out.cells
        have e1 : w11.cell? ⟨g, 1, none⟩ = _ := h11.out.rd.blk.cell 1
        have e3 : w11.cell? ⟨g, 3, none⟩ = _ := h11.out.rd.blk.cell 3
        have e4 : w11.cell? ⟨g, 4, none⟩ = _ := h11.out.rd.blk.cell 4
        simp only [List.getElem?_toArray, List.getElem?_cons_zero, List.getElem?_cons_succ] at e1 e3 e4
        by_cases he1 : r1.e = 0 ∧ v.k = 0
        · have t1 : (r1.e == 0) = true := by simpa using he1.1
          have t2 : (v.k == 0) = true := by simpa using he1.2
          have hfin : Hid (getP bs = .inr (51, r.at_)) := hid (by
            have hJ := hJ.out
            rw [hGP.out]
            rw [getC_step hkn.out he0.out, hvh.out] at hJ
            simp only at hJ
            rw [if_pos he1] at hJ
            rw [← hJ]
            rfl)
          clear he1 hJ
          generalize r1.e = re1 at *
          go_wp2_with fail
          have hT := h11.out.res (.int .i64 0) (.slice none 0 0) (.slice none 0 0)
          obtain ⟨hTB, hTb, hT1, hT2⟩ := hT
          have z0 := hTb.cell 0
          have z1 := hTb.cell 1
          have z2 := hTb.cell 2
          simp only [List.getElem?_toArray, List.getElem?_cons_zero, List.getElem?_cons_succ] at z0 z1 z2
          refine bodyPost_ret (v := .tuple #[.agg #[.int .i64 0, .slice none 0 0, .slice none 0 0], .int .i64 51, .int .i64 (r.at_ : Nat)]) (by simp [results, Try.results24, go_sem, z0, z1, z2]) rfl ⟨hTB, ?_⟩
          rw [hfin.out]
        · have hJ2 : Hid ((r1.e = 0 ∧ getC (n - (k + 1)) r1 (cs ++ [v]) = G) ∨ (r1.e ≠ 0 ∧ ∃ l, G = .inl (r1, l))) := hid (by
            have hJ := hJ.out
            rw [getC_step hkn.out he0.out, hvh.out] at hJ
            simp only at hJ
            rw [if_neg he1] at hJ
            by_cases h1 : r1.e = 0
            · exact .inl ⟨h1, hJ⟩
            · exact .inr ⟨h1, cs ++ [v], by rw [← hJ, getC_bad h1]⟩)
          have hsm2 : Hid (∀ x ∈ cs ++ [v], x.s.size ≤ 64) := hid (fun x hx => by
            rcases List.mem_append.1 hx with h | h
            · exact hsm.out x h
            · rw [List.mem_singleton.1 h]; exact hvs.out)
          have hlen : Hid ((cs ++ [v]).length = k + 1) := hid (by have := hckh.out; simp; omega)
          clear hJ
          by_cases h1 : r1.e = 0
          · have t1 : (r1.e == 0) = true := by simpa using h1
            have t2 : (v.k == 0) = false := by
              have : ¬ v.k = 0 := fun h => he1 ⟨h1, h⟩
              simpa using this
            clear he1 h1
            go_upto_region 11 with fail
            clear t1 t2
            have hrow := hid h11.out.o1
            have hws := hid (wrap_succ (k := k) (by have := hk1.out; omega))
            have hszN := hid h11.out.sz
            go_wp2_with (
              at_builtin
              refine wpList_append_rd _ rfl (.tmp 56) (.tmp 58) 26 rfl N 51 iv _ 3 32 Try.underlying26 hv0 hv1 hv2 hv3 rfl (by omega) (.slice A1 cs.length c1) cs.length (vcells cs) rfl (own_below hrow.out ((Below.refl _ _).alloc (Nat.le_refl _) _)) (fun b => b = w11.heap.size) (some ⟨w11.heap.size, 0, none⟩) 1 1 v.cells rfl (Rd.new _ _ 3 1 #[.int .i64 v.k, .int .i64 v.n, .string v.s] _ rfl rfl) (by intro u hu; unfold Vl.cells at hu; simp at hu; rcases hu with rfl | rfl | rfl <;> rfl) (by have := hckh.out; have := hk1.out; simp only [maxLen]; omega) (by have := hckh.out; have := hk1.out; omega) (by have := hszN.out; simp; omega) ?_
              intro v9 w12 hown9 hg9 hat9
              obtain ⟨A9, c9, rfl, _⟩ := own_form hown9
              have h12 := hid (GM.addC (v := v) (h11.out.below (W' := w11.alloc (.cells #[.int .i64 v.k, .int .i64 v.n, .string v.s] 51)) ((Below.refl _ _).alloc (Nat.le_refl _) _)) hg9 hown9)
              have p1' : w12.cell? ⟨bp, 1, none⟩ = some (.slice A1 cs.length c1) := (GM.grown (h11.out.below (W' := w11.alloc (.cells #[.int .i64 v.k, .int .i64 v.n, .string v.s] 51)) ((Below.refl _ _).alloc (Nat.le_refl _) _)) hg9 fun k hk => (hrow.out.lt k hk).1).2.2.1.cell 1
              have fp' : ∀ q, w12.frozen? ⟨bp, q, none⟩ = false := fun q => (GM.grown (h11.out.below (W' := w11.alloc (.cells #[.int .i64 v.k, .int .i64 v.n, .string v.s] 51)) ((Below.refl _ _).alloc (Nat.le_refl _) _)) hg9 fun k hk => (hrow.out.lt k hk).1).2.2.1.frozen q
              have hl' : bp < w12.heap.size := (GM.grown (h11.out.below (W' := w11.alloc (.cells #[.int .i64 v.k, .int .i64 v.n, .string v.s] 51)) ((Below.refl _ _).alloc (Nat.le_refl _) _)) hg9 fun k hk => (hrow.out.lt k hk).1).2.2.1.lt
              clear hown9 hg9 hat9 v0 v1 v2 hlv z0 z1 z2 p0 p1 p2 fz fp hlz hlp e1 e3 e4)
            go_roundw
            case rel => exact ⟨k + 1, A9, c9, cs ++ [v], r1, by rw [hws.out], hkn.out, (by rw [show (cs ++ [v]).length = cs.length + 1 by simp]; exact h12.out), hlen.out, hsm2.out, hr1b.out, hJ2.out⟩
            case measure =>
              rw [hws.out]
              have h2 := hkn.out
              show n - (((k + 1 : Nat) : Int)).toNat < n - ((k : Nat) : Int).toNat
              rw [Int.toNat_natCast, Int.toNat_natCast]
              omega
          · have t1 : (r1.e == 0) = false := by simpa using h1
            clear he1 h1
            go_upto_region 11 with fail
            clear t1
            have hrow := hid h11.out.o1
            have hws := hid (wrap_succ (k := k) (by have := hk1.out; omega))
            have hszN := hid h11.out.sz
            go_wp2_with (
              at_builtin
              refine wpList_append_rd _ rfl (.tmp 56) (.tmp 58) 26 rfl N 51 iv _ 3 32 Try.underlying26 hv0 hv1 hv2 hv3 rfl (by omega) (.slice A1 cs.length c1) cs.length (vcells cs) rfl (own_below hrow.out ((Below.refl _ _).alloc (Nat.le_refl _) _)) (fun b => b = w11.heap.size) (some ⟨w11.heap.size, 0, none⟩) 1 1 v.cells rfl (Rd.new _ _ 3 1 #[.int .i64 v.k, .int .i64 v.n, .string v.s] _ rfl rfl) (by intro u hu; unfold Vl.cells at hu; simp at hu; rcases hu with rfl | rfl | rfl <;> rfl) (by have := hckh.out; have := hk1.out; simp only [maxLen]; omega) (by have := hckh.out; have := hk1.out; omega) (by have := hszN.out; simp; omega) ?_
              intro v9 w12 hown9 hg9 hat9
              obtain ⟨A9, c9, rfl, _⟩ := own_form hown9
              have h12 := hid (GM.addC (v := v) (h11.out.below (W' := w11.alloc (.cells #[.int .i64 v.k, .int .i64 v.n, .string v.s] 51)) ((Below.refl _ _).alloc (Nat.le_refl _) _)) hg9 hown9)
              have p1' : w12.cell? ⟨bp, 1, none⟩ = some (.slice A1 cs.length c1) := (GM.grown (h11.out.below (W' := w11.alloc (.cells #[.int .i64 v.k, .int .i64 v.n, .string v.s] 51)) ((Below.refl _ _).alloc (Nat.le_refl _) _)) hg9 fun k hk => (hrow.out.lt k hk).1).2.2.1.cell 1
              have fp' : ∀ q, w12.frozen? ⟨bp, q, none⟩ = false := fun q => (GM.grown (h11.out.below (W' := w11.alloc (.cells #[.int .i64 v.k, .int .i64 v.n, .string v.s] 51)) ((Below.refl _ _).alloc (Nat.le_refl _) _)) hg9 fun k hk => (hrow.out.lt k hk).1).2.2.1.frozen q
              have hl' : bp < w12.heap.size := (GM.grown (h11.out.below (W' := w11.alloc (.cells #[.int .i64 v.k, .int .i64 v.n, .string v.s] 51)) ((Below.refl _ _).alloc (Nat.le_refl _) _)) hg9 fun k hk => (hrow.out.lt k hk).1).2.2.1.lt
              clear hown9 hg9 hat9 v0 v1 v2 hlv z0 z1 z2 p0 p1 p2 fz fp hlz hlp e1 e3 e4)
            go_roundw
            case rel => exact ⟨k + 1, A9, c9, cs ++ [v], r1, by rw [hws.out], hkn.out, (by rw [show (cs ++ [v]).length = cs.length + 1 by simp]; exact h12.out), hlen.out, hsm2.out, hr1b.out, hJ2.out⟩
            case measure =>
              rw [hws.out]
              have h2 := hkn.out
              show n - (((k + 1 : Nat) : Int)).toNat < n - ((k : Nat) : Int).toNat
              rw [Int.toNat_natCast, Int.toNat_natCast]
              omega
      · have t0 : (r.e == 0) = false := by simpa using he
        have hGl : Hid (∃ l, G = .inl (r, l) ∧ (r.e = 0 → l = cs)) := hid (by
          rcases hJ0 with ⟨h, _⟩ | ⟨h, l, hJ⟩
          · exact absurd h he
          · exact ⟨l, hJ, fun h => absurd h he⟩)
        have hkn : Hid (k ≤ n) := hid hk
        clear hk hlt hck he hJ0
        obtain ⟨l, hGl⟩ := hGl.out
        have hQ : Hid (getP bs = getQ a r l ∧ (r.e = 0 → l = cs)) := hid ⟨by rw [hGP.out, hGl.1]; rfl, hGl.2⟩
        clear hGl hGP hGh
        obtain ⟨m, rm, hcm⟩ : ∃ m rm, r.count 256 = (m, rm) := ⟨_, _, rfl⟩
        have hm256 : Hid (m ≤ 256) := hid (by have := r.count_le 256; rw [show ((256 : Nat) : Int) = 256 from rfl, hcm] at this; exact this)
        have hrmb : Hid (rm.b = bs) := hid (by have := r.count_b 256; rw [hcm] at this; exact this.trans hrb.out)
        have hcmh := hid hcm
        obtain ⟨G2, hG2⟩ : ∃ G2, G2 = getI m rm [] none := ⟨_, rfl⟩
        have hG2h := hid hG2
        clear hG2
        go_upto_region 12 with fail
        clear e1 e3 e4
        clear i1
        go_wp2_with fail
        refine (rcount_any h7.out.rd 256 (by decide)).mono ?_
        rw [hcm]
        rintro e w8 ⟨rfl, hu0, hr0⟩
        have h8 := hid (h7.out.call hu0 hr0)
        clear hu0 hr0 h7 hcm
        go_wp2_with fail
        go_loopw [11, 12] (fun xv v wr => ∃ (k : Nat) (A2 : Option Addr) (c2 : Nat) (code cm : List Is) (x : Option Nat) (r : Rr), xv = .int .i64 (wid x) ∧ v = .int .i64 k ∧ k ≤ m ∧ GM 81 S w wr N g A c r bp (a : Nat) (.slice A1 cs.length c1) (.slice A2 cm.length c2) cs cm ∧ cm.length = k ∧ (x = none → cm = code) ∧ r.b = bs ∧ ((r.e = 0 ∧ getI (m - k) r code x = G2) ∨ (r.e ≠ 0 ∧ ∃ l y, G2 = (r, l, y)))) (fun _ v _ => m - (intOf v).toNat)
        case atStart => exact ⟨0, none, 0, [], [], none, rm, rfl, rfl, Nat.zero_le _, h8.out, rfl, fun _ => rfl, hrmb.out, by
          by_cases he : rm.e = 0
          · exact .inl ⟨he, hG2h.out.symm⟩
          · exact .inr ⟨he, [], none, by rw [hG2h.out, getI_bad he]⟩⟩
        case round =>
          clear h8
          obtain ⟨k2, A2, c2, code, cm, x, r', rfl, rfl, hk2, h90, hck2, hcmm, hrb2, hJ20⟩ := hrel
          have h9 := hid h90; have hrb' := hid hrb2; have hckh2 := hid hck2; have hcx := hid hcmm
          have e1 : wr.cell? ⟨g, 1, none⟩ = _ := h90.rd.blk.cell 1
          have e3 : wr.cell? ⟨g, 3, none⟩ = _ := h90.rd.blk.cell 3
          have e4 : wr.cell? ⟨g, 4, none⟩ = _ := h90.rd.blk.cell 4
          simp only [List.getElem?_toArray, List.getElem?_cons_zero, List.getElem?_cons_succ] at e1 e3 e4
          clear h90 hrb2 hcmm
          by_cases hlt : k2 < m
          · have i2 : (k2 : Int) < (m : Int) := by omega
            by_cases he : r'.e = 0
            · have t0' : (r'.e == 0) = true := by simpa using he
              have hkm := hid hlt
              have hk21 := hid (show k2 + 1 ≤ 256 by have := hm256.out; omega)
              have hJ2 : Hid (getI (m - k2) r' code x = G2) := hid (by
                rcases hJ20 with ⟨_, h⟩ | ⟨h, _⟩
                · exact h
                · exact absurd he h)
              have he0' := hid he
              clear hk2 hlt hck2 he hJ20
              obtain ⟨q, r1, hq⟩ : ∃ q r1, r'.byte = (q, r1) := ⟨_, _, rfl⟩
              obtain ⟨u, r3, hu⟩ : ∃ u r3, r1.uint = (u, r3) := ⟨_, _, rfl⟩
              have hq8 : q < 256 := by have := Rr.byte_lt (r := r') (by rw [hrb'.out]; exact hbb.out); rw [hq] at this; exact this
              have hu64 : u < 18446744073709551616 := by have := r1.uint_lt; rw [hu] at this; exact this
              have hr1b : r1.b = bs := by have := r'.byte_b; rw [hq] at this; exact this.trans hrb'.out
              have hr3b : Hid (r3.b = bs) := hid (by have := r1.uint_b; rw [hu] at this; exact this.trans hr1b)
              obtain ⟨mn, hmn⟩ : ∃ mn, mn = min u 255 := ⟨_, rfl⟩
              obtain ⟨mv, hmv⟩ : ∃ mv, mv = u % 256 := ⟨_, rfl⟩
              have fq : IntKind.i64.wrap (q : Int) = (q : Int) := by rw [IntKind.wrap_i64]; omega
              have fmv : IntKind.i64.wrap (mv : Int) = (mv : Int) := by rw [IntKind.wrap_i64]; omega
              have fand : bits BinOp.and IntKind.u64 (u : Int) 255 = (mv : Int) := by rw [hmv]; exact and_255 u hu64
              obtain ⟨x', hx'⟩ : ∃ x', x' = if 255 < u ∧ x = none then some r1.at_ else x := ⟨_, rfl⟩
              have hcx2 : Hid (x' = none → cm ++ [(⟨q, (mv : Nat)⟩ : Is)] = code ++ [⟨q, (mn : Nat)⟩]) := hid (fun h => by
                rw [hx'] at h
                by_cases hc : 255 < u ∧ x = none
                · rw [if_pos hc] at h; cases h
                · rw [if_neg hc] at h
                  have hu5 : u ≤ 255 := by
                    by_cases h5 : u ≤ 255
                    · exact h5
                    · exact absurd ⟨by omega, h⟩ hc
                  rw [hcx.out h, show mv = mn by omega])
              have hJ3 : Hid ((r3.e = 0 ∧ getI (m - (k2 + 1)) r3 (code ++ [⟨q, (mn : Nat)⟩]) x' = G2) ∨ (r3.e ≠ 0 ∧ ∃ l y, G2 = (r3, l, y))) := hid (by
                have hJ := hJ2.out
                rw [getI_step hkm.out he0'.out, hq] at hJ
                simp only at hJ
                rw [hu] at hJ
                simp only at hJ
                rw [← hx', ← hmn] at hJ
                by_cases h1 : r3.e = 0
                · exact .inl ⟨h1, hJ⟩
                · exact .inr ⟨h1, _, _, by rw [← hJ, getI_bad h1]⟩)
              have hqh := hid hq; have huh := hid hu
              have hlen2 : Hid ((cm ++ [(⟨q, (mv : Nat)⟩ : Is)]).length = k2 + 1) := hid (by have := hckh2.out; simp; omega)
              clear hJ2 hq hu hu64 hq8 hr1b hmn hmv
              go_upto_region 17 with fail
              clear e1 e3 e4
              clear i2 t0'
              go_wp2_with fail
              refine (rbyte_any h9.out.rd).mono ?_
              rw [hqh.out]
              rintro e w10 ⟨rfl, hu0, hr0⟩
              have h10 := hid (h9.out.call hu0 hr0)
              clear hu0 hr0 h9
              have e1 : w10.cell? ⟨g, 1, none⟩ = _ := h10.out.rd.blk.cell 1
              have e3 : w10.cell? ⟨g, 3, none⟩ = _ := h10.out.rd.blk.cell 3
              have e4 : w10.cell? ⟨g, 4, none⟩ = _ := h10.out.rd.blk.cell 4
              simp only [List.getElem?_toArray, List.getElem?_cons_zero, List.getElem?_cons_succ] at e1 e3 e4
              go_upto_region 19 with fail
              clear e1 e3 e4
              go_wp2_with fail
              refine (ruint_any h10.out.rd).mono ?_
              rw [huh.out]
              rintro e w12 ⟨rfl, hu0, hr0⟩
              have h12 := hid (h10.out.call hu0 hr0)
              clear hu0 hr0 h10
              by_cases hbig : 255 < u
              · have t1 : (255 : Int) < (u : Int) := by omega
                cases x with
                | none =>
                  have hxx : Hid (x' = some r1.at_) := hid (by rw [hx', if_pos ⟨hbig, rfl⟩])
                  have e2 : wid none = -1 := rfl
                  rw [e2]
                  clear hbig hx' e2
                  go_upto_region 22 with fail
                  clear t1
                  have hrow := hid h12.out.o2
                  have hszN := hid h12.out.sz
                  have hws := hid (wrap_succ (k := k2) hk21.out)
                  obtain ⟨z0, z1, z2, p0, p1, p2, fz, fp, hlz, hlp⟩ := h12.out.cells
                  go_wp2_with (
                    at_builtin
                    refine wpList_append_rd _ rfl (.tmp 92) (.tmp 98) 27 rfl N 49 ii _ 2 16 Try.underlying27 hi0 hi1 hi2 hi3 rfl (by omega) (.slice A2 cm.length c2) cm.length (icells cm) rfl (own_below hrow.out ((Below.refl _ _).alloc (Nat.le_refl _) _)) (fun b => b = w12.heap.size) (some ⟨w12.heap.size, 0, none⟩) 1 1 (Is.cells ⟨q, (mv : Nat)⟩) rfl (Rd.new _ _ 2 1 #[.int .i64 (q : Nat), .int .i64 (mv : Nat)] _ rfl rfl) (by intro u hu; unfold Is.cells at hu; simp at hu; rcases hu with rfl | rfl <;> rfl) (by have := hckh2.out; have := hk21.out; simp only [maxLen]; omega) (by have := hckh2.out; have := hk21.out; omega) (by have := hszN.out; simp; omega) ?_
                    intro v9 w13 hown9 hg9 hat9
                    obtain ⟨A9, c9, rfl, _⟩ := own_form hown9
                    have h13 := hid (GM.addI (i := ⟨q, (mv : Nat)⟩) (h12.out.below (W' := w12.alloc (.cells #[.int .i64 (q : Nat), .int .i64 (mv : Nat)] 49)) ((Below.refl _ _).alloc (Nat.le_refl _) _)) hg9 hown9)
                    have p1' : w13.cell? ⟨bp, 2, none⟩ = some (.slice A2 cm.length c2) := (GM.grown (h12.out.below (W' := w12.alloc (.cells #[.int .i64 (q : Nat), .int .i64 (mv : Nat)] 49)) ((Below.refl _ _).alloc (Nat.le_refl _) _)) hg9 fun k hk => (hrow.out.lt k hk).1).2.2.1.cell 2
                    have fp' : ∀ qq, w13.frozen? ⟨bp, qq, none⟩ = false := fun qq => (GM.grown (h12.out.below (W' := w12.alloc (.cells #[.int .i64 (q : Nat), .int .i64 (mv : Nat)] 49)) ((Below.refl _ _).alloc (Nat.le_refl _) _)) hg9 fun k hk => (hrow.out.lt k hk).1).2.2.1.frozen qq
                    have hl' : bp < w13.heap.size := (GM.grown (h12.out.below (W' := w12.alloc (.cells #[.int .i64 (q : Nat), .int .i64 (mv : Nat)] 49)) ((Below.refl _ _).alloc (Nat.le_refl _) _)) hg9 fun k hk => (hrow.out.lt k hk).1).2.2.1.lt
                    clear hown9 hg9 hat9 z0 z1 z2 p0 p1 p2 fz fp hlz hlp)
                  go_roundw
                  case rel => exact ⟨k2 + 1, A9, c9, code ++ [⟨q, (mn : Nat)⟩], cm ++ [⟨q, (mv : Nat)⟩], x', r3, by first | (rw [hxx.out]; done) | (rw [hxx.out]; rfl), by rw [hws.out], hkm.out, (by rw [show (cm ++ [(⟨q, (mv : Nat)⟩ : Is)]).length = cm.length + 1 by simp]; exact h13.out), hlen2.out, hcx2.out, hr3b.out, hJ3.out⟩
                  case measure =>
                    rw [hws.out]
                    have h2 := hkm.out
                    show m - (((k2 + 1 : Nat) : Int)).toNat < m - ((k2 : Nat) : Int).toNat
                    rw [Int.toNat_natCast, Int.toNat_natCast]
                    omega
                | some b =>
                  have hxx : Hid (x' = some b) := hid (by rw [hx', if_neg (by simp)])
                  have e2 : wid (some b) = (b : Int) := rfl
                  rw [e2]
                  have t2 : ¬ ((b : Int) < 0) := by omega
                  clear hbig hx' e2
                  go_upto_region 22 with fail
                  clear t1 t2
                  have hrow := hid h12.out.o2
                  have hszN := hid h12.out.sz
                  have hws := hid (wrap_succ (k := k2) hk21.out)
                  obtain ⟨z0, z1, z2, p0, p1, p2, fz, fp, hlz, hlp⟩ := h12.out.cells
                  go_wp2_with (
                    at_builtin
                    refine wpList_append_rd _ rfl (.tmp 92) (.tmp 98) 27 rfl N 49 ii _ 2 16 Try.underlying27 hi0 hi1 hi2 hi3 rfl (by omega) (.slice A2 cm.length c2) cm.length (icells cm) rfl (own_below hrow.out ((Below.refl _ _).alloc (Nat.le_refl _) _)) (fun b => b = w12.heap.size) (some ⟨w12.heap.size, 0, none⟩) 1 1 (Is.cells ⟨q, (mv : Nat)⟩) rfl (Rd.new _ _ 2 1 #[.int .i64 (q : Nat), .int .i64 (mv : Nat)] _ rfl rfl) (by intro u hu; unfold Is.cells at hu; simp at hu; rcases hu with rfl | rfl <;> rfl) (by have := hckh2.out; have := hk21.out; simp only [maxLen]; omega) (by have := hckh2.out; have := hk21.out; omega) (by have := hszN.out; simp; omega) ?_
                    intro v9 w13 hown9 hg9 hat9
                    obtain ⟨A9, c9, rfl, _⟩ := own_form hown9
                    have h13 := hid (GM.addI (i := ⟨q, (mv : Nat)⟩) (h12.out.below (W' := w12.alloc (.cells #[.int .i64 (q : Nat), .int .i64 (mv : Nat)] 49)) ((Below.refl _ _).alloc (Nat.le_refl _) _)) hg9 hown9)
                    have p1' : w13.cell? ⟨bp, 2, none⟩ = some (.slice A2 cm.length c2) := (GM.grown (h12.out.below (W' := w12.alloc (.cells #[.int .i64 (q : Nat), .int .i64 (mv : Nat)] 49)) ((Below.refl _ _).alloc (Nat.le_refl _) _)) hg9 fun k hk => (hrow.out.lt k hk).1).2.2.1.cell 2
                    have fp' : ∀ qq, w13.frozen? ⟨bp, qq, none⟩ = false := fun qq => (GM.grown (h12.out.below (W' := w12.alloc (.cells #[.int .i64 (q : Nat), .int .i64 (mv : Nat)] 49)) ((Below.refl _ _).alloc (Nat.le_refl _) _)) hg9 fun k hk => (hrow.out.lt k hk).1).2.2.1.frozen qq
                    have hl' : bp < w13.heap.size := (GM.grown (h12.out.below (W' := w12.alloc (.cells #[.int .i64 (q : Nat), .int .i64 (mv : Nat)] 49)) ((Below.refl _ _).alloc (Nat.le_refl _) _)) hg9 fun k hk => (hrow.out.lt k hk).1).2.2.1.lt
                    clear hown9 hg9 hat9 z0 z1 z2 p0 p1 p2 fz fp hlz hlp)
                  go_roundw
                  case rel => exact ⟨k2 + 1, A9, c9, code ++ [⟨q, (mn : Nat)⟩], cm ++ [⟨q, (mv : Nat)⟩], x', r3, by first | (rw [hxx.out]; done) | (rw [hxx.out]; rfl), by rw [hws.out], hkm.out, (by rw [show (cm ++ [(⟨q, (mv : Nat)⟩ : Is)]).length = cm.length + 1 by simp]; exact h13.out), hlen2.out, hcx2.out, hr3b.out, hJ3.out⟩
                  case measure =>
                    rw [hws.out]
                    have h2 := hkm.out
                    show m - (((k2 + 1 : Nat) : Int)).toNat < m - ((k2 : Nat) : Int).toNat
                    rw [Int.toNat_natCast, Int.toNat_natCast]
                    omega
              · have t1 : ¬ ((255 : Int) < (u : Int)) := by omega
                have hxx : Hid (x' = x) := hid (by rw [hx', if_neg (by rintro ⟨h, _⟩; exact hbig h)])
                clear hbig hx'
                go_upto_region 22 with fail
                clear t1
                have hrow := hid h12.out.o2
                have hszN := hid h12.out.sz
                have hws := hid (wrap_succ (k := k2) hk21.out)
                obtain ⟨z0, z1, z2, p0, p1, p2, fz, fp, hlz, hlp⟩ := h12.out.cells
                go_wp2_with (
                  at_builtin
                  refine wpList_append_rd _ rfl (.tmp 92) (.tmp 98) 27 rfl N 49 ii _ 2 16 Try.underlying27 hi0 hi1 hi2 hi3 rfl (by omega) (.slice A2 cm.length c2) cm.length (icells cm) rfl (own_below hrow.out ((Below.refl _ _).alloc (Nat.le_refl _) _)) (fun b => b = w12.heap.size) (some ⟨w12.heap.size, 0, none⟩) 1 1 (Is.cells ⟨q, (mv : Nat)⟩) rfl (Rd.new _ _ 2 1 #[.int .i64 (q : Nat), .int .i64 (mv : Nat)] _ rfl rfl) (by intro u hu; unfold Is.cells at hu; simp at hu; rcases hu with rfl | rfl <;> rfl) (by have := hckh2.out; have := hk21.out; simp only [maxLen]; omega) (by have := hckh2.out; have := hk21.out; omega) (by have := hszN.out; simp; omega) ?_
                  intro v9 w13 hown9 hg9 hat9
                  obtain ⟨A9, c9, rfl, _⟩ := own_form hown9
                  have h13 := hid (GM.addI (i := ⟨q, (mv : Nat)⟩) (h12.out.below (W' := w12.alloc (.cells #[.int .i64 (q : Nat), .int .i64 (mv : Nat)] 49)) ((Below.refl _ _).alloc (Nat.le_refl _) _)) hg9 hown9)
                  have p1' : w13.cell? ⟨bp, 2, none⟩ = some (.slice A2 cm.length c2) := (GM.grown (h12.out.below (W' := w12.alloc (.cells #[.int .i64 (q : Nat), .int .i64 (mv : Nat)] 49)) ((Below.refl _ _).alloc (Nat.le_refl _) _)) hg9 fun k hk => (hrow.out.lt k hk).1).2.2.1.cell 2
                  have fp' : ∀ qq, w13.frozen? ⟨bp, qq, none⟩ = false := fun qq => (GM.grown (h12.out.below (W' := w12.alloc (.cells #[.int .i64 (q : Nat), .int .i64 (mv : Nat)] 49)) ((Below.refl _ _).alloc (Nat.le_refl _) _)) hg9 fun k hk => (hrow.out.lt k hk).1).2.2.1.frozen qq
                  have hl' : bp < w13.heap.size := (GM.grown (h12.out.below (W' := w12.alloc (.cells #[.int .i64 (q : Nat), .int .i64 (mv : Nat)] 49)) ((Below.refl _ _).alloc (Nat.le_refl _) _)) hg9 fun k hk => (hrow.out.lt k hk).1).2.2.1.lt
                  clear hown9 hg9 hat9 z0 z1 z2 p0 p1 p2 fz fp hlz hlp)
                go_roundw
                case rel => exact ⟨k2 + 1, A9, c9, code ++ [⟨q, (mn : Nat)⟩], cm ++ [⟨q, (mv : Nat)⟩], x', r3, by first | (rw [hxx.out]; done) | (rw [hxx.out]; rfl), by rw [hws.out], hkm.out, (by rw [show (cm ++ [(⟨q, (mv : Nat)⟩ : Is)]).length = cm.length + 1 by simp]; exact h13.out), hlen2.out, hcx2.out, hr3b.out, hJ3.out⟩
                case measure =>
                  rw [hws.out]
                  have h2 := hkm.out
                  show m - (((k2 + 1 : Nat) : Int)).toNat < m - ((k2 : Nat) : Int).toNat
                  rw [Int.toNat_natCast, Int.toNat_natCast]
                  omega
            · have t0' : (r'.e == 0) = false := by simpa using he
              have hGl2 : Hid (∃ lc y, G2 = (r', lc, y) ∧ (r'.e = 0 → lc = code ∧ y = x)) := hid (by
                rcases hJ20 with ⟨h0, hJ⟩ | ⟨h0, lc, y, hJ⟩
                · exact absurd h0 he
                · exact ⟨lc, y, hJ, fun h => absurd h h0⟩)
              have hkm : Hid (k2 ≤ m) := hid hk2
              clear hk2 hlt hck2 he hJ20
              obtain ⟨lc, y, hGl, hlc⟩ := hGl2.out
              have hE : getP bs = getE a l (r', lc, y) := by
                rw [hQ.out.1, getQ_eq, hcmh.out]
                simp only
                rw [← hG2h.out, hGl]
              have hre : r'.e = 0 → r.e = 0 := fun h => by
                by_cases h1 : r.e = 0
                · exact h1
                · exfalso
                  have h2 := hcmh.out
                  rw [Rr.count_e h1] at h2
                  simp only [Prod.mk.injEq] at h2
                  have h3 := hG2h.out
                  rw [hGl, ← h2.1, ← h2.2] at h3
                  unfold getI at h3
                  simp only [Prod.mk.injEq] at h3
                  rw [h3.1] at h
                  exact h1 h
              have hEh := hid hE
              have hall := hid (show r'.e = 0 → l = cs ∧ lc = code ∧ y = x from fun h => ⟨hQ.out.2 (hre h), hlc h⟩)
              clear hGl2 hGl hlc hE hre hQ hG2h hcmh
              go_upto_region 23 with fail
              clear e1 e3 e4
              clear i2
              go_wp2_with fail
              refine (rend_any h9.out.rd).mono ?_
              rintro e w10 ⟨rfl, hu0, hr0⟩
              have h10 := hid (h9.out.call hu0 hr0)
              clear hu0 hr0 h9
              obtain ⟨rr, hrr⟩ : ∃ rr, rr = r'.end_ := ⟨_, rfl⟩
              rw [← hrr] at h10
              rw [← hrr]
              have hrrh := hid hrr
              clear hrr
              obtain ⟨z0, z1, z2, p0, p1, p2, fz, fp, hlz, hlp⟩ := h10.out.cells
              have e1 : w10.cell? ⟨g, 1, none⟩ = _ := h10.out.rd.blk.cell 1
              have e3 : w10.cell? ⟨g, 3, none⟩ = _ := h10.out.rd.blk.cell 3
              have e4 : w10.cell? ⟨g, 4, none⟩ = _ := h10.out.rd.blk.cell 4
              simp only [List.getElem?_toArray, List.getElem?_cons_zero, List.getElem?_cons_succ] at e1 e3 e4
              by_cases hee : rr.e = 0
              · have te : (rr.e != 0) = false := by simpa using hee
                obtain ⟨rfl, rfl, rfl⟩ := hall.out (Rr.end_e (by rw [← hrrh.out]; exact hee))
                have hrr0 : r'.end_.e = 0 := by rw [← hrrh.out]; exact hee
                clear hee
                cases y with
                | some b =>
                  have hfin : Hid (getP bs = .inr (54, b)) := hid (by rw [hEh.out, getE_some hrr0])
                  clear hrr0
                  have e2 : wid (some b) = (b : Int) := rfl
                  rw [e2]
                  have t2 : (0 : Int) ≤ (b : Int) := by omega
                  clear e2
                  go_wp2_with fail
                  have hT := h10.out.res (.int .i64 0) (.slice none 0 0) (.slice none 0 0)
                  obtain ⟨hTB, hTb, hT1, hT2⟩ := hT
                  have z0 := hTb.cell 0
                  have z1 := hTb.cell 1
                  have z2 := hTb.cell 2
                  simp only [List.getElem?_toArray, List.getElem?_cons_zero, List.getElem?_cons_succ] at z0 z1 z2
                  refine bodyPost_ret (v := .tuple #[.agg #[.int .i64 0, .slice none 0 0, .slice none 0 0], .int .i64 54, .int .i64 (b : Nat)]) (by simp [results, Try.results24, go_sem, z0, z1, z2]) rfl ⟨hTB, ?_⟩
                  rw [hfin.out]
                | none =>
                  obtain rfl := hcx.out rfl
                  have hE2 := hid (hEh.out.trans (getE_none hrr0))
                  clear hrr0
                  have e2 : wid none = -1 := rfl
                  rw [e2]
                  clear e2
                  have hpin := hid (h10.out.prIn (A1 := A1) (A2 := A2) hsm.out ⟨by have := hckh.out; have := hn32.out; have := hkn.out; omega, by have := hckh2.out; have := hm256.out; have := hkm.out; omega⟩)
                  have hck := hid (rcheck_any ⟨a, l, cm⟩ _ A1 A2 c1 c2 w10 hpin.out)
                  go_upto_region 28 with fail
                  clear e1 e3 e4
                  go_wp2_with fail
                  refine hck.out.mono ?_
                  rintro e w11 ⟨rfl, hb0⟩
                  have h11 := hid (h10.out.below hb0)
                  clear hb0 hck hpin
                  clear z0 z1 z2 p0 p1 p2 fz fp hlz hlp
                  obtain ⟨z0, z1, z2, p0, p1, p2, fz, fp, hlz, hlp⟩ := h11.out.cells
                  have hnn := check_nn ⟨a, l, cm⟩
                  have hE2 := hE2.out
                  generalize (Pr.mk a l cm).check.1 = ck1 at *
                  generalize (Pr.mk a l cm).check.2 = ck2 at *
                  by_cases hck1 : ck1 = 0
                  · have t3 : (ck1 != 0) = false := by simpa using hck1
                    have hfin : Hid (getP bs = .inl ⟨a, l, cm⟩) := hid (by rw [hE2, if_neg (by simpa using hck1)])
                    clear hE2 hck1 hnn
                    go_wp2_with fail
                    have hT := h11.out.res (.int .i64 (a : Nat)) (.slice A1 l.length c1) (.slice A2 cm.length c2)
                    obtain ⟨hTB, hTb, hT1, hT2⟩ := hT
                    have z0 := hTb.cell 0
                    have z1 := hTb.cell 1
                    have z2 := hTb.cell 2
                    simp only [List.getElem?_toArray, List.getElem?_cons_zero, List.getElem?_cons_succ] at z0 z1 z2
                    refine bodyPost_ret (v := .tuple #[.agg #[.int .i64 (a : Nat), .slice A1 l.length c1, .slice A2 cm.length c2], .int .i64 0, .int .i64 0]) (by simp [results, Try.results24, go_sem, z0, z1, z2]) rfl ⟨hTB, ?_⟩
                    rw [hfin.out]
                    exact ⟨A1, A2, c1, c2, rfl, hT1, hT2, hsm.out⟩
                  · have t3 : (ck1 != 0) = true := by simpa using hck1
                    have hfin : Hid (getP bs = .inr (ck1, ck2.toNat)) := hid (by rw [hE2, if_pos hck1])
                    have hnnh := hid hnn
                    clear hE2 hck1 hnn
                    go_wp2_with fail
                    have hT := h11.out.res (.int .i64 0) (.slice none 0 0) (.slice none 0 0)
                    obtain ⟨hTB, hTb, hT1, hT2⟩ := hT
                    have z0 := hTb.cell 0
                    have z1 := hTb.cell 1
                    have z2 := hTb.cell 2
                    simp only [List.getElem?_toArray, List.getElem?_cons_zero, List.getElem?_cons_succ] at z0 z1 z2
                    refine bodyPost_ret (v := .tuple #[.agg #[.int .i64 0, .slice none 0 0, .slice none 0 0], .int .i64 ck1, .int .i64 ck2]) (by simp [results, Try.results24, go_sem, z0, z1, z2]) rfl ⟨hTB, ?_⟩
                    rw [hfin.out]
                    simp only
                    rw [hnnh.out]
              · have te : (rr.e != 0) = true := by simpa using hee
                have hfin : Hid (getP bs = .inr (rr.e, rr.spot)) := hid (by
                  rw [hEh.out, getE_bad (by rw [← hrrh.out]; exact hee), ← hrrh.out])
                have hgB : ¬ g = w.heap.size := by have := h10.out.gb.2.2.1; omega
                have hgB' : ¬ w.heap.size = g := fun h => hgB h.symm
                clear hee
                go_upto_region 25 with fail
                go_region
                all_goals
                  go_wp2_with fail
                  have hT := h10.out.res (.int .i64 0) (.slice none 0 0) (.slice none 0 0)
                  obtain ⟨hTB, hTb, hT1, hT2⟩ := hT
                  have z0 := hTb.cell 0
                  have z1 := hTb.cell 1
                  have z2 := hTb.cell 2
                  simp only [List.getElem?_toArray, List.getElem?_cons_zero, List.getElem?_cons_succ] at z0 z1 z2
                  refine bodyPost_ret (v := .tuple #[.agg #[.int .i64 0, .slice none 0 0, .slice none 0 0], .int .i64 rr.e, .int .i64 (rr.spot : Nat)]) (by simp [results, Try.results24, go_sem, z0, z1, z2]) rfl ⟨hTB.drew, ?_⟩
                  rw [hfin.out]
          · have i2 : ¬ ((k2 : Int) < (m : Int)) := by omega
            have hGl2 : Hid (∃ lc y, G2 = (r', lc, y) ∧ (r'.e = 0 → lc = code ∧ y = x)) := hid (by
              have hkm : k2 = m := by omega
              rcases hJ20 with ⟨h0, hJ⟩ | ⟨h0, lc, y, hJ⟩
              · refine ⟨code, x, ?_, fun _ => ⟨rfl, rfl⟩⟩
                rw [hkm, Nat.sub_self] at hJ
                exact hJ.symm
              · exact ⟨lc, y, hJ, fun h => absurd h h0⟩)
            have hkm : Hid (k2 ≤ m) := hid hk2
            clear hk2 hlt hck2 hJ20
            obtain ⟨lc, y, hGl, hlc⟩ := hGl2.out
            have hE : getP bs = getE a l (r', lc, y) := by
              rw [hQ.out.1, getQ_eq, hcmh.out]
              simp only
              rw [← hG2h.out, hGl]
            have hre : r'.e = 0 → r.e = 0 := fun h => by
              by_cases h1 : r.e = 0
              · exact h1
              · exfalso
                have h2 := hcmh.out
                rw [Rr.count_e h1] at h2
                simp only [Prod.mk.injEq] at h2
                have h3 := hG2h.out
                rw [hGl, ← h2.1, ← h2.2] at h3
                unfold getI at h3
                simp only [Prod.mk.injEq] at h3
                rw [h3.1] at h
                exact h1 h
            have hEh := hid hE
            have hall := hid (show r'.e = 0 → l = cs ∧ lc = code ∧ y = x from fun h => ⟨hQ.out.2 (hre h), hlc h⟩)
            clear hGl2 hGl hlc hE hre hQ hG2h hcmh
            go_upto_region 23 with fail
            clear e1 e3 e4
            clear i2
            go_wp2_with fail
            refine (rend_any h9.out.rd).mono ?_
            rintro e w10 ⟨rfl, hu0, hr0⟩
            have h10 := hid (h9.out.call hu0 hr0)
            clear hu0 hr0 h9
            obtain ⟨rr, hrr⟩ : ∃ rr, rr = r'.end_ := ⟨_, rfl⟩
            rw [← hrr] at h10
            rw [← hrr]
            have hrrh := hid hrr
            clear hrr
            obtain ⟨z0, z1, z2, p0, p1, p2, fz, fp, hlz, hlp⟩ := h10.out.cells
            have e1 : w10.cell? ⟨g, 1, none⟩ = _ := h10.out.rd.blk.cell 1
            have e3 : w10.cell? ⟨g, 3, none⟩ = _ := h10.out.rd.blk.cell 3
            have e4 : w10.cell? ⟨g, 4, none⟩ = _ := h10.out.rd.blk.cell 4
            simp only [List.getElem?_toArray, List.getElem?_cons_zero, List.getElem?_cons_succ] at e1 e3 e4
            by_cases hee : rr.e = 0
            · have te : (rr.e != 0) = false := by simpa using hee
              obtain ⟨rfl, rfl, rfl⟩ := hall.out (Rr.end_e (by rw [← hrrh.out]; exact hee))
              have hrr0 : r'.end_.e = 0 := by rw [← hrrh.out]; exact hee
              clear hee
              cases y with
              | some b =>
                have hfin : Hid (getP bs = .inr (54, b)) := hid (by rw [hEh.out, getE_some hrr0])
                clear hrr0
                have e2 : wid (some b) = (b : Int) := rfl
                rw [e2]
                have t2 : (0 : Int) ≤ (b : Int) := by omega
                clear e2
                go_wp2_with fail
                have hT := h10.out.res (.int .i64 0) (.slice none 0 0) (.slice none 0 0)
                obtain ⟨hTB, hTb, hT1, hT2⟩ := hT
                have z0 := hTb.cell 0
                have z1 := hTb.cell 1
                have z2 := hTb.cell 2
                simp only [List.getElem?_toArray, List.getElem?_cons_zero, List.getElem?_cons_succ] at z0 z1 z2
                refine bodyPost_ret (v := .tuple #[.agg #[.int .i64 0, .slice none 0 0, .slice none 0 0], .int .i64 54, .int .i64 (b : Nat)]) (by simp [results, Try.results24, go_sem, z0, z1, z2]) rfl ⟨hTB, ?_⟩
                rw [hfin.out]
              | none =>
                obtain rfl := hcx.out rfl
                have hE2 := hid (hEh.out.trans (getE_none hrr0))
                clear hrr0
                have e2 : wid none = -1 := rfl
                rw [e2]
                clear e2
                have hpin := hid (h10.out.prIn (A1 := A1) (A2 := A2) hsm.out ⟨by have := hckh.out; have := hn32.out; have := hkn.out; omega, by have := hckh2.out; have := hm256.out; have := hkm.out; omega⟩)
                have hck := hid (rcheck_any ⟨a, l, cm⟩ _ A1 A2 c1 c2 w10 hpin.out)
                go_upto_region 28 with fail
                clear e1 e3 e4
                go_wp2_with fail
                refine hck.out.mono ?_
                rintro e w11 ⟨rfl, hb0⟩
                have h11 := hid (h10.out.below hb0)
                clear hb0 hck hpin
                clear z0 z1 z2 p0 p1 p2 fz fp hlz hlp
                obtain ⟨z0, z1, z2, p0, p1, p2, fz, fp, hlz, hlp⟩ := h11.out.cells
                have hnn := check_nn ⟨a, l, cm⟩
                have hE2 := hE2.out
                generalize (Pr.mk a l cm).check.1 = ck1 at *
                generalize (Pr.mk a l cm).check.2 = ck2 at *
                by_cases hck1 : ck1 = 0
                · have t3 : (ck1 != 0) = false := by simpa using hck1
                  have hfin : Hid (getP bs = .inl ⟨a, l, cm⟩) := hid (by rw [hE2, if_neg (by simpa using hck1)])
                  clear hE2 hck1 hnn
                  go_wp2_with fail
                  have hT := h11.out.res (.int .i64 (a : Nat)) (.slice A1 l.length c1) (.slice A2 cm.length c2)
                  obtain ⟨hTB, hTb, hT1, hT2⟩ := hT
                  have z0 := hTb.cell 0
                  have z1 := hTb.cell 1
                  have z2 := hTb.cell 2
                  simp only [List.getElem?_toArray, List.getElem?_cons_zero, List.getElem?_cons_succ] at z0 z1 z2
                  refine bodyPost_ret (v := .tuple #[.agg #[.int .i64 (a : Nat), .slice A1 l.length c1, .slice A2 cm.length c2], .int .i64 0, .int .i64 0]) (by simp [results, Try.results24, go_sem, z0, z1, z2]) rfl ⟨hTB, ?_⟩
                  rw [hfin.out]
                  exact ⟨A1, A2, c1, c2, rfl, hT1, hT2, hsm.out⟩
                · have t3 : (ck1 != 0) = true := by simpa using hck1
                  have hfin : Hid (getP bs = .inr (ck1, ck2.toNat)) := hid (by rw [hE2, if_pos hck1])
                  have hnnh := hid hnn
                  clear hE2 hck1 hnn
                  go_wp2_with fail
                  have hT := h11.out.res (.int .i64 0) (.slice none 0 0) (.slice none 0 0)
                  obtain ⟨hTB, hTb, hT1, hT2⟩ := hT
                  have z0 := hTb.cell 0
                  have z1 := hTb.cell 1
                  have z2 := hTb.cell 2
                  simp only [List.getElem?_toArray, List.getElem?_cons_zero, List.getElem?_cons_succ] at z0 z1 z2
                  refine bodyPost_ret (v := .tuple #[.agg #[.int .i64 0, .slice none 0 0, .slice none 0 0], .int .i64 ck1, .int .i64 ck2]) (by simp [results, Try.results24, go_sem, z0, z1, z2]) rfl ⟨hTB, ?_⟩
                  rw [hfin.out]
                  simp only
                  rw [hnnh.out]
            · have te : (rr.e != 0) = true := by simpa using hee
              have hfin : Hid (getP bs = .inr (rr.e, rr.spot)) := hid (by
                rw [hEh.out, getE_bad (by rw [← hrrh.out]; exact hee), ← hrrh.out])
              have hgB : ¬ g = w.heap.size := by have := h10.out.gb.2.2.1; omega
              have hgB' : ¬ w.heap.size = g := fun h => hgB h.symm
              clear hee
              go_upto_region 25 with fail
              go_region
              all_goals
                go_wp2_with fail
                have hT := h10.out.res (.int .i64 0) (.slice none 0 0) (.slice none 0 0)
                obtain ⟨hTB, hTb, hT1, hT2⟩ := hT
                have z0 := hTb.cell 0
                have z1 := hTb.cell 1
                have z2 := hTb.cell 2
                simp only [List.getElem?_toArray, List.getElem?_cons_zero, List.getElem?_cons_succ] at z0 z1 z2
                refine bodyPost_ret (v := .tuple #[.agg #[.int .i64 0, .slice none 0 0, .slice none 0 0], .int .i64 rr.e, .int .i64 (rr.spot : Nat)]) (by simp [results, Try.results24, go_sem, z0, z1, z2]) rfl ⟨hTB.drew, ?_⟩
                rw [hfin.out]
    · have i1 : ¬ ((k : Int) < (n : Int)) := by omega
      have hGl : Hid (∃ l, G = .inl (r, l) ∧ (r.e = 0 → l = cs)) := hid (by
        have hkn : k = n := by omega
        rcases hJ0 with ⟨h0, hJ⟩ | ⟨h0, l, hJ⟩
        · refine ⟨cs, ?_, fun _ => rfl⟩
          rw [hkn, Nat.sub_self] at hJ
          exact hJ.symm
        · exact ⟨l, hJ, fun h => absurd h h0⟩)
      have hkn : Hid (k ≤ n) := hid hk
      clear hk hlt hck hJ0
      obtain ⟨l, hGl⟩ := hGl.out
      have hQ : Hid (getP bs = getQ a r l ∧ (r.e = 0 → l = cs)) := hid ⟨by rw [hGP.out, hGl.1]; rfl, hGl.2⟩
      clear hGl hGP hGh
      obtain ⟨m, rm, hcm⟩ : ∃ m rm, r.count 256 = (m, rm) := ⟨_, _, rfl⟩
      have hm256 : Hid (m ≤ 256) := hid (by have := r.count_le 256; rw [show ((256 : Nat) : Int) = 256 from rfl, hcm] at this; exact this)
      have hrmb : Hid (rm.b = bs) := hid (by have := r.count_b 256; rw [hcm] at this; exact this.trans hrb.out)
      have hcmh := hid hcm
      obtain ⟨G2, hG2⟩ : ∃ G2, G2 = getI m rm [] none := ⟨_, rfl⟩
      have hG2h := hid hG2
      clear hG2
      go_upto_region 12 with fail
      clear e1 e3 e4
      clear i1
      go_wp2_with fail
      refine (rcount_any h7.out.rd 256 (by decide)).mono ?_
      rw [hcm]
      rintro e w8 ⟨rfl, hu0, hr0⟩
      have h8 := hid (h7.out.call hu0 hr0)
      clear hu0 hr0 h7 hcm
      go_wp2_with fail
      go_loopw [11, 12] (fun xv v wr => ∃ (k : Nat) (A2 : Option Addr) (c2 : Nat) (code cm : List Is) (x : Option Nat) (r : Rr), xv = .int .i64 (wid x) ∧ v = .int .i64 k ∧ k ≤ m ∧ GM 81 S w wr N g A c r bp (a : Nat) (.slice A1 cs.length c1) (.slice A2 cm.length c2) cs cm ∧ cm.length = k ∧ (x = none → cm = code) ∧ r.b = bs ∧ ((r.e = 0 ∧ getI (m - k) r code x = G2) ∨ (r.e ≠ 0 ∧ ∃ l y, G2 = (r, l, y)))) (fun _ v _ => m - (intOf v).toNat)
      case atStart => exact ⟨0, none, 0, [], [], none, rm, rfl, rfl, Nat.zero_le _, h8.out, rfl, fun _ => rfl, hrmb.out, by
        by_cases he : rm.e = 0
        · exact .inl ⟨he, hG2h.out.symm⟩
        · exact .inr ⟨he, [], none, by rw [hG2h.out, getI_bad he]⟩⟩
      case round =>
        clear h8
        obtain ⟨k2, A2, c2, code, cm, x, r', rfl, rfl, hk2, h90, hck2, hcmm, hrb2, hJ20⟩ := hrel
        have h9 := hid h90; have hrb' := hid hrb2; have hckh2 := hid hck2; have hcx := hid hcmm
        have e1 : wr.cell? ⟨g, 1, none⟩ = _ := h90.rd.blk.cell 1
        have e3 : wr.cell? ⟨g, 3, none⟩ = _ := h90.rd.blk.cell 3
        have e4 : wr.cell? ⟨g, 4, none⟩ = _ := h90.rd.blk.cell 4
        simp only [List.getElem?_toArray, List.getElem?_cons_zero, List.getElem?_cons_succ] at e1 e3 e4
        clear h90 hrb2 hcmm
        by_cases hlt : k2 < m
        · have i2 : (k2 : Int) < (m : Int) := by omega
          by_cases he : r'.e = 0
          · have t0' : (r'.e == 0) = true := by simpa using he
            have hkm := hid hlt
            have hk21 := hid (show k2 + 1 ≤ 256 by have := hm256.out; omega)
            have hJ2 : Hid (getI (m - k2) r' code x = G2) := hid (by
              rcases hJ20 with ⟨_, h⟩ | ⟨h, _⟩
              · exact h
              · exact absurd he h)
            have he0' := hid he
            clear hk2 hlt hck2 he hJ20
            obtain ⟨q, r1, hq⟩ : ∃ q r1, r'.byte = (q, r1) := ⟨_, _, rfl⟩
            obtain ⟨u, r3, hu⟩ : ∃ u r3, r1.uint = (u, r3) := ⟨_, _, rfl⟩
            have hq8 : q < 256 := by have := Rr.byte_lt (r := r') (by rw [hrb'.out]; exact hbb.out); rw [hq] at this; exact this
            have hu64 : u < 18446744073709551616 := by have := r1.uint_lt; rw [hu] at this; exact this
            have hr1b : r1.b = bs := by have := r'.byte_b; rw [hq] at this; exact this.trans hrb'.out
            have hr3b : Hid (r3.b = bs) := hid (by have := r1.uint_b; rw [hu] at this; exact this.trans hr1b)
            obtain ⟨mn, hmn⟩ : ∃ mn, mn = min u 255 := ⟨_, rfl⟩
            obtain ⟨mv, hmv⟩ : ∃ mv, mv = u % 256 := ⟨_, rfl⟩
            have fq : IntKind.i64.wrap (q : Int) = (q : Int) := by rw [IntKind.wrap_i64]; omega
            have fmv : IntKind.i64.wrap (mv : Int) = (mv : Int) := by rw [IntKind.wrap_i64]; omega
            have fand : bits BinOp.and IntKind.u64 (u : Int) 255 = (mv : Int) := by rw [hmv]; exact and_255 u hu64
            obtain ⟨x', hx'⟩ : ∃ x', x' = if 255 < u ∧ x = none then some r1.at_ else x := ⟨_, rfl⟩
            have hcx2 : Hid (x' = none → cm ++ [(⟨q, (mv : Nat)⟩ : Is)] = code ++ [⟨q, (mn : Nat)⟩]) := hid (fun h => by
              rw [hx'] at h
              by_cases hc : 255 < u ∧ x = none
              · rw [if_pos hc] at h; cases h
              · rw [if_neg hc] at h
                have hu5 : u ≤ 255 := by
                  by_cases h5 : u ≤ 255
                  · exact h5
                  · exact absurd ⟨by omega, h⟩ hc
                rw [hcx.out h, show mv = mn by omega])
            have hJ3 : Hid ((r3.e = 0 ∧ getI (m - (k2 + 1)) r3 (code ++ [⟨q, (mn : Nat)⟩]) x' = G2) ∨ (r3.e ≠ 0 ∧ ∃ l y, G2 = (r3, l, y))) := hid (by
              have hJ := hJ2.out
              rw [getI_step hkm.out he0'.out, hq] at hJ
              simp only at hJ
              rw [hu] at hJ
              simp only at hJ
              rw [← hx', ← hmn] at hJ
              by_cases h1 : r3.e = 0
              · exact .inl ⟨h1, hJ⟩
              · exact .inr ⟨h1, _, _, by rw [← hJ, getI_bad h1]⟩)
            have hqh := hid hq; have huh := hid hu
            have hlen2 : Hid ((cm ++ [(⟨q, (mv : Nat)⟩ : Is)]).length = k2 + 1) := hid (by have := hckh2.out; simp; omega)
            clear hJ2 hq hu hu64 hq8 hr1b hmn hmv
            go_upto_region 17 with fail
            clear e1 e3 e4
            clear i2 t0'
            go_wp2_with fail
            refine (rbyte_any h9.out.rd).mono ?_
            rw [hqh.out]
            rintro e w10 ⟨rfl, hu0, hr0⟩
            have h10 := hid (h9.out.call hu0 hr0)
            clear hu0 hr0 h9
            have e1 : w10.cell? ⟨g, 1, none⟩ = _ := h10.out.rd.blk.cell 1
            have e3 : w10.cell? ⟨g, 3, none⟩ = _ := h10.out.rd.blk.cell 3
            have e4 : w10.cell? ⟨g, 4, none⟩ = _ := h10.out.rd.blk.cell 4
            simp only [List.getElem?_toArray, List.getElem?_cons_zero, List.getElem?_cons_succ] at e1 e3 e4
            go_upto_region 19 with fail
            clear e1 e3 e4
            go_wp2_with fail
            refine (ruint_any h10.out.rd).mono ?_
            rw [huh.out]
            rintro e w12 ⟨rfl, hu0, hr0⟩
            have h12 := hid (h10.out.call hu0 hr0)
            clear hu0 hr0 h10
            by_cases hbig : 255 < u
            · have t1 : (255 : Int) < (u : Int) := by omega
              cases x with
              | none =>
                have hxx : Hid (x' = some r1.at_) := hid (by rw [hx', if_pos ⟨hbig, rfl⟩])
                have e2 : wid none = -1 := rfl
                rw [e2]
                clear hbig hx' e2
                go_upto_region 22 with fail
                clear t1
                have hrow := hid h12.out.o2
                have hszN := hid h12.out.sz
                have hws := hid (wrap_succ (k := k2) hk21.out)
                obtain ⟨z0, z1, z2, p0, p1, p2, fz, fp, hlz, hlp⟩ := h12.out.cells
                go_wp2_with (
                  at_builtin
                  refine wpList_append_rd _ rfl (.tmp 92) (.tmp 98) 27 rfl N 49 ii _ 2 16 Try.underlying27 hi0 hi1 hi2 hi3 rfl (by omega) (.slice A2 cm.length c2) cm.length (icells cm) rfl (own_below hrow.out ((Below.refl _ _).alloc (Nat.le_refl _) _)) (fun b => b = w12.heap.size) (some ⟨w12.heap.size, 0, none⟩) 1 1 (Is.cells ⟨q, (mv : Nat)⟩) rfl (Rd.new _ _ 2 1 #[.int .i64 (q : Nat), .int .i64 (mv : Nat)] _ rfl rfl) (by intro u hu; unfold Is.cells at hu; simp at hu; rcases hu with rfl | rfl <;> rfl) (by have := hckh2.out; have := hk21.out; simp only [maxLen]; omega) (by have := hckh2.out; have := hk21.out; omega) (by have := hszN.out; simp; omega) ?_
                  intro v9 w13 hown9 hg9 hat9
                  obtain ⟨A9, c9, rfl, _⟩ := own_form hown9
                  have h13 := hid (GM.addI (i := ⟨q, (mv : Nat)⟩) (h12.out.below (W' := w12.alloc (.cells #[.int .i64 (q : Nat), .int .i64 (mv : Nat)] 49)) ((Below.refl _ _).alloc (Nat.le_refl _) _)) hg9 hown9)
                  have p1' : w13.cell? ⟨bp, 2, none⟩ = some (.slice A2 cm.length c2) := (GM.grown (h12.out.below (W' := w12.alloc (.cells #[.int .i64 (q : Nat), .int .i64 (mv : Nat)] 49)) ((Below.refl _ _).alloc (Nat.le_refl _) _)) hg9 fun k hk => (hrow.out.lt k hk).1).2.2.1.cell 2
                  have fp' : ∀ qq, w13.frozen? ⟨bp, qq, none⟩ = false := fun qq => (GM.grown (h12.out.below (W' := w12.alloc (.cells #[.int .i64 (q : Nat), .int .i64 (mv : Nat)] 49)) ((Below.refl _ _).alloc (Nat.le_refl _) _)) hg9 fun k hk => (hrow.out.lt k hk).1).2.2.1.frozen qq
                  have hl' : bp < w13.heap.size := (GM.grown (h12.out.below (W' := w12.alloc (.cells #[.int .i64 (q : Nat), .int .i64 (mv : Nat)] 49)) ((Below.refl _ _).alloc (Nat.le_refl _) _)) hg9 fun k hk => (hrow.out.lt k hk).1).2.2.1.lt
                  clear hown9 hg9 hat9 z0 z1 z2 p0 p1 p2 fz fp hlz hlp)
                go_roundw
                case rel => exact ⟨k2 + 1, A9, c9, code ++ [⟨q, (mn : Nat)⟩], cm ++ [⟨q, (mv : Nat)⟩], x', r3, by first | (rw [hxx.out]; done) | (rw [hxx.out]; rfl), by rw [hws.out], hkm.out, (by rw [show (cm ++ [(⟨q, (mv : Nat)⟩ : Is)]).length = cm.length + 1 by simp]; exact h13.out), hlen2.out, hcx2.out, hr3b.out, hJ3.out⟩
                case measure =>
                  rw [hws.out]
                  have h2 := hkm.out
                  show m - (((k2 + 1 : Nat) : Int)).toNat < m - ((k2 : Nat) : Int).toNat
                  rw [Int.toNat_natCast, Int.toNat_natCast]
                  omega
              | some b =>
                have hxx : Hid (x' = some b) := hid (by rw [hx', if_neg (by simp)])
                have e2 : wid (some b) = (b : Int) := rfl
                rw [e2]
                have t2 : ¬ ((b : Int) < 0) := by omega
                clear hbig hx' e2
                go_upto_region 22 with fail
                clear t1 t2
                have hrow := hid h12.out.o2
                have hszN := hid h12.out.sz
                have hws := hid (wrap_succ (k := k2) hk21.out)
                obtain ⟨z0, z1, z2, p0, p1, p2, fz, fp, hlz, hlp⟩ := h12.out.cells
                go_wp2_with (
                  at_builtin
                  refine wpList_append_rd _ rfl (.tmp 92) (.tmp 98) 27 rfl N 49 ii _ 2 16 Try.underlying27 hi0 hi1 hi2 hi3 rfl (by omega) (.slice A2 cm.length c2) cm.length (icells cm) rfl (own_below hrow.out ((Below.refl _ _).alloc (Nat.le_refl _) _)) (fun b => b = w12.heap.size) (some ⟨w12.heap.size, 0, none⟩) 1 1 (Is.cells ⟨q, (mv : Nat)⟩) rfl (Rd.new _ _ 2 1 #[.int .i64 (q : Nat), .int .i64 (mv : Nat)] _ rfl rfl) (by intro u hu; unfold Is.cells at hu; simp at hu; rcases hu with rfl | rfl <;> rfl) (by have := hckh2.out; have := hk21.out; simp only [maxLen]; omega) (by have := hckh2.out; have := hk21.out; omega) (by have := hszN.out; simp; omega) ?_
                  intro v9 w13 hown9 hg9 hat9
                  obtain ⟨A9, c9, rfl, _⟩ := own_form hown9
                  have h13 := hid (GM.addI (i := ⟨q, (mv : Nat)⟩) (h12.out.below (W' := w12.alloc (.cells #[.int .i64 (q : Nat), .int .i64 (mv : Nat)] 49)) ((Below.refl _ _).alloc (Nat.le_refl _) _)) hg9 hown9)
                  have p1' : w13.cell? ⟨bp, 2, none⟩ = some (.slice A2 cm.length c2) := (GM.grown (h12.out.below (W' := w12.alloc (.cells #[.int .i64 (q : Nat), .int .i64 (mv : Nat)] 49)) ((Below.refl _ _).alloc (Nat.le_refl _) _)) hg9 fun k hk => (hrow.out.lt k hk).1).2.2.1.cell 2
                  have fp' : ∀ qq, w13.frozen? ⟨bp, qq, none⟩ = false := fun qq => (GM.grown (h12.out.below (W' := w12.alloc (.cells #[.int .i64 (q : Nat), .int .i64 (mv : Nat)] 49)) ((Below.refl _ _).alloc (Nat.le_refl _) _)) hg9 fun k hk => (hrow.out.lt k hk).1).2.2.1.frozen qq
                  have hl' : bp < w13.heap.size := (GM.grown (h12.out.below (W' := w12.alloc (.cells #[.int .i64 (q : Nat), .int .i64 (mv : Nat)] 49)) ((Below.refl _ _).alloc (Nat.le_refl _) _)) hg9 fun k hk => (hrow.out.lt k hk).1).2.2.1.lt
                  clear hown9 hg9 hat9 z0 z1 z2 p0 p1 p2 fz fp hlz hlp)
                go_roundw
                case rel => exact ⟨k2 + 1, A9, c9, code ++ [⟨q, (mn : Nat)⟩], cm ++ [⟨q, (mv : Nat)⟩], x', r3, by first | (rw [hxx.out]; done) | (rw [hxx.out]; rfl), by rw [hws.out], hkm.out, (by rw [show (cm ++ [(⟨q, (mv : Nat)⟩ : Is)]).length = cm.length + 1 by simp]; exact h13.out), hlen2.out, hcx2.out, hr3b.out, hJ3.out⟩
                case measure =>
                  rw [hws.out]
                  have h2 := hkm.out
                  show m - (((k2 + 1 : Nat) : Int)).toNat < m - ((k2 : Nat) : Int).toNat
                  rw [Int.toNat_natCast, Int.toNat_natCast]
                  omega
            · have t1 : ¬ ((255 : Int) < (u : Int)) := by omega
              have hxx : Hid (x' = x) := hid (by rw [hx', if_neg (by rintro ⟨h, _⟩; exact hbig h)])
              clear hbig hx'
              go_upto_region 22 with fail
              clear t1
              have hrow := hid h12.out.o2
              have hszN := hid h12.out.sz
              have hws := hid (wrap_succ (k := k2) hk21.out)
              obtain ⟨z0, z1, z2, p0, p1, p2, fz, fp, hlz, hlp⟩ := h12.out.cells
              go_wp2_with (
                at_builtin
                refine wpList_append_rd _ rfl (.tmp 92) (.tmp 98) 27 rfl N 49 ii _ 2 16 Try.underlying27 hi0 hi1 hi2 hi3 rfl (by omega) (.slice A2 cm.length c2) cm.length (icells cm) rfl (own_below hrow.out ((Below.refl _ _).alloc (Nat.le_refl _) _)) (fun b => b = w12.heap.size) (some ⟨w12.heap.size, 0, none⟩) 1 1 (Is.cells ⟨q, (mv : Nat)⟩) rfl (Rd.new _ _ 2 1 #[.int .i64 (q : Nat), .int .i64 (mv : Nat)] _ rfl rfl) (by intro u hu; unfold Is.cells at hu; simp at hu; rcases hu with rfl | rfl <;> rfl) (by have := hckh2.out; have := hk21.out; simp only [maxLen]; omega) (by have := hckh2.out; have := hk21.out; omega) (by have := hszN.out; simp; omega) ?_
                intro v9 w13 hown9 hg9 hat9
                obtain ⟨A9, c9, rfl, _⟩ := own_form hown9
                have h13 := hid (GM.addI (i := ⟨q, (mv : Nat)⟩) (h12.out.below (W' := w12.alloc (.cells #[.int .i64 (q : Nat), .int .i64 (mv : Nat)] 49)) ((Below.refl _ _).alloc (Nat.le_refl _) _)) hg9 hown9)
                have p1' : w13.cell? ⟨bp, 2, none⟩ = some (.slice A2 cm.length c2) := (GM.grown (h12.out.below (W' := w12.alloc (.cells #[.int .i64 (q : Nat), .int .i64 (mv : Nat)] 49)) ((Below.refl _ _).alloc (Nat.le_refl _) _)) hg9 fun k hk => (hrow.out.lt k hk).1).2.2.1.cell 2
                have fp' : ∀ qq, w13.frozen? ⟨bp, qq, none⟩ = false := fun qq => (GM.grown (h12.out.below (W' := w12.alloc (.cells #[.int .i64 (q : Nat), .int .i64 (mv : Nat)] 49)) ((Below.refl _ _).alloc (Nat.le_refl _) _)) hg9 fun k hk => (hrow.out.lt k hk).1).2.2.1.frozen qq
                have hl' : bp < w13.heap.size := (GM.grown (h12.out.below (W' := w12.alloc (.cells #[.int .i64 (q : Nat), .int .i64 (mv : Nat)] 49)) ((Below.refl _ _).alloc (Nat.le_refl _) _)) hg9 fun k hk => (hrow.out.lt k hk).1).2.2.1.lt
                clear hown9 hg9 hat9 z0 z1 z2 p0 p1 p2 fz fp hlz hlp)
              go_roundw
              case rel => exact ⟨k2 + 1, A9, c9, code ++ [⟨q, (mn : Nat)⟩], cm ++ [⟨q, (mv : Nat)⟩], x', r3, by first | (rw [hxx.out]; done) | (rw [hxx.out]; rfl), by rw [hws.out], hkm.out, (by rw [show (cm ++ [(⟨q, (mv : Nat)⟩ : Is)]).length = cm.length + 1 by simp]; exact h13.out), hlen2.out, hcx2.out, hr3b.out, hJ3.out⟩
              case measure =>
                rw [hws.out]
                have h2 := hkm.out
                show m - (((k2 + 1 : Nat) : Int)).toNat < m - ((k2 : Nat) : Int).toNat
                rw [Int.toNat_natCast, Int.toNat_natCast]
                omega
          · have t0' : (r'.e == 0) = false := by simpa using he
            have hGl2 : Hid (∃ lc y, G2 = (r', lc, y) ∧ (r'.e = 0 → lc = code ∧ y = x)) := hid (by
              rcases hJ20 with ⟨h0, hJ⟩ | ⟨h0, lc, y, hJ⟩
              · exact absurd h0 he
              · exact ⟨lc, y, hJ, fun h => absurd h h0⟩)
            have hkm : Hid (k2 ≤ m) := hid hk2
            clear hk2 hlt hck2 he hJ20
            obtain ⟨lc, y, hGl, hlc⟩ := hGl2.out
            have hE : getP bs = getE a l (r', lc, y) := by
              rw [hQ.out.1, getQ_eq, hcmh.out]
              simp only
              rw [← hG2h.out, hGl]
            have hre : r'.e = 0 → r.e = 0 := fun h => by
              by_cases h1 : r.e = 0
              · exact h1
              · exfalso
                have h2 := hcmh.out
                rw [Rr.count_e h1] at h2
                simp only [Prod.mk.injEq] at h2
                have h3 := hG2h.out
                rw [hGl, ← h2.1, ← h2.2] at h3
                unfold getI at h3
                simp only [Prod.mk.injEq] at h3
                rw [h3.1] at h
                exact h1 h
            have hEh := hid hE
            have hall := hid (show r'.e = 0 → l = cs ∧ lc = code ∧ y = x from fun h => ⟨hQ.out.2 (hre h), hlc h⟩)
            clear hGl2 hGl hlc hE hre hQ hG2h hcmh
            go_upto_region 23 with fail
            clear e1 e3 e4
            clear i2
            go_wp2_with fail
            refine (rend_any h9.out.rd).mono ?_
            rintro e w10 ⟨rfl, hu0, hr0⟩
            have h10 := hid (h9.out.call hu0 hr0)
            clear hu0 hr0 h9
            obtain ⟨rr, hrr⟩ : ∃ rr, rr = r'.end_ := ⟨_, rfl⟩
            rw [← hrr] at h10
            rw [← hrr]
            have hrrh := hid hrr
            clear hrr
            obtain ⟨z0, z1, z2, p0, p1, p2, fz, fp, hlz, hlp⟩ := h10.out.cells
            have e1 : w10.cell? ⟨g, 1, none⟩ = _ := h10.out.rd.blk.cell 1
            have e3 : w10.cell? ⟨g, 3, none⟩ = _ := h10.out.rd.blk.cell 3
            have e4 : w10.cell? ⟨g, 4, none⟩ = _ := h10.out.rd.blk.cell 4
            simp only [List.getElem?_toArray, List.getElem?_cons_zero, List.getElem?_cons_succ] at e1 e3 e4
            by_cases hee : rr.e = 0
            · have te : (rr.e != 0) = false := by simpa using hee
              obtain ⟨rfl, rfl, rfl⟩ := hall.out (Rr.end_e (by rw [← hrrh.out]; exact hee))
              have hrr0 : r'.end_.e = 0 := by rw [← hrrh.out]; exact hee
              clear hee
              cases y with
              | some b =>
                have hfin : Hid (getP bs = .inr (54, b)) := hid (by rw [hEh.out, getE_some hrr0])
                clear hrr0
                have e2 : wid (some b) = (b : Int) := rfl
                rw [e2]
                have t2 : (0 : Int) ≤ (b : Int) := by omega
                clear e2
                go_wp2_with fail
                have hT := h10.out.res (.int .i64 0) (.slice none 0 0) (.slice none 0 0)
                obtain ⟨hTB, hTb, hT1, hT2⟩ := hT
                have z0 := hTb.cell 0
                have z1 := hTb.cell 1
                have z2 := hTb.cell 2
                simp only [List.getElem?_toArray, List.getElem?_cons_zero, List.getElem?_cons_succ] at z0 z1 z2
                refine bodyPost_ret (v := .tuple #[.agg #[.int .i64 0, .slice none 0 0, .slice none 0 0], .int .i64 54, .int .i64 (b : Nat)]) (by simp [results, Try.results24, go_sem, z0, z1, z2]) rfl ⟨hTB, ?_⟩
                rw [hfin.out]
              | none =>
                obtain rfl := hcx.out rfl
                have hE2 := hid (hEh.out.trans (getE_none hrr0))
                clear hrr0
                have e2 : wid none = -1 := rfl
                rw [e2]
                clear e2
                have hpin := hid (h10.out.prIn (A1 := A1) (A2 := A2) hsm.out ⟨by have := hckh.out; have := hn32.out; have := hkn.out; omega, by have := hckh2.out; have := hm256.out; have := hkm.out; omega⟩)
                have hck := hid (rcheck_any ⟨a, l, cm⟩ _ A1 A2 c1 c2 w10 hpin.out)
                go_upto_region 28 with fail
                clear e1 e3 e4
                go_wp2_with fail
                refine hck.out.mono ?_
                rintro e w11 ⟨rfl, hb0⟩
                have h11 := hid (h10.out.below hb0)
                clear hb0 hck hpin
                clear z0 z1 z2 p0 p1 p2 fz fp hlz hlp
                obtain ⟨z0, z1, z2, p0, p1, p2, fz, fp, hlz, hlp⟩ := h11.out.cells
                have hnn := check_nn ⟨a, l, cm⟩
                have hE2 := hE2.out
                generalize (Pr.mk a l cm).check.1 = ck1 at *
                generalize (Pr.mk a l cm).check.2 = ck2 at *
                by_cases hck1 : ck1 = 0
                · have t3 : (ck1 != 0) = false := by simpa using hck1
                  have hfin : Hid (getP bs = .inl ⟨a, l, cm⟩) := hid (by rw [hE2, if_neg (by simpa using hck1)])
                  clear hE2 hck1 hnn
                  go_wp2_with fail
                  have hT := h11.out.res (.int .i64 (a : Nat)) (.slice A1 l.length c1) (.slice A2 cm.length c2)
                  obtain ⟨hTB, hTb, hT1, hT2⟩ := hT
                  have z0 := hTb.cell 0
                  have z1 := hTb.cell 1
                  have z2 := hTb.cell 2
                  simp only [List.getElem?_toArray, List.getElem?_cons_zero, List.getElem?_cons_succ] at z0 z1 z2
                  refine bodyPost_ret (v := .tuple #[.agg #[.int .i64 (a : Nat), .slice A1 l.length c1, .slice A2 cm.length c2], .int .i64 0, .int .i64 0]) (by simp [results, Try.results24, go_sem, z0, z1, z2]) rfl ⟨hTB, ?_⟩
                  rw [hfin.out]
                  exact ⟨A1, A2, c1, c2, rfl, hT1, hT2, hsm.out⟩
                · have t3 : (ck1 != 0) = true := by simpa using hck1
                  have hfin : Hid (getP bs = .inr (ck1, ck2.toNat)) := hid (by rw [hE2, if_pos hck1])
                  have hnnh := hid hnn
                  clear hE2 hck1 hnn
                  go_wp2_with fail
                  have hT := h11.out.res (.int .i64 0) (.slice none 0 0) (.slice none 0 0)
                  obtain ⟨hTB, hTb, hT1, hT2⟩ := hT
                  have z0 := hTb.cell 0
                  have z1 := hTb.cell 1
                  have z2 := hTb.cell 2
                  simp only [List.getElem?_toArray, List.getElem?_cons_zero, List.getElem?_cons_succ] at z0 z1 z2
                  refine bodyPost_ret (v := .tuple #[.agg #[.int .i64 0, .slice none 0 0, .slice none 0 0], .int .i64 ck1, .int .i64 ck2]) (by simp [results, Try.results24, go_sem, z0, z1, z2]) rfl ⟨hTB, ?_⟩
                  rw [hfin.out]
                  simp only
                  rw [hnnh.out]
            · have te : (rr.e != 0) = true := by simpa using hee
              have hfin : Hid (getP bs = .inr (rr.e, rr.spot)) := hid (by
                rw [hEh.out, getE_bad (by rw [← hrrh.out]; exact hee), ← hrrh.out])
              have hgB : ¬ g = w.heap.size := by have := h10.out.gb.2.2.1; omega
              have hgB' : ¬ w.heap.size = g := fun h => hgB h.symm
              clear hee
              go_upto_region 25 with fail
              go_region
              all_goals
                go_wp2_with fail
                have hT := h10.out.res (.int .i64 0) (.slice none 0 0) (.slice none 0 0)
                obtain ⟨hTB, hTb, hT1, hT2⟩ := hT
                have z0 := hTb.cell 0
                have z1 := hTb.cell 1
                have z2 := hTb.cell 2
                simp only [List.getElem?_toArray, List.getElem?_cons_zero, List.getElem?_cons_succ] at z0 z1 z2
                refine bodyPost_ret (v := .tuple #[.agg #[.int .i64 0, .slice none 0 0, .slice none 0 0], .int .i64 rr.e, .int .i64 (rr.spot : Nat)]) (by simp [results, Try.results24, go_sem, z0, z1, z2]) rfl ⟨hTB.drew, ?_⟩
                rw [hfin.out]
        · have i2 : ¬ ((k2 : Int) < (m : Int)) := by omega
          have hGl2 : Hid (∃ lc y, G2 = (r', lc, y) ∧ (r'.e = 0 → lc = code ∧ y = x)) := hid (by
            have hkm : k2 = m := by omega
            rcases hJ20 with ⟨h0, hJ⟩ | ⟨h0, lc, y, hJ⟩
            · refine ⟨code, x, ?_, fun _ => ⟨rfl, rfl⟩⟩
              rw [hkm, Nat.sub_self] at hJ
              exact hJ.symm
            · exact ⟨lc, y, hJ, fun h => absurd h h0⟩)
          have hkm : Hid (k2 ≤ m) := hid hk2
          clear hk2 hlt hck2 hJ20
          obtain ⟨lc, y, hGl, hlc⟩ := hGl2.out
          have hE : getP bs = getE a l (r', lc, y) := by
            rw [hQ.out.1, getQ_eq, hcmh.out]
            simp only
            rw [← hG2h.out, hGl]
          have hre : r'.e = 0 → r.e = 0 := fun h => by
            by_cases h1 : r.e = 0
            · exact h1
            · exfalso
              have h2 := hcmh.out
              rw [Rr.count_e h1] at h2
              simp only [Prod.mk.injEq] at h2
              have h3 := hG2h.out
              rw [hGl, ← h2.1, ← h2.2] at h3
              unfold getI at h3
              simp only [Prod.mk.injEq] at h3
              rw [h3.1] at h
              exact h1 h
          have hEh := hid hE
          have hall := hid (show r'.e = 0 → l = cs ∧ lc = code ∧ y = x from fun h => ⟨hQ.out.2 (hre h), hlc h⟩)
          clear hGl2 hGl hlc hE hre hQ hG2h hcmh
          go_upto_region 23 with fail
          clear e1 e3 e4
          clear i2
          go_wp2_with fail
          refine (rend_any h9.out.rd).mono ?_
          rintro e w10 ⟨rfl, hu0, hr0⟩
          have h10 := hid (h9.out.call hu0 hr0)
          clear hu0 hr0 h9
          obtain ⟨rr, hrr⟩ : ∃ rr, rr = r'.end_ := ⟨_, rfl⟩
          rw [← hrr] at h10
          rw [← hrr]
          have hrrh := hid hrr
          clear hrr
          obtain ⟨z0, z1, z2, p0, p1, p2, fz, fp, hlz, hlp⟩ := h10.out.cells
          have e1 : w10.cell? ⟨g, 1, none⟩ = _ := h10.out.rd.blk.cell 1
          have e3 : w10.cell? ⟨g, 3, none⟩ = _ := h10.out.rd.blk.cell 3
          have e4 : w10.cell? ⟨g, 4, none⟩ = _ := h10.out.rd.blk.cell 4
          simp only [List.getElem?_toArray, List.getElem?_cons_zero, List.getElem?_cons_succ] at e1 e3 e4
          by_cases hee : rr.e = 0
          · have te : (rr.e != 0) = false := by simpa using hee
            obtain ⟨rfl, rfl, rfl⟩ := hall.out (Rr.end_e (by rw [← hrrh.out]; exact hee))
            have hrr0 : r'.end_.e = 0 := by rw [← hrrh.out]; exact hee
            clear hee
            cases y with
            | some b =>
              have hfin : Hid (getP bs = .inr (54, b)) := hid (by rw [hEh.out, getE_some hrr0])
              clear hrr0
              have e2 : wid (some b) = (b : Int) := rfl
              rw [e2]
              have t2 : (0 : Int) ≤ (b : Int) := by omega
              clear e2
              go_wp2_with fail
              have hT := h10.out.res (.int .i64 0) (.slice none 0 0) (.slice none 0 0)
              obtain ⟨hTB, hTb, hT1, hT2⟩ := hT
              have z0 := hTb.cell 0
              have z1 := hTb.cell 1
              have z2 := hTb.cell 2
              simp only [List.getElem?_toArray, List.getElem?_cons_zero, List.getElem?_cons_succ] at z0 z1 z2
              refine bodyPost_ret (v := .tuple #[.agg #[.int .i64 0, .slice none 0 0, .slice none 0 0], .int .i64 54, .int .i64 (b : Nat)]) (by simp [results, Try.results24, go_sem, z0, z1, z2]) rfl ⟨hTB, ?_⟩
              rw [hfin.out]
            | none =>
              obtain rfl := hcx.out rfl
              have hE2 := hid (hEh.out.trans (getE_none hrr0))
              clear hrr0
              have e2 : wid none = -1 := rfl
              rw [e2]
              clear e2
              have hpin := hid (h10.out.prIn (A1 := A1) (A2 := A2) hsm.out ⟨by have := hckh.out; have := hn32.out; have := hkn.out; omega, by have := hckh2.out; have := hm256.out; have := hkm.out; omega⟩)
              have hck := hid (rcheck_any ⟨a, l, cm⟩ _ A1 A2 c1 c2 w10 hpin.out)
              go_upto_region 28 with fail
              clear e1 e3 e4
              go_wp2_with fail
              refine hck.out.mono ?_
              rintro e w11 ⟨rfl, hb0⟩
              have h11 := hid (h10.out.below hb0)
              clear hb0 hck hpin
              clear z0 z1 z2 p0 p1 p2 fz fp hlz hlp
              obtain ⟨z0, z1, z2, p0, p1, p2, fz, fp, hlz, hlp⟩ := h11.out.cells
              have hnn := check_nn ⟨a, l, cm⟩
              have hE2 := hE2.out
              generalize (Pr.mk a l cm).check.1 = ck1 at *
              generalize (Pr.mk a l cm).check.2 = ck2 at *
              by_cases hck1 : ck1 = 0
              · have t3 : (ck1 != 0) = false := by simpa using hck1
                have hfin : Hid (getP bs = .inl ⟨a, l, cm⟩) := hid (by rw [hE2, if_neg (by simpa using hck1)])
                clear hE2 hck1 hnn
                go_wp2_with fail
                have hT := h11.out.res (.int .i64 (a : Nat)) (.slice A1 l.length c1) (.slice A2 cm.length c2)
                obtain ⟨hTB, hTb, hT1, hT2⟩ := hT
                have z0 := hTb.cell 0
                have z1 := hTb.cell 1
                have z2 := hTb.cell 2
                simp only [List.getElem?_toArray, List.getElem?_cons_zero, List.getElem?_cons_succ] at z0 z1 z2
                refine bodyPost_ret (v := .tuple #[.agg #[.int .i64 (a : Nat), .slice A1 l.length c1, .slice A2 cm.length c2], .int .i64 0, .int .i64 0]) (by simp [results, Try.results24, go_sem, z0, z1, z2]) rfl ⟨hTB, ?_⟩
                rw [hfin.out]
                exact ⟨A1, A2, c1, c2, rfl, hT1, hT2, hsm.out⟩
              · have t3 : (ck1 != 0) = true := by simpa using hck1
                have hfin : Hid (getP bs = .inr (ck1, ck2.toNat)) := hid (by rw [hE2, if_pos hck1])
                have hnnh := hid hnn
                clear hE2 hck1 hnn
                go_wp2_with fail
                have hT := h11.out.res (.int .i64 0) (.slice none 0 0) (.slice none 0 0)
                obtain ⟨hTB, hTb, hT1, hT2⟩ := hT
                have z0 := hTb.cell 0
                have z1 := hTb.cell 1
                have z2 := hTb.cell 2
                simp only [List.getElem?_toArray, List.getElem?_cons_zero, List.getElem?_cons_succ] at z0 z1 z2
                refine bodyPost_ret (v := .tuple #[.agg #[.int .i64 0, .slice none 0 0, .slice none 0 0], .int .i64 ck1, .int .i64 ck2]) (by simp [results, Try.results24, go_sem, z0, z1, z2]) rfl ⟨hTB, ?_⟩
                rw [hfin.out]
                simp only
                rw [hnnh.out]
          · have te : (rr.e != 0) = true := by simpa using hee
            have hfin : Hid (getP bs = .inr (rr.e, rr.spot)) := hid (by
              rw [hEh.out, getE_bad (by rw [← hrrh.out]; exact hee), ← hrrh.out])
            have hgB : ¬ g = w.heap.size := by have := h10.out.gb.2.2.1; omega
            have hgB' : ¬ w.heap.size = g := fun h => hgB h.symm
            clear hee
            go_upto_region 25 with fail
            go_region
            all_goals
              go_wp2_with fail
              have hT := h10.out.res (.int .i64 0) (.slice none 0 0) (.slice none 0 0)
              obtain ⟨hTB, hTb, hT1, hT2⟩ := hT
              have z0 := hTb.cell 0
              have z1 := hTb.cell 1
              have z2 := hTb.cell 2
              simp only [List.getElem?_toArray, List.getElem?_cons_zero, List.getElem?_cons_succ] at z0 z1 z2
              refine bodyPost_ret (v := .tuple #[.agg #[.int .i64 0, .slice none 0 0, .slice none 0 0], .int .i64 rr.e, .int .i64 (rr.spot : Nat)]) (by simp [results, Try.results24, go_sem, z0, z1, z2]) rfl ⟨hTB.drew, ?_⟩
              rw [hfin.out]

end Go.Proofs.Ytbakfkhmopebnaa

namespace Go.Proofs.Ytbakfkhmopebnaa
open Go.RowKit
set_option linter.unusedVariables false
set_option linter.unusedSimpArgs false

set_option maxRecDepth 100000 in
set_option maxHeartbeats 2000000 in
theorem rpput_bad (S S' : Nat → Prop) (A0 A1 A2 : Option Addr) (c0 c1 c2 : Nat) (bs : List Nat) (p : Pr) (w : World) (hp : PrIn S' w A1 A2 p) (hc : p.check.1 ≠ 0) :
    Calls Try.prog 22 #[.slice A0 bs.length c0, .agg #[.int .i64 p.args, .slice A1 p.cs.length c1, .slice A2 p.code.length c2]] w fun e w' => e = .returned (.tuple #[.slice none 0 0, .int .i64 p.check.1]) ∧ Below w.heap.size w w' := by
  have hB0 : Below w.heap.size w (w.alloc (.cells #[.int .i64 p.args, .slice A1 p.cs.length c1, .slice A2 p.code.length c2] 29)) := (Below.refl _ _).alloc (Nat.le_refl _) _
  have kp0 := Blk.new w 29 #[.int .i64 p.args, .slice A1 p.cs.length c1, .slice A2 p.code.length c2]
  have hch := hid (rcheck_any p S' A1 A2 c1 c2 _ (hp.below hB0))
  have hB := hid hB0
  have kp := hid kp0
  have t1 : (p.check.1 == 0) = false := by simpa using hc
  have t2 : (p.check.1 != 0) = true := by simpa using hc
  clear hB0 kp0 hp hc
  go_enter Try.func22, Try.ntmps22
  go_upto_region 1 with fail
  generalize w.alloc (.cells #[.int .i64 p.args, .slice A1 p.cs.length c1, .slice A2 p.code.length c2] 29) = W1 at *
  have p0 := kp.out.cell 0
  have p1 := kp.out.cell 1
  have p2 := kp.out.cell 2
  simp only [List.getElem?_toArray, List.getElem?_cons_zero, List.getElem?_cons_succ] at p0 p1 p2
  go_wp2_with fail
  refine hch.out.mono ?_
  rintro e w2 ⟨rfl, hb0⟩
  have hb := hid (hB.out.trans (hb0.mono hB.out.size))
  clear hb0
  go_wp2_with fail
  go_ret2
  exact ⟨rfl, hb.out⟩
set_option maxRecDepth 100000 in
set_option maxHeartbeats 2000000 in
theorem rpput_any (S S' : Nat → Prop) (A0 A1 A2 : Option Addr) (c0 c1 c2 : Nat) (bs : List Nat) (p : Pr) (w : World) (ha : Rd S w 1 A0 bs.length (bcells bs)) (hp : PrIn S' w A1 A2 p) (hr : ∀ v ∈ p.cs, v.rng) (hl : bs.length ≤ 100000000) (hc : p.check.1 = 0) :
    Calls Try.prog 22 #[.slice A0 bs.length c0, .agg #[.int .i64 p.args, .slice A1 p.cs.length c1, .slice A2 p.code.length c2]] w fun e w' => Below w.heap.size w w' ∧ ∃ A c, e = .returned (.tuple #[.slice A (bs ++ p.put).length c, .int .i64 0]) ∧ w'.ownsRow w.heap.size 5 1 (.slice A (bs ++ p.put).length c) (bs ++ p.put).length (bcells (bs ++ p.put)) := by
  obtain ⟨ib, hb0, hb1, hb2, hb3⟩ := info_parts info_u8
  obtain ⟨ha0, ha8, hcs, hcv, hk0, hk8, hiv⟩ := form_ok (form_of_check hc)
  obtain ⟨a, hae⟩ : ∃ a : Nat, p.args = (a : Int) := ⟨p.args.toNat, by omega⟩
  have hB0 : Below w.heap.size w (w.alloc (.cells #[.int .i64 p.args, .slice A1 p.cs.length c1, .slice A2 p.code.length c2] 29)) := (Below.refl _ _).alloc (Nat.le_refl _) _
  have hz0 : (w.alloc (.cells #[.int .i64 p.args, .slice A1 p.cs.length c1, .slice A2 p.code.length c2] 29)).heap.size = w.heap.size + 1 := by simp
  have kp0 := Blk.new w 29 #[.int .i64 p.args, .slice A1 p.cs.length c1, .slice A2 p.code.length c2]
  have hgw0 : w.heap.size < (w.alloc (.cells #[.int .i64 p.args, .slice A1 p.cs.length c1, .slice A2 p.code.length c2] 29)).heap.size := by simp
  have hp1 := hp.below hB0
  obtain ⟨L1, hL1⟩ : ∃ L, L = bs ++ putU a := ⟨_, rfl⟩
  obtain ⟨L2, hL2⟩ : ∃ L, L = L1 ++ putU p.cs.length := ⟨_, rfl⟩
  obtain ⟨L3, hL3⟩ : ∃ L, L = L2 ++ p.cs.flatMap vput := ⟨_, rfl⟩
  obtain ⟨L4, hL4⟩ : ∃ L, L = L3 ++ putU p.code.length := ⟨_, rfl⟩
  have hl1 : L1.length ≤ bs.length + 10 := by have := (putF_len 9 a).2; rw [hL1, List.length_append]; unfold putU; omega
  have hl2 : L2.length ≤ bs.length + 20 := by have := (putF_len 9 p.cs.length).2; rw [hL2, List.length_append]; unfold putU; omega
  have hch := hid (fun W (h : Below (w.alloc (.cells #[.int .i64 p.args, .slice A1 p.cs.length c1, .slice A2 p.code.length c2] 29)).heap.size (w.alloc (.cells #[.int .i64 p.args, .slice A1 p.cs.length c1, .slice A2 p.code.length c2] 29)) W) => rcheck_any p S' A1 A2 c1 c2 W (hp1.below h))
  have hHP := hid (fun W (h : Below (w.alloc (.cells #[.int .i64 p.args, .slice A1 p.cs.length c1, .slice A2 p.code.length c2] 29)).heap.size (w.alloc (.cells #[.int .i64 p.args, .slice A1 p.cs.length c1, .slice A2 p.code.length c2] 29)) W) => hp1.below h)
  have hra := hid (fun W (h : Below (w.alloc (.cells #[.int .i64 p.args, .slice A1 p.cs.length c1, .slice A2 p.code.length c2] 29)).heap.size (w.alloc (.cells #[.int .i64 p.args, .slice A1 p.cs.length c1, .slice A2 p.code.length c2] 29)) W) => (ha.below_all hB0).below_all h)
  have hfin : Hid (L4 ++ p.code.flatMap iput = bs ++ p.put) := hid (by
    rw [hL4, hL3, hL2, hL1]
    unfold Pr.put
    rw [hae]
    simp)
  have hB := hid hB0; have kp := hid kp0; have hgw := hid hgw0; have hRng := hid hr; have hCv := hid hcv; have hIv := hid hiv
  have hck := hid hc
  have hl1' := hid hl1; have hl2' := hid hl2; have hbl := hid hl; have hL1' := hid hL1; have hL2' := hid hL2; have hL3' := hid hL3; have hL4' := hid hL4
  have f1 : IntKind.u64.wrap (a : Int) = (a : Int) := by rw [IntKind.wrap_u64]; omega
  have f2 : IntKind.u64.wrap (p.cs.length : Int) = (p.cs.length : Int) := by rw [IntKind.wrap_u64]; omega
  have f3 : IntKind.u64.wrap (p.code.length : Int) = (p.code.length : Int) := by rw [IntKind.wrap_u64]; omega
  have hAE := hid hae
  have hcs' := hid hcs; have hk8' := hid hk8; have ha8' : Hid (a ≤ 8) := hid (by omega)
  generalize hLF : bs ++ p.put = LF at *
  clear hLF
  clear hae ha hp hr hl hc ha0 ha8 hcs hcv hk0 hk8 hiv hB0 hz0 kp0 hgw0 hp1 hL1 hL2 hL3 hL4 hl1 hl2
  go_enter Try.func22, Try.ntmps22
  go_upto_region 1 with fail
  generalize w.alloc (.cells #[.int .i64 p.args, .slice A1 p.cs.length c1, .slice A2 p.code.length c2] 29) = W1 at *
  have p0 := kp.out.cell 0
  have p1 := kp.out.cell 1
  have p2 := kp.out.cell 2
  simp only [List.getElem?_toArray, List.getElem?_cons_zero, List.getElem?_cons_succ] at p0 p1 p2
  go_wp2_with fail
  refine (hch.out _ (Below.refl _ _)).mono ?_
  rintro e w2 ⟨rfl, hb20⟩
  have hB2 := hid hb20
  have kp2 := hid (kp.out.below_all hb20)
  have hck := hck.out
  clear hb20 p0 p1 p2 hch
  have HS := hid (fun (W : World) (h : Below W1.heap.size W1 W) => (show W.cell? ⟨w.heap.size, 0, none⟩ = some (.int .i64 p.args) ∧ W.cell? ⟨w.heap.size, 1, none⟩ = some (.slice A1 p.cs.length c1) ∧ W.cell? ⟨w.heap.size, 2, none⟩ = some (.slice A2 p.code.length c2) from ⟨(kp.out.below_all h).cell 0, (kp.out.below_all h).cell 1, (kp.out.below_all h).cell 2⟩))
  rw [hAE.out] at HS
  have hcl := hid (fun W (h : Rd S W 1 A0 bs.length (bcells bs)) => rputUint_any S A0 c0 bs a W h (by have := ha8'.out; omega) (by have := hbl.out; omega))
  rw [← hL1'.out] at hcl
  go_upto_region 4 with fail
  have s0 := HS.out _ hB2.out
  go_region_held3 (fun w' => w'.cell? ⟨w.heap.size, 0, none⟩ = some (.int .i64 (a : Nat)) ∧ w'.cell? ⟨w.heap.size, 1, none⟩ = some (.slice A1 p.cs.length c1) ∧ w'.cell? ⟨w.heap.size, 2, none⟩ = some (.slice A2 p.code.length c2)) (first | exact s0 | exact s1 | exact s2)
    ((first
      | (go_at_call 42
         refine (hcm.out _ (Rd.of_own' hown3.out)).mono ?_
         rintro e w4 ⟨v, rfl, hown40, hb40⟩
         obtain ⟨A4, c4, rfl, _⟩ := own_form hown40
         have hown4 := hid (own_base (base' := W1.heap.size) hB3.out.size hown40)
         have hB4 := hid (hB3.out.trans (hb40.mono hB3.out.size))
         have s2 := HS.out _ hB4.out
         clear hown40 hb40)
      | (go_at_call 42
         refine (hcl.out w2.drew (hra.out _ hB2.out).drew).mono ?_
         rintro e w3 ⟨v, rfl, hown0, hb0⟩
         obtain ⟨A3, c3, rfl, _⟩ := own_form hown0
         have hown3 := hid (own_base (base' := W1.heap.size) hB2.out.size hown0)
         have hB3 := hid (hB2.out.drew.trans (hb0.mono hB2.out.size))
         have s1 := HS.out _ hB3.out
         have hcm0 := fun W (h : Rd (fun b => W1.heap.size ≤ b) W 1 A3 L1.length (bcells L1)) => rputUint_any _ A3 c3 L1 p.cs.length W h (by have := hcs'.out; omega) (by have := hl1'.out; have := hbl.out; omega)
         rw [← hL2'.out] at hcm0
         have hcm := hid hcm0
         clear hown0 hb0 hcm0)))
  all_goals
    have hKP := hid (fun W (h : Below W1.heap.size W1 W) => kp.out.below_all h)
    clear s0 s1 s2 hcl hcm hown3 hB3 kp2 hB2 hra
    have hown4x := hid hown4; have hB4x := hid hB4
    go_upto_region 6 with fail
    go_loopw [8, 9] (fun t v wr => ∃ (k : Nat) (A : Option Addr) (c : Nat) (L : List Nat), v = .int .i64 k ∧ t = .slice A L.length c ∧ k ≤ p.cs.length ∧ L ++ (p.cs.drop k).flatMap vput = L3 ∧ L.length ≤ bs.length + 20 + 100 * k ∧ wr.ownsRow W1.heap.size 5 1 (.slice A L.length c) L.length (bcells L) ∧ Below W1.heap.size W1 wr) (fun t v _ => p.cs.length - (intOf v).toNat)
    case atStart => exact ⟨0, A4, c4, L2, rfl, rfl, Nat.zero_le _, by rw [hL3'.out]; rfl, by have := hl2'.out; omega, hown4.out, hB4.out⟩
    case round =>
      clear hown4x hB4x hown4 hB4
      obtain ⟨k, A, c, L, rfl, rfl, hk, hL0, hLl0, hown0, hBr0⟩ := hrel
      have hown := hid hown0; have hBr := hid hBr0; have hLl := hid hLl0; have hLe := hid hL0
      clear hL0 hLl0 hown0 hBr0
      obtain ⟨s0, s1, s2⟩ := HS.out _ hBr.out
      by_cases hlt : k < p.cs.length
      · have i1 : (k : Int) < (p.cs.length : Int) := by omega
        obtain ⟨b, o, hA, hbw, a0, a1, a2⟩ := (hHP.out _ hBr.out).c.val_at hlt
        have hvs := (hHP.out _ hBr.out).t _ (List.getElem_mem hlt)
        have hvr := hRng.out _ (List.getElem_mem hlt)
        have hk32 : (p.cs.length : Int) ≤ 32 := by have := hcs'.out; omega
        subst hA
        have hnx : Hid ((L ++ vput p.cs[k]) ++ (p.cs.drop (k + 1)).flatMap vput = L3) := hid (by
          rw [← hLe.out, List.drop_eq_getElem_cons hlt, List.flatMap_cons, List.append_assoc])
        generalize p.cs[k] = v at *
        obtain ⟨L5, hL5⟩ : ∃ L5, L5 = L ++ vput v := ⟨_, rfl⟩
        rw [← hL5] at hnx
        have hl5 : Hid (L5.length ≤ bs.length + 20 + 100 * (k + 1)) := hid (by have := hLl.out; have := vput_most v; rw [hL5, List.length_append]; omega)
        have hcl0 := rvput_any _ A c L v wr (Rd.of_own' hown.out) hvs hvr.1 hvr.2 (by have := hLl.out; have := hbl.out; omega)
        rw [← hL5] at hcl0
        have hcl := hid hcl0
        clear hvs hvr hL5 hcl0
        go_wp2_with fail
        refine hcl.out.mono ?_
        rintro e w4 ⟨x, rfl, hown40, hb40⟩
        obtain ⟨A5, c5, rfl, _⟩ := own_form hown40
        have hown5 := hid (own_base (base' := W1.heap.size) hBr.out.size hown40)
        have hB5 := hid (hBr.out.trans (hb40.mono hBr.out.size))
        clear hown40 hb40 hcl a0 a1 a2 s0 s1 s2
        go_wp2_with fail
        go_roundw
        case rel => exact ⟨k + 1, A5, c5, L5, by go_num, rfl, hlt, hnx.out, hl5.out, hown5.out, hB5.out⟩
        case measure => simp [intOf]; omega
      · have hke : k = p.cs.length := by omega
        have hLe3 : L = L3 := by have := hLe.out; rw [hke, List.drop_eq_nil_of_le (Nat.le_refl _)] at this; simpa using this
        have i1 : ¬ ((k : Int) < (p.cs.length : Int)) := by omega
        subst hLe3
        have hl3 : Hid (L.length ≤ bs.length + 4000) := hid (by have := hLl.out; have := hcs'.out; omega)
        have hl4 : Hid (L4.length ≤ bs.length + 4020) := hid (by have := hl3.out; have := (putF_len 9 p.code.length).2; rw [hL4'.out, List.length_append]; unfold putU; omega)
        have hcl0 := rputUint_any _ A c L p.code.length wr (Rd.of_own' hown.out) (by have := hk8'.out; omega) (by have := hl3.out; have := hbl.out; omega)
        rw [← hL4'.out] at hcl0
        have hcl := hid hcl0
        clear hke hk hcl0
        go_wp2_with fail
        refine hcl.out.mono ?_
        rintro e w3 ⟨v, rfl, hown0, hb0⟩
        obtain ⟨A3, c3, rfl, _⟩ := own_form hown0
        have hown3 := hid (own_base (base' := W1.heap.size) hBr.out.size hown0)
        have hB3 := hid (hBr.out.trans (hb0.mono hBr.out.size))
        clear hown0 hb0 s0 s1 s2 hcl
        go_upto_region 11 with fail
        go_loopw [8, 10] (fun t v wx => ∃ (k : Nat) (A : Option Addr) (c : Nat) (L : List Nat), v = .int .i64 k ∧ t = .slice A L.length c ∧ k ≤ p.code.length ∧ L ++ (p.code.drop k).flatMap iput = LF ∧ L.length ≤ bs.length + 4020 + 20 * k ∧ wx.ownsRow W1.heap.size 5 1 (.slice A L.length c) L.length (bcells L) ∧ Below W1.heap.size W1 wx) (fun t v _ => p.code.length - (intOf v).toNat)
        case atStart => exact ⟨0, A3, c3, L4, rfl, rfl, Nat.zero_le _, by rw [← hfin.out]; rfl, by have := hl4.out; omega, hown3.out, hB3.out⟩
        case round =>
          clear hown3 hB3 hown hBr hLl hLe
          obtain ⟨k, A, c, L, rfl, rfl, hk, hL0, hLl0, hown0, hBr0⟩ := hrel
          have hown := hid hown0; have hBr := hid hBr0; have hLl := hid hLl0; have hLe := hid hL0
          clear hL0 hLl0 hown0 hBr0
          obtain ⟨s0, s1, s2⟩ := HS.out _ hBr.out
          by_cases hlt : k < p.code.length
          · have i1 : (k : Int) < (p.code.length : Int) := by omega
            obtain ⟨b, o, hA, hbw, a0, a1⟩ := (hHP.out _ (Below.refl _ _)).i.ins_at hlt
            have hiv := hIv.out _ (List.getElem_mem hlt)
            have hmo := most_le (form_of_check hck) p.code[k].op
            subst hA
            have hnx : Hid ((L ++ iput p.code[k]) ++ (p.code.drop (k + 1)).flatMap iput = LF) := hid (by
              rw [← hLe.out, List.drop_eq_getElem_cons hlt, List.flatMap_cons, List.append_assoc])
            generalize p.code[k] = i at *
            obtain ⟨opv, nv⟩ := i
            simp only at a0 a1 hiv hmo hnx
            have hop := hiv.1
            unfold isOp at hop
            simp only [Bool.and_eq_true, decide_eq_true_eq] at hop
            obtain ⟨q, rfl⟩ : ∃ q : Nat, opv = (q : Int) := ⟨opv.toNat, by omega⟩
            obtain ⟨m, rfl⟩ : ∃ m : Nat, nv = (m : Int) := ⟨nv.toNat, by omega⟩
            have hm256 : Hid (m ≤ 256) := hid (by omega)
            have f5 : IntKind.u8.wrap (q : Int) = (q : Int) := by rw [u8_wrap]; omega
            have f6 : IntKind.u64.wrap (m : Int) = (m : Int) := by rw [IntKind.wrap_u64]; omega
            have hk256 : (p.code.length : Int) ≤ 256 := by have := hk8'.out; omega
            obtain ⟨L5, hL5⟩ : ∃ L5, L5 = L ++ iput ⟨(q : Int), (m : Int)⟩ := ⟨_, rfl⟩
            rw [← hL5] at hnx
            have hL5e : L5 = L ++ q :: putU m := by rw [hL5]; unfold iput; simp
            have hl5 : Hid (L5.length ≤ bs.length + 4020 + 20 * (k + 1)) := hid (by have := hLl.out; have := (putF_len 9 m).2; rw [hL5e, List.length_append, List.length_cons]; unfold putU; omega)
            have hLb : Hid (L.length ≤ 200000000) := hid (by have := hLl.out; have := hbl.out; have := hk8'.out; omega)
            have HT := hid (fun (W : World) (h : Below W1.heap.size W1 W) => (show W.cell? ⟨w.heap.size, 2, none⟩ = some (.slice (some ⟨b, o, none⟩) p.code.length c2) ∧ W.cell? ⟨b, o + k * 2, none⟩ = some (.int .i64 (q : Nat)) ∧ W.cell? ⟨b, o + k * 2 + 1, none⟩ = some (.int .i64 (m : Nat)) from ⟨(hKP.out _ h).cell 2, (h.cell hbw).trans a0, (h.cell hbw).trans a1⟩))
            have hcon : Hid (∀ (A : Option Addr) (c : Nat) (W : World), Rd (fun b => W1.heap.size ≤ b) W 1 A (L.length + 1) (bcells L ++ [.int .u8 (q : Nat)]) → Calls Try.prog 42 #[.slice A (L.length + 1) c, .int .u64 (m : Nat)] W fun e w' => ∃ x, e = .returned x ∧ Cloned 5 1 (bcells L5) L5.length W x w') := hid fun A c W h => by
              have h2 : Rd (fun b => W1.heap.size ≤ b) W 1 A (L ++ [q]).length (bcells (L ++ [q])) := by rw [bcells_snoc, List.length_append]; exact h
              have h3 := rputUint_any _ A c (L ++ [q]) m W h2 (by have := hm256.out; omega) (by simp; have := hLb.out; omega)
              have hl1 : (L ++ [q]).length = L.length + 1 := by simp
              rw [List.append_assoc, hl1] at h3
              rw [hL5e]
              exact h3
            clear hiv hmo hop hL5 hL5e a0 a1 hbw
            go_upto_region 13 with fail
            clear s0 s1 s2
            have s0 := HT.out _ hBr.out
            have z0 := HT.out _ (hBr.out.alloc hBr.out.size (.cells #[.int .u8 (q : Nat)] 5))
            go_region_held3 (fun w' => w'.cell? ⟨w.heap.size, 2, none⟩ = some (.slice (some ⟨b, o, none⟩) p.code.length c2) ∧ w'.cell? ⟨b, o + k * 2, none⟩ = some (.int .i64 (q : Nat)) ∧ w'.cell? ⟨b, o + k * 2 + 1, none⟩ = some (.int .i64 (m : Nat))) (first | exact s0 | exact z0 | exact z1 | exact z2)
              ((first
                | (go_at_call 42
                   refine (hcon.out A4 c4 _ hrd4.out).mono ?_
                   rintro e w5 ⟨v, rfl, hown50, hb50⟩
                   have hb5 := hid (hb4.out.trans (hb50.mono hb4.out.size))
                   have hown5 := hid (own_base (base' := W1.heap.size) hb4.out.size hown50)
                   have z2 := HT.out _ hb5.out
                   clear hown50 hb50)
                | (refine step_append_rd (wr.alloc (.cells #[.int .u8 (q : Nat)] 5)).drew rfl (.tmp 56) (.tmp 64) 39 rfl W1.heap.size 5 ib _ 1 1 Try.underlying39 hb0 hb1 hb2 hb3 rfl (by omega) (.slice A L.length c) L.length (bcells L) rfl (World.ownsRow.drew (hown.out.alloc _)) (fun b => b = wr.heap.size) (some ⟨wr.heap.size, 0, none⟩) 1 1 [.int .u8 (q : Nat)] rfl (Rd.new wr 5 1 1 #[.int .u8 (q : Nat)] wr.heap.size rfl rfl).drew (by intro u hu; simp at hu; subst hu; rfl) (by simp only [maxLen]; have := hLb.out; omega) (by have := hLb.out; omega) (by have := hBr.out.size; simp; omega) (L.length + 1) rfl (bcells L ++ [.int .u8 (q : Nat)]) rfl ?_
                   intro A4 c4 w4 hown40 hg4 hat4
                   have hb40 := ((hBr.out.alloc hBr.out.size (.cells #[.int .u8 (q : Nat)] 5)).drew).grown hg4 (by have := hBr.out.size; simp; omega) fun k hk => (hown.out.lt k hk).1
                   have hb4 := hid hb40
                   have z1 := HT.out _ hb40
                   have hrd4 := hid (Rd.of_own' hown40)
                   clear hb40 hg4 hat4)))
            all_goals
              clear s0 z0
              obtain ⟨A9, c9, rfl, _⟩ := own_form hown5.out
              go_wp2_with fail
              go_roundw
              case rel => exact ⟨k + 1, A9, c9, L5, by go_num, rfl, hlt, hnx.out, hl5.out, hown5.out, hb5.out⟩
              case measure => simp [intOf]; omega
          · have hke : k = p.code.length := by omega
            have hLe3 : L = LF := by have := hLe.out; rw [hke, List.drop_eq_nil_of_le (Nat.le_refl _)] at this; simpa using this
            have i1 : ¬ ((k : Int) < (p.code.length : Int)) := by omega
            have hBf := hid (hB.out.trans (hBr.out.mono (by have := hgw.out; omega)))
            have hLf := hid hLe3
            clear hk hke hLe3
            go_wp2_with fail
            go_ret2
            have hL9 := hLf.out
            clear hLf
            subst hL9
            have hof := own_base (base' := w.heap.size) (Nat.le_of_lt hgw.out) hown.out
            exact ⟨hBf.out, A, c, rfl, hof⟩

end Go.Proofs.Ytbakfkhmopebnaa

namespace Go.Proofs.Ytbakfkhmopebnaa
open Go.ChangeShapes Go.WideShapes Go.ChangeAt Go.RowKit

theorem trodAll_below {H : Type} {enc : TypeId × Value → H} {P : Program} (hl : laidOutB P = true) {W W' : World} (hb : Below W.heap.size W W') :
    ∀ {ts : List TypeId} {vs : List Value} {ds : List (DataW H)} {ps : List MemPlace}, ts.all (fun t => P.readableRec t && decide (t < P.types.size)) = true → (∀ x ∈ ps, x.block < W.heap.size) →
      DataW.TrodAll enc P W 0 (fun _ => true) true ts vs ds ps → DataW.TrodAll enc P W' 0 (fun b => decide (b < W.heap.size)) true ts vs ds ps := by
  intro ts
  induction ts with
  | nil =>
    intro vs ds ps _ _ h
    obtain ⟨rfl, rfl, rfl⟩ := trodAll_nil h
    exact trodAll_mk0
  | cons t ts ih =>
    intro vs ds ps hr hlt h
    obtain ⟨v, vs', d, ds', p, q, rfl, rfl, rfl, h0, h1⟩ := trodAll_cons h
    simp only [List.all_cons, Bool.and_eq_true, decide_eq_true_eq] at hr
    exact trodAll_cons_mk (Below.trod hl hr.1.1 hr.1.2 h0 hb fun x hx => hlt x (List.mem_append_left _ hx)) (ih hr.2 (fun x hx => hlt x (List.mem_append_right _ hx)) h1)

theorem law_post {H : Type} {enc : TypeId × Value → H} {P : Program} {f : Func} {s : ChangeSpec} {W W' : World} {args : Array Value} {ds gs : List (DataW H)} {before : List MemPlace} {tb : TypeId}
    (hl : laidOutB P = true) (hrow : f.params.toList.all (fun t => P.readableRec t && decide (t < P.types.size)) = true) (hres : f.resultTypes = #[tb]) (htb : P.underlying tb = some .bool)
    (hv : s.vars = []) (hW : DataW.Whole enc P f.params.toList s.vars false W args.toList ds gs before)
    (hs : (s.fn H (ds ++ gs)).results = [.lit (.bool true)]) (ha : (s.fn H (ds ++ gs)).args = ds) (hvs : (s.fn H (ds ++ gs)).vars = []) (hb : Below W.heap.size W W') :
    s.post enc P f false true false false W args (.bool true) W' := by
  have hlt : ∀ p ∈ before, p.block < W.heap.size := fun p hp => hW.lt p hp
  have hW' := hW
  obtain ⟨p, q, hA, hV, rfl, _, _⟩ := hW
  rw [hv] at hV
  obtain ⟨rfl, rfl⟩ := trodVars_none hV
  refine ⟨ds, [], _, [], p, [], hW', ?_, ?_, ?_, World.keptBut_mono (fun x hx => ?_) (hb.frame (· ∈ p)), fun h => by cases h⟩
  · rw [hs, hres]
    exact trodAll_cons_mk (shut_bool htb _) trodAll_mk0
  · rw [ha]
    exact trodAll_below hl hb hrow (fun x hx => hlt x (List.mem_append_left _ hx)) hA
  · rw [hv, hvs]; rfl
  · exact ⟨by simpa using hx, .inr (.inl hx)⟩

end Go.Proofs.Ytbakfkhmopebnaa

