/- Texts of the proof, joined: KGet, KLw, KSame, KPut3, KRNext. -/
import Derived.Test.YtbakfkhmopebnaaJ07
import Derived.Test.YtbakfkhmopebnaaJ09
import Derived.Test.YtbakfkhmopebnaaJ04
import Derived.Test.YtbakfkhmopebnaaJ06
import Derived.Laws.MakeOwn
import Derived.Laws.OwnMore
namespace Go.Proofs.Ytbakfkhmopebnaa
open Go.RowKit
set_option linter.unusedVariables false
set_option linter.unusedSimpArgs false

theorem wpList_min_of {P : Program} {ops : Array Oper} {rest : List Oper} {o : Oper} {a : Act} {w : World} {Q : Exit → Act → World → Prop} (hgd : o.guard = none) (s x : Operand) (t : TypeId)
    (ho : o.op = .call { callee := .builtin .min, args := #[s, x], argTypes := #[t, t] }) (k : IntKind) (m n r : Int) (hs : a.eval s = .int k m) (hx : a.eval x = .int k n) (hr : (if n < m then n else m) = r)
    (h : wpList P ops Q rest (a.put o.dst (.int k r)) w) : wpList P ops Q (o :: rest) a w :=
  wpList_plain hgd fun K hK => by
    have hrun : (Builtin.min_ #[t, t] o.type #[.int k m, .int k n]).run P w = .ok (.int k r) w := by rw [← hr]; simp [go_sem]
    unfold Oper.wp execOp
    simp only [ho, resolve, invoke, builtin, Sem.run_bind, Sem.run_pure, Result.andThen_ok, List.map_toArray, List.map_cons, List.map_nil, hs, hx, hrun]
    exact hK _ _ h
theorem wrap_succ {k : Nat} (h : k + 1 ≤ 256) : wrap64 ((k : Int) + 1) = ((k + 1 : Nat) : Int) := by unfold wrap64; omega
def wid : Option Nat → Int
  | none => -1
  | some a => (a : Nat)
/-- what Get leaves -/
def GetPost (b : List Nat) (w : World) (e : Ending) (w' : World) : Prop := Below w.heap.size w w' ∧ match getP b with
  | .inr x => e = .returned (.tuple #[.agg #[.int .i64 0, .slice none 0 0, .slice none 0 0], .int .i64 x.1, .int .i64 (x.2 : Nat)])
  | .inl p => ∃ A1 A2 c1 c2, e = .returned (.tuple #[.agg #[.int .i64 p.args, .slice A1 p.cs.length c1, .slice A2 p.code.length c2], .int .i64 0, .int .i64 0]) ∧ w'.ownsRow w.heap.size 51 3 (.slice A1 p.cs.length c1) p.cs.length (vcells p.cs) ∧ w'.ownsRow w.heap.size 49 2 (.slice A2 p.code.length c2) p.code.length (icells p.code) ∧ ∀ v ∈ p.cs, v.s.size ≤ 64
theorem info_val : (Try.prog.info? 51).map (fun i => (i.zero, i.size, i.bytes)) = some (some (.agg #[.int .i64 0, .int .i64 0, .string ⟨#[]⟩]), 3, 32) := by kernel_rfl
theorem info_ins : (Try.prog.info? 49).map (fun i => (i.zero, i.size, i.bytes)) = some (some (.agg #[.int .i64 0, .int .i64 0]), 2, 16) := by kernel_rfl
/-- the reading behind the constants -/
def getQ (a : Nat) (r : Rr) (cs : List Vl) : Pr ⊕ (Int × Nat) :=
  let (m, r) := r.count 256
  let (r, code, wide) := getI m r [] none
  let r := r.end_
  if r.e ≠ 0 then .inr (r.e, r.spot)
  else match wide with
  | some w => .inr (54, w)
  | none => let p : Pr := ⟨a, cs, code⟩; if p.check.1 ≠ 0 then .inr (p.check.1, p.check.2.toNat) else .inl p
/-- the reading behind the code -/
def getE (a : Nat) (cs : List Vl) : Rr × List Is × Option Nat → Pr ⊕ (Int × Nat)
  | (r, code, wide) => if r.end_.e ≠ 0 then .inr (r.end_.e, r.end_.spot) else match wide with
    | some w => .inr (54, w)
    | none => if (Pr.mk a cs code).check.1 ≠ 0 then .inr ((Pr.mk a cs code).check.1, (Pr.mk a cs code).check.2.toNat) else .inl ⟨a, cs, code⟩
theorem getQ_eq (a : Nat) (r : Rr) (cs : List Vl) : getQ a r cs = getE a cs (getI (r.count 256).1 (r.count 256).2 [] none) := by
  unfold getQ getE
  rfl
theorem getE_bad {a : Nat} {cs : List Vl} {r : Rr} {code : List Is} {x : Option Nat} (h : r.end_.e ≠ 0) : getE a cs (r, code, x) = .inr (r.end_.e, r.end_.spot) := by
  unfold getE; simp only; rw [if_pos h]
theorem getE_some {a : Nat} {cs : List Vl} {r : Rr} {code : List Is} {b : Nat} (h : r.end_.e = 0) : getE a cs (r, code, some b) = .inr (54, b) := by
  unfold getE; simp only; rw [if_neg (by simp [h])]
theorem getE_none {a : Nat} {cs : List Vl} {r : Rr} {code : List Is} (h : r.end_.e = 0) : getE a cs (r, code, none) = if (Pr.mk a cs code).check.1 ≠ 0 then .inr ((Pr.mk a cs code).check.1, (Pr.mk a cs code).check.2.toNat) else .inl ⟨a, cs, code⟩ := by
  unfold getE; simp only; rw [if_neg (by simp [h])]
theorem Rr.count_e {r : Rr} (h : r.e ≠ 0) (m : Int) : r.count m = (0, r) := by unfold Rr.count; rw [if_pos h]
theorem Rr.end_e {r : Rr} (h : r.end_.e = 0) : r.e = 0 := by
  unfold Rr.end_ at h
  split at h
  · rename_i h1; exact h1.1
  · exact h
def getG (a : Nat) : (Rr × List Vl) ⊕ (Int × Nat) → Pr ⊕ (Int × Nat)
  | .inr e => .inr e
  | .inl (r, cs) => getQ a r cs
theorem getP_eq (b : List Nat) : getP b = getG ((Rr.new b).count 8).1 (getC (((Rr.new b).count 8).2.count 32).1 (((Rr.new b).count 8).2.count 32).2 []) := by
  unfold getP getG
  rfl
set_option maxRecDepth 100000 in
set_option maxHeartbeats 4000000 in
theorem get_any (S0 : Nat → Prop) (A0 : Option Addr) (c0 : Nat) (bs : List Nat) (w : World) (ha : Rd S0 w 1 A0 bs.length (bcells bs)) (hl : bs.length ≤ 1000000) (hb : ∀ x ∈ bs, x < 256) :
    Calls Try.prog 23 #[.slice A0 bs.length c0] w (GetPost bs w) := by
  obtain ⟨iv, hv0, hv1, hv2, hv3⟩ := info_parts info_val
  obtain ⟨ii, hi0, hi1, hi2, hi3⟩ := info_parts info_ins
  obtain ⟨W, hW⟩ : ∃ W, W = (w.alloc (.cells #[.int .i64 0, .slice none 0 0, .slice none 0 0] 29)).alloc (.cells #[.int .i64 0, .slice none 0 0, .slice none 0 0] 29) := ⟨_, rfl⟩
  have hB0 : Hid (Below w.heap.size w W) := hid (by subst hW; exact ((Below.refl _ _).alloc (Nat.le_refl _) _).alloc (by simp) _)
  have kz : Hid (Blk W w.heap.size 29 #[.int .i64 0, .slice none 0 0, .slice none 0 0]) := hid (by subst hW; exact (Blk.new w _ _).alloc _)
  have kp : Hid (Blk W (w.heap.size + 1) 29 #[.int .i64 0, .slice none 0 0, .slice none 0 0]) := hid (by subst hW; exact Blk.new' _ _ _ (by simp))
  have hsz : Hid (W.heap.size = w.heap.size + 1 + 1) := hid (by subst hW; simp)
  have hnew := hid (cNew_any S0 A0 c0 bs W (ha.below_all hB0.out) hl hb)
  have hll := hid hl
  have hbb := hid hb
  clear ha hl hb
  obtain ⟨bp, hbp⟩ : ∃ bp, bp = w.heap.size + 1 := ⟨_, rfl⟩
  have hbph := hid hbp
  rw [← hbp] at kp
  go_enter Try.func23, Try.ntmps23
  go_upto_region 2 with fail
  rw [← hW]
  simp only [← hbp]
  clear hW hbp
  go_wp2_with fail
  refine hnew.out.mono ?_
  rintro e w3 ⟨g, A, c, S', rfl, hb3, hg3, hS3, hr3⟩
  obtain ⟨N, hN⟩ : ∃ N, N = w3.heap.size := ⟨_, rfl⟩
  obtain ⟨S, hS⟩ : ∃ S : Nat → Prop, S = fun k => S' k ∧ k < w3.heap.size := ⟨_, rfl⟩
  have h3 : Hid (GM 111 S w w3 N g A c (Rr.new bs) bp 0 (.slice none 0 0) (.slice none 0 0) [] []) := hid (by
    have h1 := hsz.out
    have h2 := hbph.out
    have h4 := hr3.blk.lt
    refine ⟨?_, fun k hk => ?_, ⟨by omega, by omega, by omega, by omega, by have := hb3.size; omega⟩, kz.out.below_all hb3, kp.out.below_all hb3, World.ownsRow_nil _ _ _ _, World.ownsRow_nil _ _ _ _, hB0.out.trans (hb3.mono hB0.out.size), by omega⟩
    · rw [hS]; exact hr3.bound
    · rw [hS] at hk
      have := hS3 k hk.1
      exact ⟨by omega, by omega, by omega⟩)
  have hNN := hid (show w.heap.size ≤ N by have := hb3.size; have := hsz.out; omega)
  clear hb3 hg3 hS3 hr3 hS hN hnew kz kp hsz hB0
  obtain ⟨a, ra, hca⟩ : ∃ a ra, (Rr.new bs).count 8 = (a, ra) := ⟨_, _, rfl⟩
  obtain ⟨n, rn, hcn⟩ : ∃ n rn, ra.count 32 = (n, rn) := ⟨_, _, rfl⟩
  have ha8 : Hid (a ≤ 8) := hid (by have := (Rr.new bs).count_le 8; rw [show ((8 : Nat) : Int) = 8 from rfl, hca] at this; exact this)
  have hn32 : Hid (n ≤ 32) := hid (by have := ra.count_le 32; rw [show ((32 : Nat) : Int) = 32 from rfl, hcn] at this; exact this)
  have hrab : ra.b = bs := by have := (Rr.new bs).count_b 8; rw [hca] at this; exact this
  have hrnb : Hid (rn.b = bs) := hid (by have := ra.count_b 32; rw [hcn] at this; exact this.trans hrab)
  obtain ⟨G, hG⟩ : ∃ G, G = getC n rn [] := ⟨_, rfl⟩
  have hGP : Hid (getP bs = getG a G) := hid (by rw [getP_eq, hca]; simp only; rw [hcn]; simp only; rw [← hG])
  have hGh := hid hG
  have hcah := hid hca; have hcnh := hid hcn
  clear hG hca hcn hrab
  go_wp2_with fail
  refine (cCount_any h3.out.rd 8 (by decide)).mono ?_
  rw [hcah.out]
  rintro e w4 ⟨rfl, hu0, hr0⟩
  have h4 := hid (h3.out.call hu0 hr0)
  clear hu0 hr0 h3 hcah
  obtain ⟨z0, z1, z2, p0, p1, p2, fz, fp, hlz, hlp⟩ := h4.out.cells
  go_upto_region 4 with fail
  have h5 := hid (h4.out.setA (a : Nat))
  generalize w4.setCell ⟨bp, 0, none⟩ (.int .i64 (a : Nat)) = w5 at *
  clear z0 z1 z2 p0 p1 p2 fz fp hlz hlp
  clear h4
  go_wp2_with fail
  refine (cCount_any h5.out.rd 32 (by decide)).mono ?_
  rw [hcnh.out]
  rintro e w6 ⟨rfl, hu0, hr0⟩
  have h6 := hid (h5.out.call hu0 hr0)
  clear hu0 hr0 h5 hcnh
  go_wp2_with fail
  go_loopw [27] (fun v wr => ∃ (k : Nat) (A1 : Option Addr) (c1 : Nat) (cs : List Vl) (r : Rr), v = .int .i64 k ∧ k ≤ n ∧ GM 111 S w wr N g A c r bp (a : Nat) (.slice A1 cs.length c1) (.slice none 0 0) cs [] ∧ cs.length = k ∧ (∀ x ∈ cs, x.s.size ≤ 64) ∧ r.b = bs ∧ ((r.e = 0 ∧ getC (n - k) r cs = G) ∨ (r.e ≠ 0 ∧ ∃ l, G = .inl (r, l)))) (fun v _ => n - (intOf v).toNat)
  case atStart => exact ⟨0, none, 0, [], rn, rfl, Nat.zero_le _, h6.out, rfl, fun x hx => (by cases hx), hrnb.out, by
    by_cases he : rn.e = 0
    · exact .inl ⟨he, hGh.out.symm⟩
    · exact .inr ⟨he, [], by rw [hGh.out, getC_bad he]⟩⟩
  case round =>
    clear h6
    obtain ⟨k, A1, c1, cs, r, rfl, hk, h70, hck, hsm0, hrb0, hJ0⟩ := hrel
    have h7 := hid h70; have hsm := hid hsm0; have hrb := hid hrb0; have hJ := hid hJ0; have hckh := hid hck
    clear h70 hsm0 hrb0 hJ0
    by_cases hlt : k < n
    · have i1 : (k : Int) < (n : Int) := by omega
      have hkn := hid hlt
      have hk1 := hid (show k + 1 ≤ 32 by have := hn32.out; omega)
      clear hk hlt hck
      obtain ⟨p, hp⟩ : ∃ p, p = bs.length - r.rest := ⟨_, rfl⟩
      have hpe : Hid (r.e = 0 → p = r.at_) := hid (fun h => by
        have := h7.out.rd.at_le
        rw [hrb.out] at this
        rw [hp]; unfold Rr.rest; rw [if_neg (by simp [h]), hrb.out]; omega)
      have f1 : IntKind.i64.wrap ((bs.length : Int) - (r.rest : Int)) = (p : Int) := by
        have h1 := hll.out
        have h2 : r.rest ≤ bs.length := by unfold Rr.rest; split; · omega
                                           · rw [hrb.out]; omega
        rw [IntKind.wrap_i64]; omega
      clear hp
      go_wp2_with fail
      refine (cRest_any h7.out.rd).mono ?_
      rintro e w8 ⟨rfl, hu0, hr0⟩
      have h8 := hid (h7.out.call hu0 hr0)
      clear hu0 hr0 h7
      go_wp2_with fail
      refine (cTake_any h8.out.rd).mono ?_
      rintro e w9 ⟨rfl, hu0, hr0⟩
      obtain ⟨v, r1, hv⟩ : ∃ v r1, r.take = (v, r1) := ⟨_, _, rfl⟩
      rw [hv] at hr0
      simp only at hr0
      have h9 := hid (h8.out.call hu0 hr0)
      have hvh := hid hv
      have hvs : Hid (v.s.size ≤ 64) := hid (by have := r.take_sz; rw [hv] at this; exact this)
      have hr1b : Hid (r1.b = bs) := hid (by have := r.take_b; rw [hv] at this; exact this.trans hrb.out)
      rw [hv]
      simp only
      clear hu0 hr0 h8 hv
      go_upto_region 8 with fail
      obtain ⟨bv, hbv⟩ : ∃ bv, bv = w9.heap.size := ⟨_, rfl⟩
      have kv0 : Blk (w9.alloc (.cells #[.int .i64 v.k, .int .i64 v.n, .string v.s] 51)) bv 51 #[.int .i64 v.k, .int .i64 v.n, .string v.s] := Blk.new' _ _ _ hbv
      have h10 := hid (h9.out.below (W' := w9.alloc (.cells #[.int .i64 v.k, .int .i64 v.n, .string v.s] 51)) ((Below.refl _ _).alloc (Nat.le_refl _) _))
      have hbvN := hid (show N ≤ bv by have := h9.out.sz; omega)
      generalize w9.alloc (.cells #[.int .i64 v.k, .int .i64 v.n, .string v.s] 51) = w10 at *
      rw [← hbv]
      have kvh := hid kv0
      clear hbv kv0 h9
      go_wp2_with fail
      refine (cWhy_any h10.out.rd).mono ?_
      rintro e w11 ⟨rfl, hu0, hr0⟩
      have h11 := hid (h10.out.call hu0 hr0)
      have kv1 := kvh.out.upd hu0 (by have := hbvN.out; have := h10.out.gb.1; omega)
      clear hu0 hr0 h10 kvh
      rw [Rr.why_e]
      have v0 : w11.cell? ⟨bv, 0, none⟩ = some (.int .i64 v.k) := kv1.cell 0
      have v1 : w11.cell? ⟨bv, 1, none⟩ = some (.int .i64 v.n) := kv1.cell 1
      have v2 : w11.cell? ⟨bv, 2, none⟩ = some (.string v.s) := kv1.cell 2
      have hlv := kv1.lt
      clear kv1
      obtain ⟨z0, z1, z2, p0, p1, p2, fz, fp, hlz, hlp⟩ := h11.out.cells
      by_cases he1 : r1.e = 0 ∧ v.k = 0
      · have t1 : (r1.e == 0) = true := by simpa using he1.1
        have t2 : (v.k == 0) = true := by simpa using he1.2
        have he0 : r.e = 0 := by
          by_cases h : r.e = 0
          · exact h
          · exfalso
            have := hvh.out
            rw [Rr.take_bad h] at this
            simp only [Prod.mk.injEq] at this
            rw [← this.2] at he1
            exact h he1.1
        have hfin : Hid (getP bs = .inr (51, p)) := hid (by
          rw [hGP.out]
          rcases hJ.out with ⟨_, hJ⟩ | ⟨h, _⟩
          · rw [getC_step hkn.out he0, hvh.out] at hJ
            simp only at hJ
            rw [if_pos he1] at hJ
            rw [← hJ, hpe.out he0]
            rfl
          · exact absurd he0 h)
        clear he1 he0 hJ
        generalize r1.e = re1 at *
        go_wp2_with fail
        have hT := h11.out.res (.int .i64 0) (.slice none 0 0) (.slice none 0 0)
        obtain ⟨hTB, hTb, hT1, hT2⟩ := hT
        have z0 := hTb.cell 0
        have z1 := hTb.cell 1
        have z2 := hTb.cell 2
        simp only [List.getElem?_toArray, List.getElem?_cons_zero, List.getElem?_cons_succ] at z0 z1 z2
        refine bodyPost_ret (v := .tuple #[.agg #[.int .i64 0, .slice none 0 0, .slice none 0 0], .int .i64 51, .int .i64 (p : Nat)]) (by simp [results, Try.results23, go_sem, z0, z1, z2]) rfl ⟨hTB, ?_⟩
        rw [hfin.out]
      · have hJ2 : Hid ((r1.e = 0 ∧ getC (n - (k + 1)) r1 (cs ++ [v]) = G) ∨ (r1.e ≠ 0 ∧ ∃ l, G = .inl (r1, l))) := hid (by
          rcases hJ.out with ⟨h0, hJ⟩ | ⟨h0, l, hJ⟩
          · rw [getC_step hkn.out h0, hvh.out] at hJ
            simp only at hJ
            rw [if_neg he1] at hJ
            by_cases h1 : r1.e = 0
            · exact .inl ⟨h1, hJ⟩
            · exact .inr ⟨h1, cs ++ [v], by rw [← hJ, getC_bad h1]⟩
          · have := hvh.out
            rw [Rr.take_bad h0] at this
            simp only [Prod.mk.injEq] at this
            rw [← this.2]
            exact .inr ⟨h0, l, hJ⟩)
        have hsm2 : Hid (∀ x ∈ cs ++ [v], x.s.size ≤ 64) := hid (fun x hx => by
          rcases List.mem_append.1 hx with h | h
          · exact hsm.out x h
          · rw [List.mem_singleton.1 h]; exact hvs.out)
        have hlen : Hid ((cs ++ [v]).length = k + 1) := hid (by have := hckh.out; simp; omega)
        clear hJ
        by_cases h1 : r1.e = 0
        · have t1 : (r1.e == 0) = true := by simpa using h1
          have t2 : (v.k == 0) = false := by
            have : ¬ v.k = 0 := fun h => he1 ⟨h1, h⟩
            simpa using this
          clear he1 h1
          go_upto_region 11 with fail
          clear t1 t2
          have hrow := hid h11.out.o1
          have hws := hid (wrap_succ (k := k) (by have := hk1.out; omega))
          have hszN := hid h11.out.sz
          go_wp2_with (
            at_builtin
            refine wpList_append_rd _ rfl (.tmp 51) (.tmp 53) 26 rfl N 51 iv _ 3 32 Try.underlying26 hv0 hv1 hv2 hv3 rfl (by omega) (.slice A1 cs.length c1) cs.length (vcells cs) rfl (own_below hrow.out ((Below.refl _ _).alloc (Nat.le_refl _) _)) (fun b => b = w11.heap.size) (some ⟨w11.heap.size, 0, none⟩) 1 1 v.cells rfl (Rd.new _ _ 3 1 #[.int .i64 v.k, .int .i64 v.n, .string v.s] _ rfl rfl) (by intro u hu; unfold Vl.cells at hu; simp at hu; rcases hu with rfl | rfl | rfl <;> rfl) (by have := hckh.out; have := hk1.out; simp only [maxLen]; omega) (by have := hckh.out; have := hk1.out; omega) (by have := hszN.out; simp; omega) ?_
            intro v9 w12 hown9 hg9 hat9
            obtain ⟨A9, c9, rfl, _⟩ := own_form hown9
            have h12 := hid (GM.addC (v := v) (h11.out.below (W' := w11.alloc (.cells #[.int .i64 v.k, .int .i64 v.n, .string v.s] 51)) ((Below.refl _ _).alloc (Nat.le_refl _) _)) hg9 hown9)
            have p1' : w12.cell? ⟨bp, 1, none⟩ = some (.slice A1 cs.length c1) := (GM.grown (h11.out.below (W' := w11.alloc (.cells #[.int .i64 v.k, .int .i64 v.n, .string v.s] 51)) ((Below.refl _ _).alloc (Nat.le_refl _) _)) hg9 fun k hk => (hrow.out.lt k hk).1).2.2.1.cell 1
            have fp' : ∀ q, w12.frozen? ⟨bp, q, none⟩ = false := fun q => (GM.grown (h11.out.below (W' := w11.alloc (.cells #[.int .i64 v.k, .int .i64 v.n, .string v.s] 51)) ((Below.refl _ _).alloc (Nat.le_refl _) _)) hg9 fun k hk => (hrow.out.lt k hk).1).2.2.1.frozen q
            have hl' : bp < w12.heap.size := (GM.grown (h11.out.below (W' := w11.alloc (.cells #[.int .i64 v.k, .int .i64 v.n, .string v.s] 51)) ((Below.refl _ _).alloc (Nat.le_refl _) _)) hg9 fun k hk => (hrow.out.lt k hk).1).2.2.1.lt
            clear hown9 hg9 hat9 v0 v1 v2 hlv z0 z1 z2 p0 p1 p2 fz fp hlz hlp)
          go_roundw
          case rel => exact ⟨k + 1, A9, c9, cs ++ [v], r1, by rw [hws.out], hkn.out, (by rw [show (cs ++ [v]).length = cs.length + 1 by simp]; exact h12.out), hlen.out, hsm2.out, hr1b.out, hJ2.out⟩
          case measure =>
            rw [hws.out]
            have h2 := hkn.out
            show n - (((k + 1 : Nat) : Int)).toNat < n - ((k : Nat) : Int).toNat
            rw [Int.toNat_natCast, Int.toNat_natCast]
            omega
        · have t1 : (r1.e == 0) = false := by simpa using h1
          clear he1 h1
          go_upto_region 11 with fail
          clear t1
          have hrow := hid h11.out.o1
          have hws := hid (wrap_succ (k := k) (by have := hk1.out; omega))
          have hszN := hid h11.out.sz
          go_wp2_with (
            at_builtin
            refine wpList_append_rd _ rfl (.tmp 51) (.tmp 53) 26 rfl N 51 iv _ 3 32 Try.underlying26 hv0 hv1 hv2 hv3 rfl (by omega) (.slice A1 cs.length c1) cs.length (vcells cs) rfl (own_below hrow.out ((Below.refl _ _).alloc (Nat.le_refl _) _)) (fun b => b = w11.heap.size) (some ⟨w11.heap.size, 0, none⟩) 1 1 v.cells rfl (Rd.new _ _ 3 1 #[.int .i64 v.k, .int .i64 v.n, .string v.s] _ rfl rfl) (by intro u hu; unfold Vl.cells at hu; simp at hu; rcases hu with rfl | rfl | rfl <;> rfl) (by have := hckh.out; have := hk1.out; simp only [maxLen]; omega) (by have := hckh.out; have := hk1.out; omega) (by have := hszN.out; simp; omega) ?_
            intro v9 w12 hown9 hg9 hat9
            obtain ⟨A9, c9, rfl, _⟩ := own_form hown9
            have h12 := hid (GM.addC (v := v) (h11.out.below (W' := w11.alloc (.cells #[.int .i64 v.k, .int .i64 v.n, .string v.s] 51)) ((Below.refl _ _).alloc (Nat.le_refl _) _)) hg9 hown9)
            have p1' : w12.cell? ⟨bp, 1, none⟩ = some (.slice A1 cs.length c1) := (GM.grown (h11.out.below (W' := w11.alloc (.cells #[.int .i64 v.k, .int .i64 v.n, .string v.s] 51)) ((Below.refl _ _).alloc (Nat.le_refl _) _)) hg9 fun k hk => (hrow.out.lt k hk).1).2.2.1.cell 1
            have fp' : ∀ q, w12.frozen? ⟨bp, q, none⟩ = false := fun q => (GM.grown (h11.out.below (W' := w11.alloc (.cells #[.int .i64 v.k, .int .i64 v.n, .string v.s] 51)) ((Below.refl _ _).alloc (Nat.le_refl _) _)) hg9 fun k hk => (hrow.out.lt k hk).1).2.2.1.frozen q
            have hl' : bp < w12.heap.size := (GM.grown (h11.out.below (W' := w11.alloc (.cells #[.int .i64 v.k, .int .i64 v.n, .string v.s] 51)) ((Below.refl _ _).alloc (Nat.le_refl _) _)) hg9 fun k hk => (hrow.out.lt k hk).1).2.2.1.lt
            clear hown9 hg9 hat9 v0 v1 v2 hlv z0 z1 z2 p0 p1 p2 fz fp hlz hlp)
          go_roundw
          case rel => exact ⟨k + 1, A9, c9, cs ++ [v], r1, by rw [hws.out], hkn.out, (by rw [show (cs ++ [v]).length = cs.length + 1 by simp]; exact h12.out), hlen.out, hsm2.out, hr1b.out, hJ2.out⟩
          case measure =>
            rw [hws.out]
            have h2 := hkn.out
            show n - (((k + 1 : Nat) : Int)).toNat < n - ((k : Nat) : Int).toNat
            rw [Int.toNat_natCast, Int.toNat_natCast]
            omega
    · have hkn : Hid (k = n) := hid (by omega)
      have i1 : ¬ ((k : Int) < (n : Int)) := by omega
      clear hk hlt hck
      obtain ⟨l, hGl⟩ : ∃ l, G = .inl (r, l) ∧ (r.e = 0 → l = cs) := by
        rcases hJ.out with ⟨h0, hJ⟩ | ⟨h0, l, hJ⟩
        · refine ⟨cs, ?_, fun _ => rfl⟩
          rw [hkn.out, Nat.sub_self] at hJ
          exact hJ.symm
        · exact ⟨l, hJ, fun h => absurd h h0⟩
      have hQ : Hid (getP bs = getQ a r l ∧ (r.e = 0 → l = cs)) := hid ⟨by rw [hGP.out, hGl.1]; rfl, hGl.2⟩
      clear hGl hJ hGP hGh
      obtain ⟨m, rm, hcm⟩ : ∃ m rm, r.count 256 = (m, rm) := ⟨_, _, rfl⟩
      have hm256 : Hid (m ≤ 256) := hid (by have := r.count_le 256; rw [show ((256 : Nat) : Int) = 256 from rfl, hcm] at this; exact this)
      have hrmb : Hid (rm.b = bs) := hid (by have := r.count_b 256; rw [hcm] at this; exact this.trans hrb.out)
      have hcmh := hid hcm
      obtain ⟨G2, hG2⟩ : ∃ G2, G2 = getI m rm [] none := ⟨_, rfl⟩
      have hG2h := hid hG2
      clear hG2
      go_wp2_with fail
      refine (cCount_any h7.out.rd 256 (by decide)).mono ?_
      rw [hcm]
      rintro e w8 ⟨rfl, hu0, hr0⟩
      have h8 := hid (h7.out.call hu0 hr0)
      clear hu0 hr0 h7 hcm
      go_wp2_with fail
      go_loopw [11, 59] (fun xv v wr => ∃ (k : Nat) (A2 : Option Addr) (c2 : Nat) (code : List Is) (x : Option Nat) (r : Rr), xv = .int .i64 (wid x) ∧ v = .int .i64 k ∧ k ≤ m ∧ GM 111 S w wr N g A c r bp (a : Nat) (.slice A1 cs.length c1) (.slice A2 code.length c2) cs code ∧ code.length = k ∧ r.b = bs ∧ ((r.e = 0 ∧ getI (m - k) r code x = G2) ∨ (r.e ≠ 0 ∧ ∃ l y, G2 = (r, l, y)))) (fun _ v _ => m - (intOf v).toNat)
      case atStart => exact ⟨0, none, 0, [], none, rm, rfl, rfl, Nat.zero_le _, h8.out, rfl, hrmb.out, by
        by_cases he : rm.e = 0
        · exact .inl ⟨he, hG2h.out.symm⟩
        · exact .inr ⟨he, [], none, by rw [hG2h.out, getI_bad he]⟩⟩
      case round =>
        clear h8
        obtain ⟨k2, A2, c2, code, x, r', rfl, rfl, hk2, h90, hck2, hrb2, hJ20⟩ := hrel
        have h9 := hid h90; have hrb' := hid hrb2; have hJ2 := hid hJ20; have hckh2 := hid hck2
        clear h90 hrb2 hJ20
        by_cases hlt : k2 < m
        · have i1 : (k2 : Int) < (m : Int) := by omega
          have hkm := hid hlt
          have hk21 := hid (show k2 + 1 ≤ 256 by have := hm256.out; omega)
          clear hk2 hlt hck2
          obtain ⟨q, r1, hq⟩ : ∃ q r1, r'.byte = (q, r1) := ⟨_, _, rfl⟩
          obtain ⟨u, r3, hu⟩ : ∃ u r3, r1.uint = (u, r3) := ⟨_, _, rfl⟩
          have hq8 : q < 256 := by have := Rr.byte_lt (r := r') (by rw [hrb'.out]; exact hbb.out); rw [hq] at this; exact this
          have hu64 : u < 18446744073709551616 := by have := r1.uint_lt; rw [hu] at this; exact this
          have hr1b : r1.b = bs := by have := r'.byte_b; rw [hq] at this; exact this.trans hrb'.out
          have hr3b : Hid (r3.b = bs) := hid (by have := r1.uint_b; rw [hu] at this; exact this.trans hr1b)
          obtain ⟨p, hp⟩ : ∃ p, p = bs.length - r1.rest := ⟨_, rfl⟩
          have hr1at : r1.e = 0 → r1.at_ ≤ bs.length → p = r1.at_ := fun h h2 => by rw [hp]; unfold Rr.rest; rw [if_neg (by simp [h]), hr1b]; omega
          have f1 : IntKind.i64.wrap ((bs.length : Int) - (r1.rest : Int)) = (p : Int) := by
            have h1 := hll.out
            have h2 : r1.rest ≤ bs.length := by
              unfold Rr.rest
              split
              · omega
              · rw [hr1b]; omega
            rw [IntKind.wrap_i64]; omega
          obtain ⟨mn, hmn⟩ : ∃ mn, mn = min u 255 := ⟨_, rfl⟩
          have fq : IntKind.i64.wrap (q : Int) = (q : Int) := by rw [IntKind.wrap_i64]; omega
          have fmn : IntKind.i64.wrap (mn : Int) = (mn : Int) := by rw [IntKind.wrap_i64]; omega
          have fmin : min (u : Int) 255 = (mn : Int) := by omega
          obtain ⟨x', hx'⟩ : ∃ x', x' = if 255 < u ∧ x = none then some r1.at_ else x := ⟨_, rfl⟩
          have hJ3 : Hid ((r3.e = 0 ∧ getI (m - (k2 + 1)) r3 (code ++ [⟨q, (mn : Nat)⟩]) x' = G2) ∨ (r3.e ≠ 0 ∧ ∃ l y, G2 = (r3, l, y))) := hid (by
            rcases hJ2.out with ⟨h0, hJ⟩ | ⟨h0, l2, y, hJ⟩
            · rw [getI_step hkm.out h0, hq] at hJ
              simp only at hJ
              rw [hu] at hJ
              simp only at hJ
              rw [← hx', ← hmn] at hJ
              by_cases h1 : r3.e = 0
              · exact .inl ⟨h1, hJ⟩
              · exact .inr ⟨h1, _, _, by rw [← hJ, getI_bad h1]⟩
            · rw [Rr.byte_e h0] at hq
              simp only [Prod.mk.injEq] at hq
              rw [← hq.2, Rr.uint_e h0] at hu
              simp only [Prod.mk.injEq] at hu
              rw [← hu.2]
              exact .inr ⟨h0, l2, y, hJ⟩)
          have hu0 : r1.e ≠ 0 → u = 0 := fun h => by rw [Rr.uint_e h] at hu; simp only [Prod.mk.injEq] at hu; exact hu.1.symm
          have hqh := hid hq; have huh := hid hu
          have hr1ath := hid hr1at
          have hu0h := hid hu0
          have hlen2 : Hid ((code ++ [(⟨q, (mn : Nat)⟩ : Is)]).length = k2 + 1) := hid (by have := hckh2.out; simp; omega)
          clear hJ2 hq hu hp hr1at hu0 hu64 hq8 hr1b
          go_wp2_with fail
          refine (cByte_any h9.out.rd).mono ?_
          rw [hqh.out]
          rintro e w10 ⟨rfl, hu0, hr0⟩
          have h10 := hid (h9.out.call hu0 hr0)
          clear hu0 hr0 h9
          go_wp2_with fail
          refine (cRest_any h10.out.rd).mono ?_
          rintro e w11 ⟨rfl, hu0, hr0⟩
          have h11 := hid (h10.out.call hu0 hr0)
          clear hu0 hr0 h10
          go_wp2_with fail
          refine (cUint_any h11.out.rd).mono ?_
          rw [huh.out]
          rintro e w12 ⟨rfl, hu0, hr0⟩
          have h12 := hid (h11.out.call hu0 hr0)
          have hat2 : r1.at_ ≤ bs.length := by have h1 := h11.out.rd.at_le; have h2 := h11.out.rd.len; have h3 := r'.byte_b; rw [hqh.out] at h3; rw [h3, hrb'.out] at h1; exact h1
          have hat3 := hid hat2
          clear hu0 hr0 h11 hat2
          by_cases hbig : 255 < u
          · have t1 : (255 : Int) < (u : Int) := by omega
            obtain rfl : mn = 255 := by omega
            clear hmn fmin fmn
            cases x with
            | none =>
              have hp2 : p = r1.at_ := hr1ath.out (by
                by_cases h : r1.e = 0
                · exact h
                · have := hu0h.out h; omega) hat3.out
              have hxx : Hid (x' = some p) := hid (by rw [hx', if_pos ⟨hbig, rfl⟩, hp2])
              have t2 : wid none < 0 := by decide
              have e2 : wid none = -1 := rfl
              rw [e2]
              clear hbig hx' hp2 t2 e2
              go_upto_region 21 with fail
              have hrow := hid h12.out.o2
              have hszN := hid h12.out.sz
              have hws := hid (wrap_succ (k := k2) hk21.out)
              obtain ⟨z0, z1, z2, p0, p1, p2, fz, fp, hlz, hlp⟩ := h12.out.cells
              clear f1
              go_wp2_with (first | (
                at_builtin
                refine wpList_append_rd _ rfl (.tmp 78) (.tmp 85) 27 rfl N 49 ii _ 2 16 Try.underlying27 hi0 hi1 hi2 hi3 rfl (by omega) (.slice A2 code.length c2) code.length (icells code) rfl (own_below hrow.out ((Below.refl _ _).alloc (Nat.le_refl _) _)) (fun b => b = w12.heap.size) (some ⟨w12.heap.size, 0, none⟩) 1 1 (Is.cells ⟨q, (255 : Nat)⟩) rfl (Rd.new _ _ 2 1 #[.int .i64 (q : Nat), .int .i64 255] _ rfl rfl) (by intro u hu; unfold Is.cells at hu; simp at hu; rcases hu with rfl | rfl <;> rfl) (by have := hckh2.out; have := hk21.out; simp only [maxLen]; omega) (by have := hckh2.out; have := hk21.out; omega) (by have := hszN.out; simp; omega) ?_
                intro v9 w13 hown9 hg9 hat9
                obtain ⟨A9, c9, rfl, _⟩ := own_form hown9
                have h13 := hid (GM.addI (i := ⟨q, (255 : Nat)⟩) (h12.out.below (W' := w12.alloc (.cells #[.int .i64 (q : Nat), .int .i64 255] 49)) ((Below.refl _ _).alloc (Nat.le_refl _) _)) hg9 hown9)
                have p1' : w13.cell? ⟨bp, 2, none⟩ = some (.slice A2 code.length c2) := (GM.grown (h12.out.below (W' := w12.alloc (.cells #[.int .i64 (q : Nat), .int .i64 255] 49)) ((Below.refl _ _).alloc (Nat.le_refl _) _)) hg9 fun k hk => (hrow.out.lt k hk).1).2.2.1.cell 2
                have fp' : ∀ qq, w13.frozen? ⟨bp, qq, none⟩ = false := fun qq => (GM.grown (h12.out.below (W' := w12.alloc (.cells #[.int .i64 (q : Nat), .int .i64 255] 49)) ((Below.refl _ _).alloc (Nat.le_refl _) _)) hg9 fun k hk => (hrow.out.lt k hk).1).2.2.1.frozen qq
                have hl' : bp < w13.heap.size := (GM.grown (h12.out.below (W' := w12.alloc (.cells #[.int .i64 (q : Nat), .int .i64 255] 49)) ((Below.refl _ _).alloc (Nat.le_refl _) _)) hg9 fun k hk => (hrow.out.lt k hk).1).2.2.1.lt
                clear hown9 hg9 hat9 z0 z1 z2 p0 p1 p2 fz fp hlz hlp) | (at_builtin; refine wpList_min_of rfl (.tmp 81) (.const (.int .u64 255)) 68 rfl .u64 (u : Nat) 255 255 rfl rfl (by omega) ?_))
              go_roundw
              case rel => exact ⟨k2 + 1, A9, c9, code ++ [⟨q, (255 : Nat)⟩], x', r3, by first | (rw [hxx.out]; done) | (rw [hxx.out]; rfl), by rw [hws.out], hkm.out, (by rw [show (code ++ [(⟨q, (255 : Nat)⟩ : Is)]).length = code.length + 1 by simp]; exact h13.out), hlen2.out, hr3b.out, hJ3.out⟩
              case measure =>
                rw [hws.out]
                have h2 := hkm.out
                show m - (((k2 + 1 : Nat) : Int)).toNat < m - ((k2 : Nat) : Int).toNat
                rw [Int.toNat_natCast, Int.toNat_natCast]
                omega
            | some b =>
              have hxx : Hid (x' = some b) := hid (by rw [hx', if_neg (by simp)])
              have e2 : wid (some b) = (b : Int) := rfl
              rw [e2]
              have t2 : ¬ ((b : Int) < 0) := by omega
              clear hbig hx' e2
              go_upto_region 21 with fail
              have hrow := hid h12.out.o2
              have hszN := hid h12.out.sz
              have hws := hid (wrap_succ (k := k2) hk21.out)
              obtain ⟨z0, z1, z2, p0, p1, p2, fz, fp, hlz, hlp⟩ := h12.out.cells
              clear f1
              go_wp2_with (first | (
                at_builtin
                refine wpList_append_rd _ rfl (.tmp 78) (.tmp 85) 27 rfl N 49 ii _ 2 16 Try.underlying27 hi0 hi1 hi2 hi3 rfl (by omega) (.slice A2 code.length c2) code.length (icells code) rfl (own_below hrow.out ((Below.refl _ _).alloc (Nat.le_refl _) _)) (fun b => b = w12.heap.size) (some ⟨w12.heap.size, 0, none⟩) 1 1 (Is.cells ⟨q, (255 : Nat)⟩) rfl (Rd.new _ _ 2 1 #[.int .i64 (q : Nat), .int .i64 255] _ rfl rfl) (by intro u hu; unfold Is.cells at hu; simp at hu; rcases hu with rfl | rfl <;> rfl) (by have := hckh2.out; have := hk21.out; simp only [maxLen]; omega) (by have := hckh2.out; have := hk21.out; omega) (by have := hszN.out; simp; omega) ?_
                intro v9 w13 hown9 hg9 hat9
                obtain ⟨A9, c9, rfl, _⟩ := own_form hown9
                have h13 := hid (GM.addI (i := ⟨q, (255 : Nat)⟩) (h12.out.below (W' := w12.alloc (.cells #[.int .i64 (q : Nat), .int .i64 255] 49)) ((Below.refl _ _).alloc (Nat.le_refl _) _)) hg9 hown9)
                have p1' : w13.cell? ⟨bp, 2, none⟩ = some (.slice A2 code.length c2) := (GM.grown (h12.out.below (W' := w12.alloc (.cells #[.int .i64 (q : Nat), .int .i64 255] 49)) ((Below.refl _ _).alloc (Nat.le_refl _) _)) hg9 fun k hk => (hrow.out.lt k hk).1).2.2.1.cell 2
                have fp' : ∀ qq, w13.frozen? ⟨bp, qq, none⟩ = false := fun qq => (GM.grown (h12.out.below (W' := w12.alloc (.cells #[.int .i64 (q : Nat), .int .i64 255] 49)) ((Below.refl _ _).alloc (Nat.le_refl _) _)) hg9 fun k hk => (hrow.out.lt k hk).1).2.2.1.frozen qq
                have hl' : bp < w13.heap.size := (GM.grown (h12.out.below (W' := w12.alloc (.cells #[.int .i64 (q : Nat), .int .i64 255] 49)) ((Below.refl _ _).alloc (Nat.le_refl _) _)) hg9 fun k hk => (hrow.out.lt k hk).1).2.2.1.lt
                clear hown9 hg9 hat9 z0 z1 z2 p0 p1 p2 fz fp hlz hlp) | (at_builtin; refine wpList_min_of rfl (.tmp 81) (.const (.int .u64 255)) 68 rfl .u64 (u : Nat) 255 255 rfl rfl (by omega) ?_))
              go_roundw
              case rel => exact ⟨k2 + 1, A9, c9, code ++ [⟨q, (255 : Nat)⟩], x', r3, by first | (rw [hxx.out]; done) | (rw [hxx.out]; rfl), by rw [hws.out], hkm.out, (by rw [show (code ++ [(⟨q, (255 : Nat)⟩ : Is)]).length = code.length + 1 by simp]; exact h13.out), hlen2.out, hr3b.out, hJ3.out⟩
              case measure =>
                rw [hws.out]
                have h2 := hkm.out
                show m - (((k2 + 1 : Nat) : Int)).toNat < m - ((k2 : Nat) : Int).toNat
                rw [Int.toNat_natCast, Int.toNat_natCast]
                omega
          · have t1 : ¬ ((255 : Int) < (u : Int)) := by omega
            obtain rfl : mn = u := by omega
            clear hmn fmin
            have hxx : Hid (x' = x) := hid (by rw [hx', if_neg (by rintro ⟨h, _⟩; exact hbig h)])
            clear hbig hx'
            go_upto_region 21 with fail
            have hrow := hid h12.out.o2
            have hszN := hid h12.out.sz
            have hws := hid (wrap_succ (k := k2) hk21.out)
            obtain ⟨z0, z1, z2, p0, p1, p2, fz, fp, hlz, hlp⟩ := h12.out.cells
            clear f1
            go_wp2_with (first | (
              at_builtin
              refine wpList_append_rd _ rfl (.tmp 78) (.tmp 85) 27 rfl N 49 ii _ 2 16 Try.underlying27 hi0 hi1 hi2 hi3 rfl (by omega) (.slice A2 code.length c2) code.length (icells code) rfl (own_below hrow.out ((Below.refl _ _).alloc (Nat.le_refl _) _)) (fun b => b = w12.heap.size) (some ⟨w12.heap.size, 0, none⟩) 1 1 (Is.cells ⟨q, (mn : Nat)⟩) rfl (Rd.new _ _ 2 1 #[.int .i64 (q : Nat), .int .i64 (mn : Nat)] _ rfl rfl) (by intro u hu; unfold Is.cells at hu; simp at hu; rcases hu with rfl | rfl <;> rfl) (by have := hckh2.out; have := hk21.out; simp only [maxLen]; omega) (by have := hckh2.out; have := hk21.out; omega) (by have := hszN.out; simp; omega) ?_
              intro v9 w13 hown9 hg9 hat9
              obtain ⟨A9, c9, rfl, _⟩ := own_form hown9
              have h13 := hid (GM.addI (i := ⟨q, (mn : Nat)⟩) (h12.out.below (W' := w12.alloc (.cells #[.int .i64 (q : Nat), .int .i64 (mn : Nat)] 49)) ((Below.refl _ _).alloc (Nat.le_refl _) _)) hg9 hown9)
              have p1' : w13.cell? ⟨bp, 2, none⟩ = some (.slice A2 code.length c2) := (GM.grown (h12.out.below (W' := w12.alloc (.cells #[.int .i64 (q : Nat), .int .i64 (mn : Nat)] 49)) ((Below.refl _ _).alloc (Nat.le_refl _) _)) hg9 fun k hk => (hrow.out.lt k hk).1).2.2.1.cell 2
              have fp' : ∀ qq, w13.frozen? ⟨bp, qq, none⟩ = false := fun qq => (GM.grown (h12.out.below (W' := w12.alloc (.cells #[.int .i64 (q : Nat), .int .i64 (mn : Nat)] 49)) ((Below.refl _ _).alloc (Nat.le_refl _) _)) hg9 fun k hk => (hrow.out.lt k hk).1).2.2.1.frozen qq
              have hl' : bp < w13.heap.size := (GM.grown (h12.out.below (W' := w12.alloc (.cells #[.int .i64 (q : Nat), .int .i64 (mn : Nat)] 49)) ((Below.refl _ _).alloc (Nat.le_refl _) _)) hg9 fun k hk => (hrow.out.lt k hk).1).2.2.1.lt
              clear hown9 hg9 hat9 z0 z1 z2 p0 p1 p2 fz fp hlz hlp) | (at_builtin; refine wpList_min_of rfl (.tmp 81) (.const (.int .u64 255)) 68 rfl .u64 (mn : Nat) 255 (mn : Nat) rfl rfl (by omega) ?_))
            go_roundw
            case rel => exact ⟨k2 + 1, A9, c9, code ++ [⟨q, (mn : Nat)⟩], x', r3, by first | (rw [hxx.out]; done) | (rw [hxx.out]; rfl), by rw [hws.out], hkm.out, (by rw [show (code ++ [(⟨q, (mn : Nat)⟩ : Is)]).length = code.length + 1 by simp]; exact h13.out), hlen2.out, hr3b.out, hJ3.out⟩
            case measure =>
              rw [hws.out]
              have h2 := hkm.out
              show m - (((k2 + 1 : Nat) : Int)).toNat < m - ((k2 : Nat) : Int).toNat
              rw [Int.toNat_natCast, Int.toNat_natCast]
              omega
        · have hkm : Hid (k2 = m) := hid (by omega)
          have i1 : ¬ ((k2 : Int) < (m : Int)) := by omega
          clear hk2 hlt hck2
          obtain ⟨lc, y, hGl, hlc⟩ : ∃ lc y, G2 = (r', lc, y) ∧ (r'.e = 0 → lc = code ∧ y = x) := by
            rcases hJ2.out with ⟨h0, hJ⟩ | ⟨h0, lc, y, hJ⟩
            · refine ⟨code, x, ?_, fun _ => ⟨rfl, rfl⟩⟩
              rw [hkm.out, Nat.sub_self] at hJ
              exact hJ.symm
            · exact ⟨lc, y, hJ, fun h => absurd h h0⟩
          have hE : getP bs = getE a l (r', lc, y) := by
            rw [hQ.out.1, getQ_eq, hcmh.out]
            simp only
            rw [← hG2h.out, hGl]
          have hre : r'.e = 0 → r.e = 0 := fun h => by
            by_cases h1 : r.e = 0
            · exact h1
            · exfalso
              have h2 := hcmh.out
              rw [Rr.count_e h1] at h2
              simp only [Prod.mk.injEq] at h2
              have h3 := hG2h.out
              rw [hGl, ← h2.1, ← h2.2] at h3
              unfold getI at h3
              simp only [Prod.mk.injEq] at h3
              rw [h3.1] at h
              exact h1 h
          have hEh := hid hE
          have hall := hid (show r'.e = 0 → l = cs ∧ lc = code ∧ y = x from fun h => ⟨hQ.out.2 (hre h), hlc h⟩)
          clear hJ2 hGl hlc hE hre hQ hG2h hcmh
          go_wp2_with fail
          refine (cEnd_any h9.out.rd).mono ?_
          rintro e w10 ⟨rfl, hu0, hr0⟩
          have h10 := hid (h9.out.call hu0 hr0)
          clear hu0 hr0 h9
          obtain ⟨rr, hrr⟩ : ∃ rr, rr = r'.end_ := ⟨_, rfl⟩
          rw [← hrr] at h10
          rw [← hrr]
          have hrrh := hid hrr
          clear hrr
          obtain ⟨z0, z1, z2, p0, p1, p2, fz, fp, hlz, hlp⟩ := h10.out.cells
          by_cases hee : rr.e = 0
          · have te : (rr.e != 0) = false := by simpa using hee
            obtain ⟨rfl, rfl, rfl⟩ := hall.out (Rr.end_e (by rw [← hrrh.out]; exact hee))
            have hrr0 : r'.end_.e = 0 := by rw [← hrrh.out]; exact hee
            clear hee
            cases y with
            | some b =>
              have hfin : Hid (getP bs = .inr (54, b)) := hid (by rw [hEh.out, getE_some hrr0])
              clear hrr0
              have e2 : wid (some b) = (b : Int) := rfl
              rw [e2]
              have t2 : (0 : Int) ≤ (b : Int) := by omega
              clear e2
              go_wp2_with fail
              have hT := h10.out.res (.int .i64 0) (.slice none 0 0) (.slice none 0 0)
              obtain ⟨hTB, hTb, hT1, hT2⟩ := hT
              have z0 := hTb.cell 0
              have z1 := hTb.cell 1
              have z2 := hTb.cell 2
              simp only [List.getElem?_toArray, List.getElem?_cons_zero, List.getElem?_cons_succ] at z0 z1 z2
              refine bodyPost_ret (v := .tuple #[.agg #[.int .i64 0, .slice none 0 0, .slice none 0 0], .int .i64 54, .int .i64 (b : Nat)]) (by simp [results, Try.results23, go_sem, z0, z1, z2]) rfl ⟨hTB, ?_⟩
              rw [hfin.out]
            | none =>
              have hE2 := hid (hEh.out.trans (getE_none hrr0))
              clear hrr0
              have e2 : wid none = -1 := rfl
              rw [e2]
              clear e2
              have hpin := hid (h10.out.prIn (A1 := A1) (A2 := A2) hsm.out ⟨by have := hckh.out; have := hn32.out; have := hkn.out; omega, by have := hckh2.out; have := hm256.out; have := hkm.out; omega⟩)
              have hck := hid (check_any ⟨a, l, lc⟩ _ A1 A2 c1 c2 w10 hpin.out)
              go_wp2_with fail
              refine hck.out.mono ?_
              rintro e w11 ⟨rfl, hb0⟩
              have h11 := hid (h10.out.below hb0)
              clear hb0 hck hpin
              clear z0 z1 z2 p0 p1 p2 fz fp hlz hlp
              obtain ⟨z0, z1, z2, p0, p1, p2, fz, fp, hlz, hlp⟩ := h11.out.cells
              have hnn := check_nn ⟨a, l, lc⟩
              have hE2 := hE2.out
              generalize (Pr.mk a l lc).check.1 = ck1 at *
              generalize (Pr.mk a l lc).check.2 = ck2 at *
              by_cases hck1 : ck1 = 0
              · have t3 : (ck1 != 0) = false := by simpa using hck1
                have hfin : Hid (getP bs = .inl ⟨a, l, lc⟩) := hid (by rw [hE2, if_neg (by simpa using hck1)])
                clear hE2 hck1 hnn
                go_wp2_with fail
                have hT := h11.out.res (.int .i64 (a : Nat)) (.slice A1 l.length c1) (.slice A2 lc.length c2)
                obtain ⟨hTB, hTb, hT1, hT2⟩ := hT
                have z0 := hTb.cell 0
                have z1 := hTb.cell 1
                have z2 := hTb.cell 2
                simp only [List.getElem?_toArray, List.getElem?_cons_zero, List.getElem?_cons_succ] at z0 z1 z2
                refine bodyPost_ret (v := .tuple #[.agg #[.int .i64 (a : Nat), .slice A1 l.length c1, .slice A2 lc.length c2], .int .i64 0, .int .i64 0]) (by simp [results, Try.results23, go_sem, z0, z1, z2]) rfl ⟨hTB, ?_⟩
                rw [hfin.out]
                exact ⟨A1, A2, c1, c2, rfl, hT1, hT2, hsm.out⟩
              · have t3 : (ck1 != 0) = true := by simpa using hck1
                have hfin : Hid (getP bs = .inr (ck1, ck2.toNat)) := hid (by rw [hE2, if_pos hck1])
                have hnnh := hid hnn
                clear hE2 hck1 hnn
                go_wp2_with fail
                have hT := h11.out.res (.int .i64 0) (.slice none 0 0) (.slice none 0 0)
                obtain ⟨hTB, hTb, hT1, hT2⟩ := hT
                have z0 := hTb.cell 0
                have z1 := hTb.cell 1
                have z2 := hTb.cell 2
                simp only [List.getElem?_toArray, List.getElem?_cons_zero, List.getElem?_cons_succ] at z0 z1 z2
                refine bodyPost_ret (v := .tuple #[.agg #[.int .i64 0, .slice none 0 0, .slice none 0 0], .int .i64 ck1, .int .i64 ck2]) (by simp [results, Try.results23, go_sem, z0, z1, z2]) rfl ⟨hTB, ?_⟩
                rw [hfin.out]
                simp only
                rw [hnnh.out]
          · have te : (rr.e != 0) = true := by simpa using hee
            have hfin : Hid (getP bs = .inr (rr.e, rr.spot)) := hid (by
              rw [hEh.out, getE_bad (by rw [← hrrh.out]; exact hee), ← hrrh.out])
            have hwy : Hid (rr.why = (rr.e, rr.spot)) := hid (by unfold Rr.why; rw [if_neg hee])
            clear hee
            go_wp2_with fail
            refine (cWhy_any h10.out.rd).mono ?_
            rw [hwy.out]
            rintro e w11 ⟨rfl, hu0, hr0⟩
            have h11 := hid (h10.out.call hu0 hr0)
            clear hu0 hr0
            clear z0 z1 z2 p0 p1 p2 fz fp hlz hlp
            obtain ⟨z0, z1, z2, p0, p1, p2, fz, fp, hlz, hlp⟩ := h11.out.cells
            go_wp2_with fail
            have hT := h11.out.res (.int .i64 0) (.slice none 0 0) (.slice none 0 0)
            obtain ⟨hTB, hTb, hT1, hT2⟩ := hT
            have z0 := hTb.cell 0
            have z1 := hTb.cell 1
            have z2 := hTb.cell 2
            simp only [List.getElem?_toArray, List.getElem?_cons_zero, List.getElem?_cons_succ] at z0 z1 z2
            refine bodyPost_ret (v := .tuple #[.agg #[.int .i64 0, .slice none 0 0, .slice none 0 0], .int .i64 rr.e, .int .i64 (rr.spot : Nat)]) (by simp [results, Try.results23, go_sem, z0, z1, z2]) rfl ⟨hTB, ?_⟩
            rw [hfin.out]

end Go.Proofs.Ytbakfkhmopebnaa

namespace Go.Proofs.Ytbakfkhmopebnaa
open Go.RowKit
set_option linter.unusedVariables false
set_option linter.unusedSimpArgs false

theorem num_any (n : Int) (w : World) : Calls Try.prog 9 #[.int .i64 n] w fun e w' => e = .returned (.int .i64 n) ∧ w' = w := by
  go_enter Try.func9, Try.ntmps9
  go_wp2_with fail
  go_ret
  exact ⟨rfl, rfl⟩
theorem long_any (S : Nat → Prop) (A1 A2 : Option Addr) (c1 c2 n1 n2 : Nat) (a : Int) (w : World) (hl : n1 ≤ 1000000000000000 ∧ n2 ≤ 1000000000000000) :
    Calls Try.prog 11 #[.agg #[.int .i64 a, .slice A1 n1 c1, .slice A2 n2 c2]] w fun e w' => e = .returned (.bool (decide ((2000 : Int) < ((n2 + n1 : Nat) : Int)))) ∧ Below w.heap.size w w' := by
  have f1 : IntKind.i64.wrap ((n2 : Int) + (n1 : Int)) = ((n2 + n1 : Nat) : Int) := by rw [IntKind.wrap_i64]; omega
  have hB : Hid (Below w.heap.size w (w.alloc (.cells #[.int .i64 a, .slice A1 n1 c1, .slice A2 n2 c2] 29))) := hid ((Below.refl _ _).alloc (Nat.le_refl _) _)
  have kb := Blk.new w 29 #[.int .i64 a, .slice A1 n1 c1, .slice A2 n2 c2]
  generalize n2 + n1 = N at *
  clear hl
  go_enter Try.func11, Try.ntmps11
  go_upto_region 1 with fail
  generalize w.alloc (.cells #[.int .i64 a, .slice A1 n1 c1, .slice A2 n2 c2] 29) = W at *
  have x1 : W.cell? ⟨w.heap.size, 1, none⟩ = some (.slice A1 n1 c1) := kb.cell 1
  have x2 : W.cell? ⟨w.heap.size, 2, none⟩ = some (.slice A2 n2 c2) := kb.cell 2
  clear kb
  go_wp2_with fail
  go_ret
  exact ⟨rfl, hB.out⟩
/-- a program in rows of the call's own -/
def OwnP (p : Pr) (base : Nat) (w : World) (A1 A2 : Option Addr) (c1 c2 : Nat) : Prop := w.ownsRow base 51 3 (.slice A1 p.cs.length c1) p.cs.length (vcells p.cs) ∧ w.ownsRow base 49 2 (.slice A2 p.code.length c2) p.code.length (icells p.code)
theorem OwnP.prIn {p : Pr} {base : Nat} {w : World} {A1 A2 : Option Addr} {c1 c2 : Nat} (h : OwnP p base w A1 A2 c1 c2) (ht : ∀ v ∈ p.cs, v.s.size ≤ 9223372036854775806) (hl : p.cs.length ≤ 1000000000 ∧ p.code.length ≤ 1000000000) : PrIn (fun k => base ≤ k) w A1 A2 p := ⟨Rd.of_own' h.1, Rd.of_own' h.2, ht, hl⟩
theorem OwnP.below {p : Pr} {base : Nat} {w w' : World} {A1 A2 : Option Addr} {c1 c2 : Nat} (h : OwnP p base w A1 A2 c1 c2) (hb : Below w.heap.size w w') : OwnP p base w' A1 A2 c1 c2 := ⟨own_below h.1 hb, own_below h.2 hb⟩
theorem OwnP.base {p : Pr} {base base' : Nat} {w : World} {A1 A2 : Option Addr} {c1 c2 : Nat} (h : OwnP p base w A1 A2 c1 c2) (hb : base' ≤ base) : OwnP p base' w A1 A2 c1 c2 := ⟨own_base hb h.1, own_base hb h.2⟩
set_option maxRecDepth 100000 in
set_option maxHeartbeats 1000000 in
theorem own_any (p : Pr) (S : Nat → Prop) (A1 A2 : Option Addr) (c1 c2 : Nat) (w : World) (hp : PrIn S w A1 A2 p) :
    Calls Try.prog 12 #[.agg #[.int .i64 p.args, .slice A1 p.cs.length c1, .slice A2 p.code.length c2]] w fun e w' => ∃ B1 B2 d1 d2, e = .returned (.agg #[.int .i64 p.args, .slice B1 p.cs.length d1, .slice B2 p.code.length d2]) ∧ OwnP p w.heap.size w' B1 B2 d1 d2 ∧ Below w.heap.size w w' := by
  obtain ⟨iv, hv0, hv1, hv2, hv3⟩ := info_parts info_val
  obtain ⟨ii, hi0, hi1, hi2, hi3⟩ := info_parts info_ins
  obtain ⟨W, hW⟩ : ∃ W, W = (w.alloc (.cells #[.int .i64 p.args, .slice A1 p.cs.length c1, .slice A2 p.code.length c2] 29)).alloc (.cells #[.int .i64 0, .slice none 0 0, .slice none 0 0] 29) := ⟨_, rfl⟩
  have hB0 : Hid (Below w.heap.size w W) := hid (by subst hW; exact ((Below.refl _ _).alloc (Nat.le_refl _) _).alloc (by simp) _)
  have kp : Hid (Blk W w.heap.size 29 #[.int .i64 p.args, .slice A1 p.cs.length c1, .slice A2 p.code.length c2]) := hid (by subst hW; exact (Blk.new w _ _).alloc _)
  have kz : Hid (Blk W (w.heap.size + 1) 29 #[.int .i64 0, .slice none 0 0, .slice none 0 0]) := hid (by subst hW; exact Blk.new' _ _ _ (by simp))
  have hsz : Hid (W.heap.size = w.heap.size + 1 + 1) := hid (by subst hW; simp)
  have hrc : Hid (∀ W, Below w.heap.size w W → Rd (fun b => b < w.heap.size) W 3 A1 p.cs.length (vcells p.cs)) := hid fun W hb => hp.c.all.below hb fun b h => h
  have hri : Hid (∀ W, Below w.heap.size w W → Rd (fun b => b < w.heap.size) W 2 A2 p.code.length (icells p.code)) := hid fun W hb => hp.i.all.below hb fun b h => h
  have hl := hid hp.l
  clear hp
  go_enter Try.func12, Try.ntmps12
  go_upto_region 1 with fail
  rw [← hW]
  clear hW
  have x1 : W.cell? ⟨w.heap.size, 1, none⟩ = some (.slice A1 p.cs.length c1) := kp.out.cell 1
  have hlp := kp.out.lt
  go_upto_region 2 with (
    at_builtin
    refine wpList_copy_rd W rfl (.tmp 3) (.tmp 5) 26 rfl 51 iv _ 3 32 Try.underlying26 hv0 hv1 hv2 hv3 rfl (by omega) W.heap.size rfl rfl _ A1 p.cs.length c1 (vcells p.cs) rfl (hrc.out _ hB0.out) (by intro u hu; unfold vcells at hu; obtain ⟨v, _, hv⟩ := List.mem_flatMap.1 hu; unfold Vl.cells at hv; simp at hv; rcases hv with rfl | rfl | rfl <;> rfl) (by have := hl.out.1; simp only [maxLen]; omega) (by have := hl.out.1; omega) ?_
    intro B1 d1 w1 hown1 hb1
    have k1 := hid (kp.out.below_all hb1)
    have z1 := hid (kz.out.below_all hb1)
    have h1 := hid hown1
    have hB1 := hid (hB0.out.trans (hb1.mono hB0.out.size))
    have hs1 := hid hb1.size
    have hlp1 := (kp.out.below_all hb1).lt
    have fp1 := fun q => (kp.out.below_all hb1).frozen q
    have y1 : w1.cell? ⟨w.heap.size, 1, none⟩ = some (.slice A1 p.cs.length c1) := (kp.out.below_all hb1).cell 1
    clear hown1 hb1 x1 hlp)
  have U2 : Upd (fun k => k = w.heap.size) w1 (w1.setCell ⟨w.heap.size, 1, none⟩ (.slice B1 p.cs.length d1)) := (Upd.refl (fun k => k = w.heap.size) w1).setCell (p := ⟨w.heap.size, 1, none⟩) (fun _ => rfl) _
  have k2 := hid (show Blk (w1.setCell ⟨w.heap.size, 1, none⟩ (.slice B1 p.cs.length d1)) w.heap.size 29 #[.int .i64 p.args, .slice B1 p.cs.length d1, .slice A2 p.code.length c2] from by simpa using k1.out.set_ 1 (.slice B1 p.cs.length d1))
  have z2 := hid (z1.out.upd U2 (by omega))
  have h2 := hid (own_updB h1.out U2 fun k hk _ e => by have := hsz.out; omega)
  have hB2 := hid (hB1.out.setCell (p := ⟨w.heap.size, 1, none⟩) (Nat.le_refl _) (.slice B1 p.cs.length d1))
  have hs2 := hid (show W.heap.size ≤ (w1.setCell ⟨w.heap.size, 1, none⟩ (.slice B1 p.cs.length d1)).heap.size by have := hs1.out; simpa [World.setCell] using this)
  generalize w1.setCell ⟨w.heap.size, 1, none⟩ (.slice B1 p.cs.length d1) = w2 at *
  clear U2 k1 z1 h1 hB1 y1 fp1 hlp1 hs1
  have x2 : w2.cell? ⟨w.heap.size, 2, none⟩ = some (.slice A2 p.code.length c2) := k2.out.cell 2
  have hlp := k2.out.lt
  go_upto_region 3 with (
    at_builtin
    refine wpList_copy_rd w2 rfl (.tmp 8) (.tmp 10) 27 rfl 49 ii _ 2 16 Try.underlying27 hi0 hi1 hi2 hi3 rfl (by omega) w2.heap.size rfl rfl _ A2 p.code.length c2 (icells p.code) rfl (hri.out _ hB2.out) (by intro u hu; unfold icells at hu; obtain ⟨v, _, hv⟩ := List.mem_flatMap.1 hu; unfold Is.cells at hv; simp at hv; rcases hv with rfl | rfl <;> rfl) (by have := hl.out.2; simp only [maxLen]; omega) (by have := hl.out.2; omega) ?_
    intro B2 d2 w3 hown3 hb3
    have k3 := hid (k2.out.below_all hb3)
    have z3 := hid (z2.out.below_all hb3)
    have h3 := hid hown3
    have h23 := hid (own_below h2.out hb3)
    have hB3 := hid (hB2.out.trans (hb3.mono hB2.out.size))
    have hs3 := hid hb3.size
    have hlp1 := (k2.out.below_all hb3).lt
    have fp1 := fun q => (k2.out.below_all hb3).frozen q
    have y1 : w3.cell? ⟨w.heap.size, 2, none⟩ = some (.slice A2 p.code.length c2) := (k2.out.below_all hb3).cell 2
    clear hown3 hb3 x2 hlp)
  have U4 : Upd (fun k => k = w.heap.size) w3 (w3.setCell ⟨w.heap.size, 2, none⟩ (.slice B2 p.code.length d2)) := (Upd.refl (fun k => k = w.heap.size) w3).setCell (p := ⟨w.heap.size, 2, none⟩) (fun _ => rfl) _
  have k4 : Blk (w3.setCell ⟨w.heap.size, 2, none⟩ (.slice B2 p.code.length d2)) w.heap.size 29 #[.int .i64 p.args, .slice B1 p.cs.length d1, .slice B2 p.code.length d2] := by simpa using k3.out.set_ 2 (.slice B2 p.code.length d2)
  have z4 := z3.out.upd U4 (by omega)
  have h14 := own_updB h23.out U4 fun k hk _ e => by have := hsz.out; omega
  have h24 := own_updB h3.out U4 fun k hk _ e => by have := hsz.out; have := hs2.out; omega
  have hB4 := hB3.out.setCell (p := ⟨w.heap.size, 2, none⟩) (Nat.le_refl _) (.slice B2 p.code.length d2)
  have hs4 : W.heap.size ≤ (w3.setCell ⟨w.heap.size, 2, none⟩ (.slice B2 p.code.length d2)).heap.size := by have := hs2.out; have := hs3.out; simp [World.setCell]; omega
  generalize w3.setCell ⟨w.heap.size, 2, none⟩ (.slice B2 p.code.length d2) = w4 at *
  clear U4 k3 z3 h3 h23 hB3 y1 fp1 hlp1 hs3 k2 z2 h2 hB2
  have x0 : w4.cell? ⟨w.heap.size, 0, none⟩ = some (.int .i64 p.args) := k4.cell 0
  have x1 : w4.cell? ⟨w.heap.size, 1, none⟩ = some (.slice B1 p.cs.length d1) := k4.cell 1
  have x2 : w4.cell? ⟨w.heap.size, 2, none⟩ = some (.slice B2 p.code.length d2) := k4.cell 2
  have y0 : w4.cell? ⟨w.heap.size + 1, 0, none⟩ = some (.int .i64 0) := z4.cell 0
  have y1 : w4.cell? ⟨w.heap.size + 1, 1, none⟩ = some (.slice none 0 0) := z4.cell 1
  have y2 : w4.cell? ⟨w.heap.size + 1, 2, none⟩ = some (.slice none 0 0) := z4.cell 2
  have fz := fun q => z4.frozen q
  have hlz := z4.lt
  have H14 := hid h14; have H24 := hid h24; have HB4 := hid hB4; have Z4 := hid z4; have HS4 := hid hs4
  clear k4 h14 h24 hB4 z4 hs4
  go_wp2_with fail
  have U5 : Upd (fun k => k = w.heap.size + 1) w4 (((w4.setCell ⟨w.heap.size + 1, 0, none⟩ (.int .i64 p.args)).setCell ⟨w.heap.size + 1, 1, none⟩ (.slice B1 p.cs.length d1)).setCell ⟨w.heap.size + 1, 2, none⟩ (.slice B2 p.code.length d2)) := (((Upd.refl (fun k => k = w.heap.size + 1) w4).setCell (p := ⟨w.heap.size + 1, 0, none⟩) (fun _ => rfl) _).setCell (p := ⟨w.heap.size + 1, 1, none⟩) (fun _ => rfl) _).setCell (p := ⟨w.heap.size + 1, 2, none⟩) (fun _ => rfl) _
  refine bodyPost_ret (v := .agg #[.int .i64 p.args, .slice B1 p.cs.length d1, .slice B2 p.code.length d2]) ?_ rfl ⟨B1, B2, d1, d2, rfl, ⟨own_base (by have := hsz.out; omega) (own_updB H14.out U5 fun k hk _ e => by have := hsz.out; omega), own_base (by have := hsz.out; have := hs2.out; omega) (own_updB H24.out U5 fun k hk _ e => by have := hsz.out; have := hs2.out; omega)⟩, HB4.out.trans (U5.below HB4.out.size fun k hk e => by omega)⟩
  exact results_cell_row (P := Try.prog) rfl _ _ (w.heap.size + 1) 29 _ (0, 0) _ rfl (show Blk _ _ _ #[.int .i64 p.args, .slice B1 p.cs.length d1, .slice B2 p.code.length d2] from by simpa using ((Z4.out.set_ 0 _).set_ 1 _).set_ 2 _) Try.underlying29 rfl (by kernel_rfl)
end Go.Proofs.Ytbakfkhmopebnaa

namespace Go.Proofs.Ytbakfkhmopebnaa
open Go.RowKit
set_option linter.unusedVariables false
set_option linter.unusedSimpArgs false

theorem rd_int {S : Nat → Prop} {w : World} {A : Option Addr} {l : List Int} {k : Nat} (h : Rd S w 1 A l.length (l.map (Value.int .i64))) (hk : k < l.length) : ∃ b o, A = some ⟨b, o, none⟩ ∧ b < w.heap.size ∧ w.cell? ⟨b, o + k, none⟩ = some (.int .i64 l[k]) := by
  obtain ⟨b, o, e, hS, hl, hc⟩ := Rd.at_ h hk
  exact ⟨b, o, e, hl, hc k _ (by rw [List.getElem?_map, List.getElem?_eq_getElem hk]; rfl)⟩
set_option maxRecDepth 100000 in
set_option maxHeartbeats 1000000 in
theorem ints_any (S S' : Nat → Prop) (l m : List Int) (A B : Option Addr) (c d : Nat) (w : World) (ha : Rd S w 1 A l.length (l.map (Value.int .i64))) (hb : Rd S' w 1 B m.length (m.map (Value.int .i64))) (hl : l.length ≤ 1000000000) :
    Calls Try.prog 18 #[.slice A l.length c, .slice B m.length d] w fun e w' => e = .returned (.bool (decide (l = m))) ∧ Below w.heap.size w w' := by
  have hra := hid ha; have hrb := hid hb; have hll := hid hl
  clear ha hb hl
  by_cases hlen : l.length = m.length
  · have t1 : ((l.length : Int) != (m.length : Int)) = false := by simp [hlen]
    have hlh := hid hlen
    clear hlen
    go_enter Try.func18, Try.ntmps18
    go_wp2_with fail
    clear t1
    go_loopw [5] (fun v wr => ∃ k : Nat, v = .int .i64 k ∧ k ≤ l.length ∧ (∀ j, j < k → l[j]? = m[j]?) ∧ Below w.heap.size w wr) (fun v _ => l.length - (intOf v).toNat)
    case atStart => exact ⟨0, rfl, Nat.zero_le _, fun j h => absurd h (by omega), Below.refl _ _⟩
    case round =>
      obtain ⟨k, rfl, hk, hj0, hB0⟩ := hrel
      have hj := hid hj0; have hB := hid hB0
      clear hj0 hB0
      by_cases hlt : k < l.length
      · have i1 : (k : Int) < (l.length : Int) := by omega
        have hlt2 : k < m.length := by have := hlh.out; omega
        have i2 : (k : Int) < (m.length : Int) := by omega
        obtain ⟨b1, o1, hA, hb1, a0⟩ := rd_int (hra.out.below_all hB.out) hlt
        obtain ⟨b2, o2, hBB, hb2, a1⟩ := rd_int (hrb.out.below_all hB.out) hlt2
        have hg1 : l[k]? = some l[k] := List.getElem?_eq_getElem hlt
        have hg2 : m[k]? = some m[k] := List.getElem?_eq_getElem hlt2
        have hks := hid (show k + 1 ≤ 1000000000 by have := hll.out; omega)
        have hkl := hid hlt
        generalize l[k] = x at *
        generalize m[k] = y at *
        subst hA
        subst hBB
        clear hlt hlt2 hk
        by_cases hxy : x = y
        · have t2 : (x != y) = false := by simpa using hxy
          have hj2 := hid (show ∀ j, j < k + 1 → l[j]? = m[j]? from fun j h => by
            by_cases e : j = k
            · rw [e, hg1, hg2, hxy]
            · exact hj.out j (by omega))
          have hw := hid (show wrap64 ((k : Int) + 1) = ((k + 1 : Nat) : Int) by have := hks.out; unfold wrap64; omega)
          clear hxy hg1 hg2 hj
          go_upto_region 6 with fail
          go_quiet (fail)
          go_wp2_with fail
          go_roundw
          case rel => exact ⟨k + 1, by first | rw [hw.out] | (have := hw.out; unfold wrap64 at this; rw [IntKind.wrap_i64]; rw [this]), hkl.out, hj2.out, hB.out.trans (below_drewN (Below.refl _ _) _)⟩
          case measure =>
            first | rw [hw.out] | skip
            have h2 := hkl.out
            show l.length - (((k + 1 : Nat) : Int)).toNat < l.length - ((k : Nat) : Int).toNat
            rw [Int.toNat_natCast, Int.toNat_natCast]
            omega
        · have t2 : (x != y) = true := by simpa using hxy
          have hne : Hid (decide (l = m) = false) := hid (decide_eq_false fun e => by rw [e] at hg1; rw [hg1] at hg2; injection hg2 with hg2; exact hxy hg2)
          clear hxy hg1 hg2 hj
          go_upto_region 6 with fail
          go_quiet (fail)
          go_wp2_with fail
          go_ret
          exact ⟨by rw [hne.out]; rfl, hB.out.trans (below_drewN (Below.refl _ _) _)⟩
      · have i1 : ¬ ((k : Int) < (l.length : Int)) := by omega
        have heq : Hid (decide (l = m) = true) := hid (decide_eq_true (List.ext_getElem? fun j => by
          by_cases h : j < k
          · exact hj.out j h
          · rw [List.getElem?_eq_none (by omega), List.getElem?_eq_none (by have := hlh.out; omega)]))
        clear hlt hk hj
        go_wp2_with fail
        go_ret
        exact ⟨by rw [heq.out]; rfl, hB.out⟩
  · have t1 : ((l.length : Int) != (m.length : Int)) = true := by simp; omega
    have hne : Hid (decide (l = m) = false) := hid (decide_eq_false fun e => hlen (by rw [e]))
    clear hlen
    go_enter Try.func18, Try.ntmps18
    go_wp2_with fail
    go_ret
    exact ⟨by rw [hne.out]; rfl, Below.refl _ _⟩
theorem run_eqIns (a b : Is) (w : World) :
    (Op.equalIn 10000 49 (.agg #[.int .i64 a.op, .int .i64 a.n]) (.agg #[.int .i64 b.op, .int .i64 b.n])).run Try.prog w = .ok (decide (a = b)) w := by
  have ht : Try.prog.underlying 49 = some (.struct (Try.prog.fieldsOf 49)) := by kernel_rfl
  have hp : Try.prog.stoodInHeld 49 = false := by kernel_rfl
  rw [run_equalIn_agg w 9999 _ _ _ ht hp]
  have e : decide (a = b) = (a.op == b.op && (a.n == b.n)) := by
    rw [Bool.eq_iff_iff]
    simp only [decide_eq_true_eq, Bool.and_eq_true, beq_iff_eq]
    exact ⟨fun e => by subst e; simp, fun ⟨h1, h2⟩ => by cases a; cases b; simp_all⟩
  rw [e]
  clear ht hp e
  simp only [Program.fieldsOf, Try.underlying49]
  go_simp
  by_cases h1 : a.op = b.op <;> by_cases h2 : a.n = b.n <;> simp [h1, h2]
theorem neqIns (a b : Is) (w : World) : (binOp .neq 49 (.agg #[.int .i64 a.op, .int .i64 a.n]) (.agg #[.int .i64 b.op, .int .i64 b.n])).run Try.prog w = .ok (.bool (!decide (a = b))) w := by
  rw [run_neq_struct, run_eqIns]; simp only [Result.andThen]
theorem neqVal (a b : Vl) (w : World) : (binOp .neq 51 (.agg #[.int .i64 a.k, .int .i64 a.n, .string a.s]) (.agg #[.int .i64 b.k, .int .i64 b.n, .string b.s])).run Try.prog w = .ok (.bool (!decide (a = b))) w := by
  rw [run_neq_struct, run_eqVal]; simp only [Result.andThen]
theorem guardIns : Try.prog.eqGuardType Try.prog.depth 49 = false := by kernel_rfl
set_option maxRecDepth 100000 in
set_option maxHeartbeats 2000000 in
theorem rsame_any (p q : Pr) (S S' : Nat → Prop) (A1 A2 B1 B2 : Option Addr) (c1 c2 d1 d2 : Nat) (w : World) (hp : PrIn S w A1 A2 p) (hq : PrIn S' w B1 B2 q) :
    Calls Try.prog 20 #[.agg #[.int .i64 p.args, .slice A1 p.cs.length c1, .slice A2 p.code.length c2], .agg #[.int .i64 q.args, .slice B1 q.cs.length d1, .slice B2 q.code.length d2]] w fun e w' => e = .returned (.bool (decide (p = q))) ∧ Below w.heap.size w w' := by
  have gV := guardVal
  have gI := guardIns
  obtain ⟨W, hW⟩ : ∃ W, W = (w.alloc (.cells #[.int .i64 p.args, .slice A1 p.cs.length c1, .slice A2 p.code.length c2] 29)).alloc (.cells #[.int .i64 q.args, .slice B1 q.cs.length d1, .slice B2 q.code.length d2] 29) := ⟨_, rfl⟩
  have hB9 : Hid (Below w.heap.size w W) := hid (by subst hW; exact ((Below.refl _ _).alloc (Nat.le_refl _) _).alloc (by simp) _)
  have kx : Hid (Blk W (w.heap.size) 29 #[.int .i64 p.args, .slice A1 p.cs.length c1, .slice A2 p.code.length c2]) := hid (by subst hW; exact (Blk.new w _ _).alloc _)
  have ky : Hid (Blk W (w.heap.size + 1) 29 #[.int .i64 q.args, .slice B1 q.cs.length d1, .slice B2 q.code.length d2]) := hid (by subst hW; exact Blk.new' _ _ _ (by simp))
  have hP : Hid (∀ W', Below W.heap.size W W' → PrIn S W' A1 A2 p) := hid fun W' hb => hp.below (hB9.out.trans (hb.mono hB9.out.size))
  have hQ : Hid (∀ W', Below W.heap.size W W' → PrIn S' W' B1 B2 q) := hid fun W' hb => hq.below (hB9.out.trans (hb.mono hB9.out.size))
  have hlcs := hid hp.l.1; have hlcode := hid hp.l.2
  have x0 : W.cell? ⟨w.heap.size, 0, none⟩ = some (.int .i64 p.args) := kx.out.cell 0
  have x1 : W.cell? ⟨w.heap.size, 1, none⟩ = some (.slice A1 p.cs.length c1) := kx.out.cell 1
  have x2 : W.cell? ⟨w.heap.size, 2, none⟩ = some (.slice A2 p.code.length c2) := kx.out.cell 2
  have y0 : W.cell? ⟨w.heap.size + 1, 0, none⟩ = some (.int .i64 q.args) := ky.out.cell 0
  have y1 : W.cell? ⟨w.heap.size + 1, 1, none⟩ = some (.slice B1 q.cs.length d1) := ky.out.cell 1
  have y2 : W.cell? ⟨w.heap.size + 1, 2, none⟩ = some (.slice B2 q.code.length d2) := ky.out.cell 2
  clear hp hq
  by_cases ha : p.args = q.args
  · have t1 : (p.args != q.args) = false := by simpa using ha
    have hae := hid ha
    by_cases hc : p.cs.length = q.cs.length
    · have t2 : ((p.cs.length : Int) != (q.cs.length : Int)) = false := by simp [hc]
      have hlenC := hid hc
      by_cases hi : p.code.length = q.code.length
      · have t3 : ((p.code.length : Int) != (q.code.length : Int)) = false := by simp [hi]
        have hlenI := hid hi
        clear ha hc hi
        go_enter Try.func20, Try.ntmps20
        go_upto_region 1 with fail
        rw [← hW]
        clear hW
        go_wp2_with fail
        clear x0 x1 x2 y0 y1 y2
        clear t1 t2 t3
        go_loopw [5] (fun v wr => ∃ k : Nat, v = .int .i64 k ∧ k ≤ p.cs.length ∧ (∀ j, j < k → p.cs[j]? = q.cs[j]?) ∧ Below W.heap.size W wr) (fun v _ => p.cs.length - (intOf v).toNat)
        case atStart => exact ⟨0, rfl, Nat.zero_le _, fun j h => absurd h (by omega), Below.refl _ _⟩
        case round =>
          obtain ⟨k, rfl, hk, hj0, hB0⟩ := hrel
          have hj := hid hj0; have hB := hid hB0
          clear hj0 hB0
          have x0 : wr.cell? ⟨w.heap.size, 0, none⟩ = some (.int .i64 p.args) := (kx.out.below_all hB.out).cell 0
          have x1 : wr.cell? ⟨w.heap.size, 1, none⟩ = some (.slice A1 p.cs.length c1) := (kx.out.below_all hB.out).cell 1
          have x2 : wr.cell? ⟨w.heap.size, 2, none⟩ = some (.slice A2 p.code.length c2) := (kx.out.below_all hB.out).cell 2
          have y0 : wr.cell? ⟨w.heap.size + 1, 0, none⟩ = some (.int .i64 q.args) := (ky.out.below_all hB.out).cell 0
          have y1 : wr.cell? ⟨w.heap.size + 1, 1, none⟩ = some (.slice B1 q.cs.length d1) := (ky.out.below_all hB.out).cell 1
          have y2 : wr.cell? ⟨w.heap.size + 1, 2, none⟩ = some (.slice B2 q.code.length d2) := (ky.out.below_all hB.out).cell 2
          by_cases hlt : k < p.cs.length
          · have i1 : (k : Int) < (p.cs.length : Int) := by omega
            have hlt2 : k < q.cs.length := by have := hlenC.out; omega
            have i2 : (k : Int) < (q.cs.length : Int) := by omega
            obtain ⟨b1, o1, hA, hb1, a0, a1, a2⟩ := (hP.out _ hB.out).c.val_at hlt
            obtain ⟨b2, o2, hBB, hb2, e0, e1, e2⟩ := (hQ.out _ hB.out).c.val_at hlt2
            have hg1 : p.cs[k]? = some p.cs[k] := List.getElem?_eq_getElem hlt
            have hg2 : q.cs[k]? = some q.cs[k] := List.getElem?_eq_getElem hlt2
            have hks := hid (show k + 1 ≤ 1000000000 by have := hlcs.out; omega)
            have hkl := hid hlt
            have hek := neqVal p.cs[k] q.cs[k]
            generalize p.cs[k] = u at *
            generalize q.cs[k] = v at *
            subst hA
            subst hBB
            clear hlt hlt2 hk
            by_cases hxy : u = v
            · have t2 : decide (u = v) = true := decide_eq_true hxy
              simp only [t2, Bool.not_true, Bool.not_false] at hek
              have hj2 := hid (show ∀ j, j < k + 1 → p.cs[j]? = q.cs[j]? from fun j h => by
                by_cases e : j = k
                · rw [e, hg1, hg2, hxy]
                · exact hj.out j (by omega))
              have hw := hid (show wrap64 ((k : Int) + 1) = ((k + 1 : Nat) : Int) by have := hks.out; unfold wrap64; omega)
              clear hxy hg1 hg2 hj t2
              go_upto_region 6 with fail
              go_quiet (fail)
              go_wp2_with fail
              go_roundw
              case rel => exact ⟨k + 1, by rw [hw.out], hkl.out, hj2.out, hB.out.trans (below_drewN ((Below.refl _ _).mono hB.out.size) _)⟩
              case measure =>
                rw [hw.out]
                have h2 := hkl.out
                show p.cs.length - (((k + 1 : Nat) : Int)).toNat < p.cs.length - ((k : Nat) : Int).toNat
                rw [Int.toNat_natCast, Int.toNat_natCast]
                omega
            · have t2 : decide (u = v) = false := decide_eq_false hxy
              simp only [t2, Bool.not_true, Bool.not_false] at hek
              have hne : Hid (decide (p = q) = false) := hid (decide_eq_false fun e => by rw [e] at hg1; rw [hg1] at hg2; injection hg2 with hg2; exact hxy hg2)
              clear hxy hg1 hg2 hj t2
              go_upto_region 6 with fail
              go_quiet (fail)
              go_wp2_with fail
              go_ret
              exact ⟨by rw [hne.out]; rfl, (hB9.out.trans (hB.out.mono hB9.out.size)).trans (below_drewN ((Below.refl _ _).mono (Nat.le_trans hB9.out.size hB.out.size)) _)⟩
          · have i1 : ¬ ((k : Int) < (p.cs.length : Int)) := by omega
            have heqcs : Hid (p.cs = q.cs) := hid (List.ext_getElem? fun j => by
              by_cases h : j < k
              · exact hj.out j h
              · rw [List.getElem?_eq_none (by omega), List.getElem?_eq_none (by have := hlenC.out; omega)])
            clear hlt hk hj
            go_wp2_with fail
            clear x0 x1 x2 y0 y1 y2
            go_loopw [6] (fun v wr => ∃ k : Nat, v = .int .i64 k ∧ k ≤ p.code.length ∧ (∀ j, j < k → p.code[j]? = q.code[j]?) ∧ Below W.heap.size W wr) (fun v _ => p.code.length - (intOf v).toNat)
            case atStart => exact ⟨0, rfl, Nat.zero_le _, fun j h => absurd h (by omega), hB.out⟩
            case round =>
              clear hB i1
              obtain ⟨k, rfl, hk, hj0, hB0⟩ := hrel
              have hj := hid hj0; have hB := hid hB0
              clear hj0 hB0
              have x0 : wr.cell? ⟨w.heap.size, 0, none⟩ = some (.int .i64 p.args) := (kx.out.below_all hB.out).cell 0
              have x1 : wr.cell? ⟨w.heap.size, 1, none⟩ = some (.slice A1 p.cs.length c1) := (kx.out.below_all hB.out).cell 1
              have x2 : wr.cell? ⟨w.heap.size, 2, none⟩ = some (.slice A2 p.code.length c2) := (kx.out.below_all hB.out).cell 2
              have y0 : wr.cell? ⟨w.heap.size + 1, 0, none⟩ = some (.int .i64 q.args) := (ky.out.below_all hB.out).cell 0
              have y1 : wr.cell? ⟨w.heap.size + 1, 1, none⟩ = some (.slice B1 q.cs.length d1) := (ky.out.below_all hB.out).cell 1
              have y2 : wr.cell? ⟨w.heap.size + 1, 2, none⟩ = some (.slice B2 q.code.length d2) := (ky.out.below_all hB.out).cell 2
              by_cases hlt : k < p.code.length
              · have i1 : (k : Int) < (p.code.length : Int) := by omega
                have hlt2 : k < q.code.length := by have := hlenI.out; omega
                have i2 : (k : Int) < (q.code.length : Int) := by omega
                obtain ⟨b1, o1, hA, hb1, a0, a1⟩ := (hP.out _ hB.out).i.ins_at hlt
                obtain ⟨b2, o2, hBB, hb2, e0, e1⟩ := (hQ.out _ hB.out).i.ins_at hlt2
                have hg1 : p.code[k]? = some p.code[k] := List.getElem?_eq_getElem hlt
                have hg2 : q.code[k]? = some q.code[k] := List.getElem?_eq_getElem hlt2
                have hks := hid (show k + 1 ≤ 1000000000 by have := hlcode.out; omega)
                have hkl := hid hlt
                have hek := neqIns p.code[k] q.code[k]
                generalize p.code[k] = u at *
                generalize q.code[k] = v at *
                subst hA
                subst hBB
                clear hlt hlt2 hk
                by_cases hxy : u = v
                · have t2 : decide (u = v) = true := decide_eq_true hxy
                  simp only [t2, Bool.not_true, Bool.not_false] at hek
                  have hj2 := hid (show ∀ j, j < k + 1 → p.code[j]? = q.code[j]? from fun j h => by
                    by_cases e : j = k
                    · rw [e, hg1, hg2, hxy]
                    · exact hj.out j (by omega))
                  have hw := hid (show wrap64 ((k : Int) + 1) = ((k + 1 : Nat) : Int) by have := hks.out; unfold wrap64; omega)
                  clear hxy hg1 hg2 hj t2
                  go_upto_region 11 with fail
                  go_quiet (fail)
                  go_wp2_with fail
                  go_roundw
                  case rel => exact ⟨k + 1, by rw [hw.out], hkl.out, hj2.out, hB.out.trans (below_drewN ((Below.refl _ _).mono hB.out.size) _)⟩
                  case measure =>
                    rw [hw.out]
                    have h2 := hkl.out
                    show p.code.length - (((k + 1 : Nat) : Int)).toNat < p.code.length - ((k : Nat) : Int).toNat
                    rw [Int.toNat_natCast, Int.toNat_natCast]
                    omega
                · have t2 : decide (u = v) = false := decide_eq_false hxy
                  simp only [t2, Bool.not_true, Bool.not_false] at hek
                  have hne : Hid (decide (p = q) = false) := hid (decide_eq_false fun e => by rw [e] at hg1; rw [hg1] at hg2; injection hg2 with hg2; exact hxy hg2)
                  clear hxy hg1 hg2 hj t2
                  go_upto_region 11 with fail
                  go_quiet (fail)
                  go_wp2_with fail
                  go_ret
                  exact ⟨by rw [hne.out]; rfl, (hB9.out.trans (hB.out.mono hB9.out.size)).trans (below_drewN ((Below.refl _ _).mono (Nat.le_trans hB9.out.size hB.out.size)) _)⟩
              · have i1 : ¬ ((k : Int) < (p.code.length : Int)) := by omega
                have heqcode : Hid (p.code = q.code) := hid (List.ext_getElem? fun j => by
                  by_cases h : j < k
                  · exact hj.out j h
                  · rw [List.getElem?_eq_none (by omega), List.getElem?_eq_none (by have := hlenI.out; omega)])
                clear hlt hk hj
                go_wp2_with fail
                go_ret
                exact ⟨by rw [show decide (p = q) = true from decide_eq_true (by cases p; cases q; simp only at heqcs heqcode hae; rw [heqcs.out, heqcode.out, hae.out])]; rfl, hB9.out.trans (hB.out.mono hB9.out.size)⟩
      · have t3 : ((p.code.length : Int) != (q.code.length : Int)) = true := by simp; omega
        have hne : Hid (decide (p = q) = false) := hid (decide_eq_false fun e => hi (by rw [e]))
        clear ha hc hi
        go_enter Try.func20, Try.ntmps20
        go_upto_region 1 with fail
        rw [← hW]
        clear hW
        go_wp2_with fail
        go_ret
        exact ⟨by rw [hne.out]; rfl, hB9.out⟩
    · have t2 : ((p.cs.length : Int) != (q.cs.length : Int)) = true := by simp; omega
      have hne : Hid (decide (p = q) = false) := hid (decide_eq_false fun e => hc (by rw [e]))
      clear ha hc
      go_enter Try.func20, Try.ntmps20
      go_upto_region 1 with fail
      rw [← hW]
      clear hW
      go_wp2_with fail
      go_ret
      exact ⟨by rw [hne.out]; rfl, hB9.out⟩
  · have t1 : (p.args != q.args) = true := by simpa using ha
    have hne : Hid (decide (p = q) = false) := hid (decide_eq_false fun e => ha (by rw [e]))
    clear ha
    go_enter Try.func20, Try.ntmps20
    go_upto_region 1 with fail
    rw [← hW]
    clear hW
    go_wp2_with fail
    go_ret
    exact ⟨by rw [hne.out]; rfl, hB9.out⟩

end Go.Proofs.Ytbakfkhmopebnaa

namespace Go.Proofs.Ytbakfkhmopebnaa
open Go.RowKit
set_option linter.unusedVariables false
set_option linter.unusedSimpArgs false

set_option maxRecDepth 100000 in
set_option maxHeartbeats 1000000 in
theorem vput_any (S : Nat → Prop) (A0 : Option Addr) (c0 : Nat) (bs : List Nat) (v : Vl) (w : World) (ha : Rd S w 1 A0 bs.length (bcells bs)) (hs : v.s.size ≤ 9223372036854775806) (hn1 : -9223372036854775808 ≤ v.n) (hn2 : v.n ≤ 9223372036854775807) (hl : bs.length ≤ 500000000) :
    Calls Try.prog 41 #[.slice A0 bs.length c0, .agg #[.int .i64 v.k, .int .i64 v.n, .string v.s]] w fun e w' => ∃ x, e = .returned x ∧ Cloned 5 1 (bcells (bs ++ vput v)) (bs ++ vput v).length w x w' := by
  obtain ⟨ib, hb0, hb1, hb2, hb3⟩ := info_parts info_u8
  have hgd := guardVal
  have hval := hid (fun W => valid_any v W hs)
  have hbl := hid hl
  have hnn := hid (And.intro hn1 hn2)
  have hB0 : Below w.heap.size w (w.alloc (.cells #[.int .i64 v.k, .int .i64 v.n, .string v.s] 51)) := (Below.refl _ _).alloc (Nat.le_refl _) _
  have hra0 := ha.below_all hB0
  have kb0 := Blk.new w 51 #[.int .i64 v.k, .int .i64 v.n, .string v.s]
  have hz0 : (w.alloc (.cells #[.int .i64 v.k, .int .i64 v.n, .string v.s] 51)).heap.size = w.heap.size + 1 := by simp
  have hB1 := hid hB0; have kb := hid kb0; have kb1 := hid kb0; have hz1 := hid hz0
  go_enter Try.func41, Try.ntmps41
  go_upto_region 1 with fail
  generalize w.alloc (.cells #[.int .i64 v.k, .int .i64 v.n, .string v.s] 51) = W1 at *
  have hra := hid (hra0.alloc (.cells #[] 5))
  have hgW := hid (show w.heap.size < W1.heap.size by rw [hz1.out]; omega)
  clear ha hs hn1 hn2 hl hB0 hra0 kb0 hz0
  go_wp2_with (
    at_builtin
    refine wpList_append_rd _ rfl (.tmp 6) (.tmp 7) 39 rfl W1.heap.size 5 ib _ 1 1 Try.underlying39 hb0 hb1 hb2 hb3 rfl (by omega) (.slice (some ⟨W1.heap.size, 0, none⟩) 0 0) 0 [] rfl (own_empty W1 5 1) S A0 bs.length c0 (bcells bs) rfl hra.out (bcells_one bs) (by simp only [maxLen]; have := hbl.out; omega) (by have := hbl.out; omega) (by simp) ?_
    intro v2 w2 hown0 hg0 hat0
    have hB20 := below_of_copy hg0
    obtain ⟨A2, c2, rfl, _⟩ := own_form hown0
    have hown2 : Hid (w2.ownsRow W1.heap.size 5 1 (.slice A2 bs.length c2) bs.length (bcells bs)) := hid (by simpa using hown0)
    have hB2 := hid hB20
    have kb2 := hid (kb.out.below_all hB20)
    have x0 := kb2.out.cell 0
    have x1 := kb2.out.cell 1
    have x2 := kb2.out.cell 2
    simp only [List.getElem?_toArray, List.getElem?_cons_zero, List.getElem?_cons_succ] at x0 x1 x2
    rw [Nat.zero_add]
    clear hown0 hB20 hg0 hat0 kb)
  refine (hval.out _).mono ?_
  rintro e w3 ⟨rfl, hb30⟩
  have hB3 := hid (hB2.out.trans (hb30.mono hB2.out.size))
  have hown3 := hid (own_below hown2.out hb30)
  have kb3 := hid (kb2.out.below_all hb30)
  clear hb30 x0 x1 x2 kb2 hown2 hB2 hra
  cases hok : v.ok with
  | false =>
    have hf := hid (show vput v = [] by unfold vput; rw [hok]; rfl)
    clear hok
    go_wp2_with fail
    go_ret
    refine ⟨_, rfl, ?_, hB1.out.trans (hB3.out.mono (by have := hgW.out; omega))⟩
    rw [hf.out, List.append_nil]
    exact own_base (by have := hgW.out; omega) hown3.out
  | true =>
    rcases ok_forms hok with rfl | ⟨hk, hs0⟩ | ⟨hk, hn0, hs64', hok2⟩
    · have hf := hid (show vput vl0 = [0] by rfl)
      unfold vl0 at kb3
      have y0 := kb3.out.cell 0
      have y1 := kb3.out.cell 1
      have y2 := kb3.out.cell 2
      simp only [List.getElem?_toArray, List.getElem?_cons_zero, List.getElem?_cons_succ] at y0 y1 y2
      clear hok
      go_wp2_with (
        at_builtin
        refine wpList_append_rd _ rfl (.tmp 34) (.tmp 35) 39 rfl W1.heap.size 5 ib _ 1 1 Try.underlying39 hb0 hb1 hb2 hb3 rfl (by omega) (.slice A2 bs.length c2) bs.length (bcells bs) rfl (hown3.out.alloc _) (fun b => b = w3.heap.size) (some ⟨w3.heap.size, 0, none⟩) 1 1 [.int .u8 (0)] rfl (Rd.new w3 5 1 1 #[.int .u8 (0)] _ rfl rfl) (by intro u hu; simp at hu; subst hu; rfl) (by simp only [maxLen]; have := hbl.out; omega) (by have := hbl.out; omega) (by have := hB3.out.size; simp; omega) ?_
        intro v4 w4 hown4 hg4 hat4
        have hb4 := hid ((hB3.out.alloc hB3.out.size (.cells #[.int .u8 (0)] 5)).grown hg4 (by have := hB3.out.size; simp; omega) fun k hk => (hown3.out.lt k hk).1)
        obtain ⟨A4, c4, rfl, _⟩ := own_form hown4
        have hown4 : w4.ownsRow W1.heap.size 5 1 (.slice A4 (bs.length + 1) c4) (bs.length + 1) (bcells (bs ++ [0])) := by rw [bcells_snoc]; exact hown4
        have hown4 := hid hown4
        clear hg4 hat4)
      go_ret
      refine ⟨_, rfl, ?_, hB1.out.trans (hb4.out.mono (by have := hgW.out; omega))⟩
      rw [hf.out]
      simpa using own_base (base' := w.heap.size) (by have := hgW.out; omega) hown4.out
    · have hf := hid (show vput v = 1 :: putU (zig v.n) by unfold vput; rw [if_pos hok, if_pos hk])
      obtain ⟨k, n, s⟩ := v
      simp only at hk hs0 hnn hf
      subst hk
      have hnn := hnn.out
      clear hok
      go_upto_region 4 with fail
      have y0 := kb3.out.cell 0
      have y1 := kb3.out.cell 1
      have y2 := kb3.out.cell 2
      simp only [List.getElem?_toArray, List.getElem?_cons_zero, List.getElem?_cons_succ] at y0 y1 y2
      go_upto_region 5 with fail
      have y0 := y1
      clear y1 y2
      have hcon : Hid (∀ (A : Option Addr) (c : Nat) (W : World), Rd (fun b => W1.heap.size ≤ b) W 1 A (bs.length + 1) (bcells bs ++ [.int .u8 1]) → Calls Try.prog 69 #[.slice A (bs.length + 1) c, .int .i64 n] W fun e w' => ∃ x, e = .returned x ∧ Cloned 5 1 (bcells (bs ++ 1 :: putU (zig n))) (bs ++ 1 :: putU (zig n)).length W x w') := hid fun A c W h => by
        have h2 : Rd (fun b => W1.heap.size ≤ b) W 1 A (bs ++ [1]).length (bcells (bs ++ [1])) := by rw [bcells_snoc, List.length_append]; exact h
        have h3 := putInt_any _ A c (bs ++ [1]) n W h2 hnn.1 hnn.2 (by simp; have := hbl.out; omega)
        have hl1 : (bs ++ [1]).length = bs.length + 1 := by simp
        rw [List.append_assoc, hl1] at h3
        exact h3
      have y3 : (w3.alloc (.cells #[.int .u8 1] 5)).cell? ⟨w.heap.size, 1, none⟩ = some (.int .i64 n) := (kb1.out.below_all (hB3.out.alloc hB3.out.size _)).cell 1
      go_region_held3 (fun w' => w'.cell? ⟨w.heap.size, 1, none⟩ = some (.int .i64 n)) (first | exact y0 | exact y3 | exact y1 | exact y2)
        ((first
          | (go_at_call 69
             refine (hcon.out A4 c4 _ hrd4.out).mono ?_
             rintro e w5 ⟨v, rfl, hown50, hb50⟩
             have hown5 := hid hown50
             have hb5 := hid (hb4.out.trans (hb50.mono hb4.out.size))
             have y2 : w5.cell? ⟨w.heap.size, 1, none⟩ = some (.int .i64 n) := (kb1.out.below_all hb5.out).cell 1
             clear hown50 hb50)
          | (refine step_append_rd (w3.alloc (.cells #[.int .u8 1] 5)).drew rfl (.tmp 18) (.tmp 19) 39 rfl W1.heap.size 5 ib _ 1 1 Try.underlying39 hb0 hb1 hb2 hb3 rfl (by omega) (.slice A2 bs.length c2) bs.length (bcells bs) rfl (World.ownsRow.drew (hown3.out.alloc _)) (fun b => b = w3.heap.size) (some ⟨w3.heap.size, 0, none⟩) 1 1 [.int .u8 1] rfl (Rd.new w3 5 1 1 #[.int .u8 1] w3.heap.size rfl rfl).drew (by intro u hu; simp at hu; subst hu; rfl) (by simp only [maxLen]; have := hbl.out; omega) (by have := hbl.out; omega) (by have := hB3.out.size; simp; omega) (bs.length + 1) rfl (bcells bs ++ [.int .u8 1]) rfl ?_
             intro A4 c4 w4 hown40 hg4 hat4
             have hb40 := ((hB3.out.alloc hB3.out.size (.cells #[.int .u8 1] 5)).drew).grown hg4 (by have := hB3.out.size; simp; omega) fun k hk => (hown3.out.lt k hk).1
             have hb4 := hid hb40
             have y1 : w4.cell? ⟨w.heap.size, 1, none⟩ = some (.int .i64 n) := (kb1.out.below_all hb40).cell 1
             have hrd4 := hid (Rd.of_own' hown40)
             clear hb40 hg4 hat4)))
      all_goals
        go_wp2_with fail
        go_ret
        refine ⟨_, rfl, ?_, hB1.out.trans (hb5.out.mono (by have := hgW.out; omega))⟩
        rw [hf.out]
        exact own_base (by have := hgW.out; have := hb4.out.size; omega) hown5.out
    · have hf := hid (show vput v = 2 :: (putU v.s.size ++ tb v.s) by unfold vput; rw [if_pos hok, if_neg (by omega), if_pos hk])
      obtain ⟨k, n, s⟩ := v
      simp only at hk hn0 hs64' hf
      subst hk
      have hs64 := hid hs64'
      clear hok hnn hs64'
      go_upto_region 4 with fail
      have y0 := kb3.out.cell 0
      have y1 := kb3.out.cell 1
      have y2 := kb3.out.cell 2
      simp only [List.getElem?_toArray, List.getElem?_cons_zero, List.getElem?_cons_succ] at y0 y1 y2
      go_upto_region 7 with fail
      have y0 := y2
      clear y1 y2
      have hcon : Hid (∀ (A : Option Addr) (c : Nat) (W : World), Rd (fun b => W1.heap.size ≤ b) W 1 A (bs.length + 1) (bcells bs ++ [.int .u8 2]) → Calls Try.prog 70 #[.slice A (bs.length + 1) c, .string s] W fun e w' => ∃ x, e = .returned x ∧ Cloned 5 1 (bcells (bs ++ 2 :: (putU s.size ++ tb s))) (bs ++ 2 :: (putU s.size ++ tb s)).length W x w') := hid fun A c W h => by
        have h2 : Rd (fun b => W1.heap.size ≤ b) W 1 A (bs ++ [2]).length (bcells (bs ++ [2])) := by rw [bcells_snoc, List.length_append]; exact h
        have h3 := putText_any _ A c (bs ++ [2]) s W h2 (by have := hs64.out; omega) (by simp; have := hbl.out; omega)
        have hl1 : (bs ++ [2]).length = bs.length + 1 := by simp
        rw [List.append_assoc, hl1] at h3
        exact h3
      have y3 : (w3.alloc (.cells #[.int .u8 2] 5)).cell? ⟨w.heap.size, 2, none⟩ = some (.string s) := (kb1.out.below_all (hB3.out.alloc hB3.out.size _)).cell 2
      go_region_held3 (fun w' => w'.cell? ⟨w.heap.size, 2, none⟩ = some (.string s)) (first | exact y0 | exact y3 | exact y1 | exact y2)
        ((first
          | (go_at_call 70
             refine (hcon.out A4 c4 _ hrd4.out).mono ?_
             rintro e w5 ⟨v, rfl, hown50, hb50⟩
             have hown5 := hid hown50
             have hb5 := hid (hb4.out.trans (hb50.mono hb4.out.size))
             have y2 : w5.cell? ⟨w.heap.size, 2, none⟩ = some (.string s) := (kb1.out.below_all hb5.out).cell 2
             clear hown50 hb50)
          | (refine step_append_rd (w3.alloc (.cells #[.int .u8 2] 5)).drew rfl (.tmp 28) (.tmp 29) 39 rfl W1.heap.size 5 ib _ 1 1 Try.underlying39 hb0 hb1 hb2 hb3 rfl (by omega) (.slice A2 bs.length c2) bs.length (bcells bs) rfl (World.ownsRow.drew (hown3.out.alloc _)) (fun b => b = w3.heap.size) (some ⟨w3.heap.size, 0, none⟩) 1 1 [.int .u8 2] rfl (Rd.new w3 5 1 1 #[.int .u8 2] w3.heap.size rfl rfl).drew (by intro u hu; simp at hu; subst hu; rfl) (by simp only [maxLen]; have := hbl.out; omega) (by have := hbl.out; omega) (by have := hB3.out.size; simp; omega) (bs.length + 1) rfl (bcells bs ++ [.int .u8 2]) rfl ?_
             intro A4 c4 w4 hown40 hg4 hat4
             have hb40 := ((hB3.out.alloc hB3.out.size (.cells #[.int .u8 2] 5)).drew).grown hg4 (by have := hB3.out.size; simp; omega) fun k hk => (hown3.out.lt k hk).1
             have hb4 := hid hb40
             have y1 : w4.cell? ⟨w.heap.size, 2, none⟩ = some (.string s) := (kb1.out.below_all hb40).cell 2
             have hrd4 := hid (Rd.of_own' hown40)
             clear hb40 hg4 hat4)))
      all_goals
        go_wp2_with fail
        go_ret
        refine ⟨_, rfl, ?_, hB1.out.trans (hb5.out.mono (by have := hgW.out; omega))⟩
        rw [hf.out]
        exact own_base (by have := hgW.out; have := hb4.out.size; omega) hown5.out
set_option maxRecDepth 100000 in
set_option maxHeartbeats 1000000 in
theorem rvput_any (S : Nat → Prop) (A0 : Option Addr) (c0 : Nat) (bs : List Nat) (v : Vl) (w : World) (ha : Rd S w 1 A0 bs.length (bcells bs)) (hs : v.s.size ≤ 9223372036854775806) (hn1 : -9223372036854775808 ≤ v.n) (hn2 : v.n ≤ 9223372036854775807) (hl : bs.length ≤ 500000000) :
    Calls Try.prog 43 #[.slice A0 bs.length c0, .agg #[.int .i64 v.k, .int .i64 v.n, .string v.s]] w fun e w' => ∃ x, e = .returned x ∧ Cloned 5 1 (bcells (bs ++ vput v)) (bs ++ vput v).length w x w' := by
  obtain ⟨ib, hb0, hb1, hb2, hb3⟩ := info_parts info_u8
  have hgd := guardVal
  have hval := hid (fun W => rvalid_any v W hs)
  have hbl := hid hl
  have hnn := hid (And.intro hn1 hn2)
  have hB0 : Below w.heap.size w (w.alloc (.cells #[.int .i64 v.k, .int .i64 v.n, .string v.s] 51)) := (Below.refl _ _).alloc (Nat.le_refl _) _
  have hra0 := ha.below_all hB0
  have kb0 := Blk.new w 51 #[.int .i64 v.k, .int .i64 v.n, .string v.s]
  have hz0 : (w.alloc (.cells #[.int .i64 v.k, .int .i64 v.n, .string v.s] 51)).heap.size = w.heap.size + 1 := by simp
  have hB1 := hid hB0; have kb := hid kb0; have kb1 := hid kb0; have hz1 := hid hz0
  go_enter Try.func43, Try.ntmps43
  go_upto_region 1 with fail
  generalize w.alloc (.cells #[.int .i64 v.k, .int .i64 v.n, .string v.s] 51) = W1 at *
  have hra := hid (hra0.alloc (.cells #[] 5))
  have hgW := hid (show w.heap.size < W1.heap.size by rw [hz1.out]; omega)
  clear ha hs hn1 hn2 hl hB0 hra0 kb0 hz0
  go_wp2_with (
    at_builtin
    refine wpList_append_rd _ rfl (.tmp 6) (.tmp 7) 39 rfl W1.heap.size 5 ib _ 1 1 Try.underlying39 hb0 hb1 hb2 hb3 rfl (by omega) (.slice (some ⟨W1.heap.size, 0, none⟩) 0 0) 0 [] rfl (own_empty W1 5 1) S A0 bs.length c0 (bcells bs) rfl hra.out (bcells_one bs) (by simp only [maxLen]; have := hbl.out; omega) (by have := hbl.out; omega) (by simp) ?_
    intro v2 w2 hown0 hg0 hat0
    have hB20 := below_of_copy hg0
    obtain ⟨A2, c2, rfl, _⟩ := own_form hown0
    have hown2 : Hid (w2.ownsRow W1.heap.size 5 1 (.slice A2 bs.length c2) bs.length (bcells bs)) := hid (by simpa using hown0)
    have hB2 := hid hB20
    have kb2 := hid (kb.out.below_all hB20)
    have x0 := kb2.out.cell 0
    have x1 := kb2.out.cell 1
    have x2 := kb2.out.cell 2
    simp only [List.getElem?_toArray, List.getElem?_cons_zero, List.getElem?_cons_succ] at x0 x1 x2
    rw [Nat.zero_add]
    clear hown0 hB20 hg0 hat0 kb)
  refine (hval.out _).mono ?_
  rintro e w3 ⟨rfl, hb30⟩
  have hB3 := hid (hB2.out.trans (hb30.mono hB2.out.size))
  have hown3 := hid (own_below hown2.out hb30)
  have kb3 := hid (kb2.out.below_all hb30)
  clear hb30 x0 x1 x2 kb2 hown2 hB2 hra
  cases hok : v.ok with
  | false =>
    have hf := hid (show vput v = [] by unfold vput; rw [hok]; rfl)
    clear hok
    go_wp2_with fail
    go_ret
    refine ⟨_, rfl, ?_, hB1.out.trans (hB3.out.mono (by have := hgW.out; omega))⟩
    rw [hf.out, List.append_nil]
    exact own_base (by have := hgW.out; omega) hown3.out
  | true =>
    rcases ok_forms hok with rfl | ⟨hk, hs0⟩ | ⟨hk, hn0, hs64', hok2⟩
    · have hf := hid (show vput vl0 = [0] by rfl)
      unfold vl0 at kb3 kb1
      have y0 := kb3.out.cell 0
      have y1 := kb3.out.cell 1
      have y2 := kb3.out.cell 2
      simp only [List.getElem?_toArray, List.getElem?_cons_zero, List.getElem?_cons_succ] at y0 y1 y2
      clear hok
      have f1 : IntKind.u8.wrap 0 = 0 := by decide
      go_wp2_with (
        at_builtin
        refine wpList_append_rd _ rfl (.tmp 13) (.tmp 17) 39 rfl W1.heap.size 5 ib _ 1 1 Try.underlying39 hb0 hb1 hb2 hb3 rfl (by omega) (.slice A2 bs.length c2) bs.length (bcells bs) rfl (hown3.out.alloc _) (fun b => b = w3.heap.size) (some ⟨w3.heap.size, 0, none⟩) 1 1 [.int .u8 (0)] rfl (Rd.new w3 5 1 1 #[.int .u8 (0)] _ rfl rfl) (by intro u hu; simp at hu; subst hu; rfl) (by simp only [maxLen]; have := hbl.out; omega) (by have := hbl.out; omega) (by have := hB3.out.size; simp; omega) ?_
        intro v4 w4 hown4 hg4 hat4
        have hb4 := hid ((hB3.out.alloc hB3.out.size (.cells #[.int .u8 (0)] 5)).grown hg4 (by have := hB3.out.size; simp; omega) fun k hk => (hown3.out.lt k hk).1)
        obtain ⟨A4, c4, rfl, _⟩ := own_form hown4
        have hown4 : w4.ownsRow W1.heap.size 5 1 (.slice A4 (bs.length + 1) c4) (bs.length + 1) (bcells (bs ++ [0])) := by rw [bcells_snoc]; exact hown4
        have hown4 := hid hown4
        clear hg4 hat4
        have z0 := (kb1.out.below_all hb4.out).cell 0
        have z1 := (kb1.out.below_all hb4.out).cell 1
        have z2 := (kb1.out.below_all hb4.out).cell 2
        simp only [List.getElem?_toArray, List.getElem?_cons_zero, List.getElem?_cons_succ] at z0 z1 z2)
      go_ret
      refine ⟨_, rfl, ?_, hB1.out.trans (hb4.out.mono (by have := hgW.out; omega))⟩
      rw [hf.out]
      simpa using own_base (base' := w.heap.size) (by have := hgW.out; omega) hown4.out
    · have hf := hid (show vput v = 1 :: putU (zig v.n) by unfold vput; rw [if_pos hok, if_pos hk])
      obtain ⟨k, n, s⟩ := v
      simp only at hk hs0 hnn hf
      subst hk
      have hnn := hnn.out
      clear hok
      have f1 : IntKind.u8.wrap 1 = 1 := by decide
      have hcon : Hid (∀ (A : Option Addr) (c : Nat) (W : World), Rd (fun b => W1.heap.size ≤ b) W 1 A (bs.length + 1) (bcells bs ++ [.int .u8 1]) → Calls Try.prog 71 #[.slice A (bs.length + 1) c, .int .i64 n] W fun e w' => ∃ x, e = .returned x ∧ Cloned 5 1 (bcells (bs ++ 1 :: putU (zig n))) (bs ++ 1 :: putU (zig n)).length W x w') := hid fun A c W h => by
        have h2 : Rd (fun b => W1.heap.size ≤ b) W 1 A (bs ++ [1]).length (bcells (bs ++ [1])) := by rw [bcells_snoc, List.length_append]; exact h
        have h3 := rputInt_any _ A c (bs ++ [1]) n W h2 hnn.1 hnn.2 (by simp; have := hbl.out; omega)
        have hl1 : (bs ++ [1]).length = bs.length + 1 := by simp
        rw [List.append_assoc, hl1] at h3
        exact h3
      have y0 := kb3.out.cell 0
      have y1 := kb3.out.cell 1
      have y2 := kb3.out.cell 2
      simp only [List.getElem?_toArray, List.getElem?_cons_zero, List.getElem?_cons_succ] at y0 y1 y2
      go_wp2_with (
        at_builtin
        refine wpList_append_rd _ rfl (.tmp 13) (.tmp 17) 39 rfl W1.heap.size 5 ib _ 1 1 Try.underlying39 hb0 hb1 hb2 hb3 rfl (by omega) (.slice A2 bs.length c2) bs.length (bcells bs) rfl (hown3.out.alloc _) (fun b => b = w3.heap.size) (some ⟨w3.heap.size, 0, none⟩) 1 1 [.int .u8 (1)] rfl (Rd.new w3 5 1 1 #[.int .u8 (1)] _ rfl rfl) (by intro u hu; simp at hu; subst hu; rfl) (by simp only [maxLen]; have := hbl.out; omega) (by have := hbl.out; omega) (by have := hB3.out.size; simp; omega) ?_
        intro v4 w4 hown4 hg4 hat4
        have hb4 := hid ((hB3.out.alloc hB3.out.size (.cells #[.int .u8 (1)] 5)).grown hg4 (by have := hB3.out.size; simp; omega) fun k hk => (hown3.out.lt k hk).1)
        obtain ⟨A4, c4, rfl, _⟩ := own_form hown4
        have hown4 : w4.ownsRow W1.heap.size 5 1 (.slice A4 (bs.length + 1) c4) (bs.length + 1) (bcells (bs ++ [1])) := by rw [bcells_snoc]; exact hown4
        have hown4 := hid hown4
        clear hg4 hat4
        have z0 := (kb1.out.below_all hb4.out).cell 0
        have z1 := (kb1.out.below_all hb4.out).cell 1
        have z2 := (kb1.out.below_all hb4.out).cell 2
        simp only [List.getElem?_toArray, List.getElem?_cons_zero, List.getElem?_cons_succ] at z0 z1 z2)
      refine (hcon.out A4 c4 _ (by have h := Rd.of_own' hown4.out; rw [bcells_snoc] at h; exact h)).mono ?_
      rintro e w5 ⟨v, rfl, hown50, hb50⟩
      have hown5 := hid hown50
      have hb5 := hid (hb4.out.trans (hb50.mono hb4.out.size))
      clear hown50 hb50
      go_wp2_with fail
      go_ret
      refine ⟨_, rfl, ?_, hB1.out.trans (hb5.out.mono (by have := hgW.out; omega))⟩
      rw [hf.out]
      exact own_base (by have := hgW.out; have := hb4.out.size; omega) hown5.out
    · have hf := hid (show vput v = 2 :: (putU v.s.size ++ tb v.s) by unfold vput; rw [if_pos hok, if_neg (by omega), if_pos hk])
      obtain ⟨k, n, s⟩ := v
      simp only at hk hn0 hs64' hf
      subst hk
      have hs64 := hid hs64'
      clear hok hnn hs64'
      have f1 : IntKind.u8.wrap 2 = 2 := by decide
      have hcon : Hid (∀ (A : Option Addr) (c : Nat) (W : World), Rd (fun b => W1.heap.size ≤ b) W 1 A (bs.length + 1) (bcells bs ++ [.int .u8 2]) → Calls Try.prog 72 #[.slice A (bs.length + 1) c, .string s] W fun e w' => ∃ x, e = .returned x ∧ Cloned 5 1 (bcells (bs ++ 2 :: (putU s.size ++ tb s))) (bs ++ 2 :: (putU s.size ++ tb s)).length W x w') := hid fun A c W h => by
        have h2 : Rd (fun b => W1.heap.size ≤ b) W 1 A (bs ++ [2]).length (bcells (bs ++ [2])) := by rw [bcells_snoc, List.length_append]; exact h
        have h3 := rputText_any _ A c (bs ++ [2]) s W h2 (by have := hs64.out; omega) (by simp; have := hbl.out; omega)
        have hl1 : (bs ++ [2]).length = bs.length + 1 := by simp
        rw [List.append_assoc, hl1] at h3
        exact h3
      have y0 := kb3.out.cell 0
      have y1 := kb3.out.cell 1
      have y2 := kb3.out.cell 2
      simp only [List.getElem?_toArray, List.getElem?_cons_zero, List.getElem?_cons_succ] at y0 y1 y2
      go_wp2_with (
        at_builtin
        refine wpList_append_rd _ rfl (.tmp 13) (.tmp 17) 39 rfl W1.heap.size 5 ib _ 1 1 Try.underlying39 hb0 hb1 hb2 hb3 rfl (by omega) (.slice A2 bs.length c2) bs.length (bcells bs) rfl (hown3.out.alloc _) (fun b => b = w3.heap.size) (some ⟨w3.heap.size, 0, none⟩) 1 1 [.int .u8 (2)] rfl (Rd.new w3 5 1 1 #[.int .u8 (2)] _ rfl rfl) (by intro u hu; simp at hu; subst hu; rfl) (by simp only [maxLen]; have := hbl.out; omega) (by have := hbl.out; omega) (by have := hB3.out.size; simp; omega) ?_
        intro v4 w4 hown4 hg4 hat4
        have hb4 := hid ((hB3.out.alloc hB3.out.size (.cells #[.int .u8 (2)] 5)).grown hg4 (by have := hB3.out.size; simp; omega) fun k hk => (hown3.out.lt k hk).1)
        obtain ⟨A4, c4, rfl, _⟩ := own_form hown4
        have hown4 : w4.ownsRow W1.heap.size 5 1 (.slice A4 (bs.length + 1) c4) (bs.length + 1) (bcells (bs ++ [2])) := by rw [bcells_snoc]; exact hown4
        have hown4 := hid hown4
        clear hg4 hat4
        have z0 := (kb1.out.below_all hb4.out).cell 0
        have z1 := (kb1.out.below_all hb4.out).cell 1
        have z2 := (kb1.out.below_all hb4.out).cell 2
        simp only [List.getElem?_toArray, List.getElem?_cons_zero, List.getElem?_cons_succ] at z0 z1 z2)
      refine (hcon.out A4 c4 _ (by have h := Rd.of_own' hown4.out; rw [bcells_snoc] at h; exact h)).mono ?_
      rintro e w5 ⟨v, rfl, hown50, hb50⟩
      have hown5 := hid hown50
      have hb5 := hid (hb4.out.trans (hb50.mono hb4.out.size))
      clear hown50 hb50
      go_wp2_with fail
      go_ret
      refine ⟨_, rfl, ?_, hB1.out.trans (hb5.out.mono (by have := hgW.out; omega))⟩
      rw [hf.out]
      exact own_base (by have := hgW.out; have := hb4.out.size; omega) hown5.out

end Go.Proofs.Ytbakfkhmopebnaa

namespace Go.Proofs.Ytbakfkhmopebnaa
open Go.RowKit
set_option linter.unusedVariables false
set_option linter.unusedSimpArgs false

/-- the document's two lists -/
structure DkAt (w : World) (g h n : Nat) (c : Ck) (cs ls : Array Value) : Prop where
  a : Blk w g 3 cs
  b : Blk w h 4 ls
  sa : cs.size = n
  sb : ls.size = n
  dep : ∀ i, i < n → cs[i]? = some (.int .i64 (c.dep i))
  lk : ∀ i, i < n → ls[i]? = some (.bool (c.lk i))
section
variable {w w' : World} {g h n : Nat} {c : Ck} {cs ls : Array Value}
theorem DkAt.below (k : DkAt w g h n c cs ls) (hb : Below w.heap.size w w') : DkAt w' g h n c cs ls := { k with a := k.a.below_all hb, b := k.b.below_all hb }
theorem DkAt.ne (k : DkAt w g h n c cs ls) : g ≠ h := k.a.ne_ k.b (by decide)
theorem DkAt.cdep (k : DkAt w g h n c cs ls) {i : Nat} (hi : i < n) : w.cell? ⟨g, i, none⟩ = some (.int .i64 (c.dep i)) := (k.a.cell _).trans (k.dep i hi)
theorem DkAt.clk (k : DkAt w g h n c cs ls) {i : Nat} (hi : i < n) : w.cell? ⟨h, i, none⟩ = some (.bool (c.lk i)) := (k.b.cell _).trans (k.lk i hi)
theorem DkAt.setDep (k : DkAt w g h n c cs ls) {i : Nat} (hi : i < n) (d : Int) : DkAt (w.setCell ⟨g, i, none⟩ (.int .i64 d)) g h n ⟨setN c.dep i d, c.lk⟩ (cs.setIfInBounds i (.int .i64 d)) ls := by
  refine ⟨k.a.set_ _ _, k.b.far (p := ⟨g, i, none⟩) (fun e => k.ne e.symm) _, by simpa using k.sa, k.sb, fun j hj => ?_, k.lk⟩
  by_cases e : j = i
  · subst e
    rw [Array.getElem?_setIfInBounds_self_of_lt (by rw [k.sa]; omega)]
    simp [setN]
  · rw [Array.getElem?_setIfInBounds_ne (by omega), k.dep j hj]
    simp [setN, e]
theorem DkAt.setLk (k : DkAt w g h n c cs ls) {i : Nat} (hi : i < n) (d : Bool) : DkAt (w.setCell ⟨h, i, none⟩ (.bool d)) g h n ⟨c.dep, setN c.lk i d⟩ cs (ls.setIfInBounds i (.bool d)) := by
  refine ⟨k.a.far (p := ⟨h, i, none⟩) k.ne _, k.b.set_ _ _, k.sa, by simpa using k.sb, k.dep, fun j hj => ?_⟩
  by_cases e : j = i
  · subst e
    rw [Array.getElem?_setIfInBounds_self_of_lt (by rw [k.sb]; omega)]
    simp [setN]
  · rw [Array.getElem?_setIfInBounds_ne (by omega), k.lk j hj]
    simp [setN, e]
theorem DkAt.congr {c' : Ck} (k : DkAt w g h n c cs ls) (h1 : ∀ i, i < n → c.dep i = c'.dep i) (h2 : ∀ i, i < n → c.lk i = c'.lk i) : DkAt w g h n c' cs ls :=
  { k with dep := fun i hi => by rw [k.dep i hi, h1 i hi], lk := fun i hi => by rw [k.lk i hi, h2 i hi] }
def leastI : Option Nat → Int
  | none => -1
  | some i => i
set_option maxRecDepth 100000 in
theorem rleast_any (k : DkAt w g h n c cs ls) (hr : DepR c.dep) (hn : n ≤ 256) : Calls Try.prog 66 #[.slice (some ⟨g, 0, none⟩) n n, .slice (some ⟨h, 0, none⟩) n n] w fun e w' => e = .returned (.int .i64 (leastI (leastD c n 0))) ∧ w' = w := by
  have K := hid k
  have HR := hid hr
  have hn9 : (n : Int) ≤ 256 := by omega
  clear k hr
  go_enter Try.func66, Try.ntmps66
  go_wp2_with fail
  go_loopw [5] (fun v wr => ∃ k : Nat, v = .int .i64 k ∧ k ≤ n ∧ wr = w ∧ leastD c n 0 = leastD c (n - k) k) (fun v _ => n - (intOf v).toNat)
  case atStart => exact ⟨0, rfl, Nat.zero_le _, rfl, rfl⟩
  case round =>
    obtain ⟨k, rfl, hk, rfl, he0⟩ := hrel
    have he := hid he0
    clear he0
    by_cases hlt : k < n
    · have i1 : (k : Int) < (n : Int) := by omega
      have i0 : (0 : Int) ≤ (k : Int) := by omega
      have x1 := K.out.cdep (i := k) hlt
      have x2 := K.out.clk (i := k) hlt
      have hst := hid (leastD_step c n k hlt)
      have hht := hid (leastD_hit c n k hlt)
      have hdu : Hid (c.due k = (decide (c.dep k ≠ -1) && !c.lk k)) := hid rfl
      have hrk := HR.out k
      have hw : IntKind.i64.wrap ((k : Int) + 1) = (k : Int) + 1 := IntWalk.i64_in _ (by omega)
      generalize c.dep k = d at *
      generalize c.lk k = b at *
      by_cases hd : d = -1
      · have t1 : decide (0 ≤ d) = false := decide_eq_false (by omega)
        have hs := hid (he.out.trans (hst.out (by rw [hdu.out]; simp [hd])))
        clear hd hrk
        go_wp2_with fail
        go_roundw
        case rel => exact ⟨k + 1, by go_num, hlt, by first | rfl | trivial, hs.out⟩
        case measure => simp [intOf]; omega
      · have t1 : decide (0 ≤ d) = true := decide_eq_true (by rcases hrk with h | h <;> omega)
        cases b with
        | true =>
          have hs := hid (he.out.trans (hst.out (by rw [hdu.out]; simp)))
          clear hd hrk
          go_wp2_with fail
          go_roundw
          case rel => exact ⟨k + 1, by go_num, hlt, by first | rfl | trivial, hs.out⟩
          case measure => simp [intOf]; omega
        | false =>
          have hs := hid (he.out.trans (hht.out (by rw [hdu.out]; simp [hd])))
          clear hd hrk
          go_wp2_with fail
          go_ret
          exact ⟨by rw [hs.out]; rfl, by first | rfl | trivial⟩
    · obtain rfl : k = n := by omega
      have hs := hid (he.out.trans (leastD_end c k))
      go_wp2_with fail
      go_ret
      exact ⟨by rw [hs.out]; rfl, by first | rfl | trivial⟩
end
def NextsPost (l : List Nat) (w : World) (e : Ending) (w' : World) : Prop := Below w.heap.size w w' ∧ ∃ A c, e = .returned (.slice A l.length c) ∧ Rd (fun b => w.heap.size ≤ b) w' 1 A l.length (l.map fun j => .int .i64 (j : Nat))
theorem rd_ints (w W : World) (l : List Nat) (vs : Array Value) (hv : vs.toList = l.map fun j => .int .i64 (j : Nat)) (hz : w.heap.size ≤ W.heap.size) : Rd (fun b => w.heap.size ≤ b) (W.alloc (.cells vs 3)) 1 (some ⟨W.heap.size, 0, none⟩) l.length (l.map fun j => .int .i64 (j : Nat)) := by
  have h := (Rd.new W 3 1 l.length vs W.heap.size rfl (by have := congrArg List.length hv; simpa using this)).more (S' := fun b => w.heap.size ≤ b) fun b hb _ => by subst hb; exact hz
  rwa [hv] at h
set_option maxRecDepth 100000 in
set_option maxHeartbeats 1000000 in
theorem rnexts_any (p : Pr) (S : Nat → Prop) (A1 A2 : Option Addr) (c1 c2 : Nat) (w : World) (hp : PrIn S w A1 A2 p) (at_ : Nat) (ha : at_ < p.code.length) (hi0 : 0 ≤ (p.code.getD at_ is0).n) : Calls Try.prog 67 #[.agg #[.int .i64 p.args, .slice A1 p.cs.length c1, .slice A2 p.code.length c2], .int .i64 at_] w (NextsPost (nexts at_ (p.code.getD at_ is0)) w) := by
  obtain ⟨b, o, hA, hbl, a0, a1⟩ := hp.i.ins_at (k := at_) ha
  have hgi : p.code.getD at_ is0 = p.code[at_]'ha := by rw [List.getD_eq_getElem?_getD, List.getElem?_eq_getElem ha]; rfl
  have hL := hp.l
  rw [hgi] at hi0 ⊢
  subst hA
  generalize p.code[at_]'ha = i at *
  have kp := Blk.new w 29 #[.int .i64 p.args, .slice A1 p.cs.length c1, .slice (some ⟨b, o, none⟩) p.code.length c2]
  have hB1 : Below w.heap.size w (w.alloc (.cells #[.int .i64 p.args, .slice A1 p.cs.length c1, .slice (some ⟨b, o, none⟩) p.code.length c2] 29)) := (Below.refl _ _).alloc (Nat.le_refl _) _
  have a0' := (World.cell?_of_block (w := w) (a := ⟨b, o + at_ * 2, none⟩) (hB1.block b hbl)).trans a0
  have a1' := (World.cell?_of_block (w := w) (a := ⟨b, o + at_ * 2 + 1, none⟩) (hB1.block b hbl)).trans a1
  have i1 : (at_ : Int) < (p.code.length : Int) := by omega
  have i9 : (at_ : Int) < 1000000000 := by omega
  have i0 : (0 : Int) ≤ (at_ : Int) := by omega
  have hw : IntKind.i64.wrap ((at_ : Int) + 1) = (at_ : Int) + 1 := IntWalk.i64_in _ (by omega)
  have KP := hid kp
  have HB := hid hB1
  clear hp hL hgi a0 a1
  go_enter Try.func67, Try.ntmps67
  go_upto_region 1 with fail
  generalize w.alloc (.cells #[.int .i64 p.args, .slice A1 p.cs.length c1, .slice (some ⟨b, o, none⟩) p.code.length c2] 29) = w1 at *
  have p2 := KP.out.cell 2
  simp only [List.getElem?_toArray, List.getElem?_cons_zero, List.getElem?_cons_succ] at p2
  have ki := Blk.new w1 49 #[.int .i64 i.op, .int .i64 i.n]
  have hB2 := hid (HB.out.alloc HB.out.size (.cells #[.int .i64 i.op, .int .i64 i.n] 49))
  have KI := hid ki
  have j0 := ki.cell 0
  have j1 := ki.cell 1
  simp only [List.getElem?_toArray, List.getElem?_cons_zero, List.getElem?_cons_succ] at j0 j1
  clear ki kp hB1
  go_upto_region 2 with fail
  generalize w1.alloc (.cells #[.int .i64 i.op, .int .i64 i.n] 49) = w2 at *
  clear p2 a0' a1'
  obtain ⟨m, hm⟩ : ∃ m : Nat, i.n = (m : Int) := ⟨i.n.toNat, by omega⟩
  have hmt : i.n.toNat = m := by omega
  rw [hm] at j1
  have hz2 := hB2.out.size
  by_cases h18 : i.op = 18
  · have o1 : (i.op == 18) = true := by simpa using h18
    have hl : Hid (nexts at_ i = [m]) := hid (by unfold nexts; rw [if_pos h18, hmt])
    have hfin : Hid (NextsPost [m] w (.returned (.slice (some ⟨w2.heap.size, 0, none⟩) 1 1)) (w2.alloc (.cells #[.int .i64 (m : Int)] 3))) := hid ⟨hB2.out.alloc hz2 _, _, _, rfl, rd_ints w w2 [m] _ rfl hz2⟩
    generalize i.op = op at *
    clear h18
    go_wp2_with fail
    go_ret
    rw [hl.out]
    exact hfin.out
  have o1 : (i.op == 18) = false := by simpa using h18
  by_cases h19 : i.op = 19
  · have o2 : (i.op == 19) = true := by simpa using h19
    have hl : Hid (nexts at_ i = [at_ + 1, m]) := hid (by unfold nexts; rw [if_neg h18, if_pos h19, hmt])
    have hfin : Hid (NextsPost [at_ + 1, m] w (.returned (.slice (some ⟨w2.heap.size, 0, none⟩) 2 2)) (w2.alloc (.cells #[.int .i64 ((at_ : Int) + 1), .int .i64 (m : Int)] 3))) := hid ⟨hB2.out.alloc hz2 _, _, _, rfl, rd_ints w w2 [at_ + 1, m] _ rfl hz2⟩
    generalize i.op = op at *
    clear h18 h19
    go_wp2_with fail
    go_ret
    rw [hl.out]
    exact hfin.out
  have o2 : (i.op == 19) = false := by simpa using h19
  by_cases h30 : i.op = 30
  · have o3 : (i.op == 30) = true := by simpa using h30
    have hl : Hid (nexts at_ i = []) := hid (by unfold nexts; rw [if_neg h18, if_neg h19, if_pos (.inl h30)])
    have hfin : Hid (NextsPost [] w (.returned (.slice none 0 0)) w2) := hid ⟨hB2.out, _, _, rfl, Rd.nil_⟩
    generalize i.op = op at *
    clear h18 h19 h30
    go_wp2_with fail
    go_ret
    rw [hl.out]
    exact hfin.out
  have o3 : (i.op == 30) = false := by simpa using h30
  by_cases h31 : i.op = 31
  · have o4 : (i.op == 31) = true := by simpa using h31
    have hl : Hid (nexts at_ i = []) := hid (by unfold nexts; rw [if_neg h18, if_neg h19, if_pos (.inr h31)])
    have hfin : Hid (NextsPost [] w (.returned (.slice none 0 0)) w2) := hid ⟨hB2.out, _, _, rfl, Rd.nil_⟩
    generalize i.op = op at *
    clear h18 h19 h30 h31
    go_wp2_with fail
    go_ret
    rw [hl.out]
    exact hfin.out
  have o4 : (i.op == 31) = false := by simpa using h31
  have hl : Hid (nexts at_ i = [at_ + 1]) := hid (by unfold nexts; rw [if_neg h18, if_neg h19, if_neg (by omega)])
  have hfin : Hid (NextsPost [at_ + 1] w (.returned (.slice (some ⟨w2.heap.size, 0, none⟩) 1 1)) (w2.alloc (.cells #[.int .i64 ((at_ : Int) + 1)] 3))) := hid ⟨hB2.out.alloc hz2 _, _, _, rfl, rd_ints w w2 [at_ + 1] _ rfl hz2⟩
  generalize i.op = op at *
  clear h18 h19 h30 h31
  go_wp2_with fail
  go_ret
  rw [hl.out]
  exact hfin.out

end Go.Proofs.Ytbakfkhmopebnaa

