/- The document's queue in memory; what it says. -/
import Derived.Test.YtppcjaljhahdnaaQSettle
namespace Go.Proofs.Ytppcjaljhahdnaa
open Go.RowKit
set_option linter.unusedVariables false
set_option linter.unusedSimpArgs false

structure RIn (S : Nat → Prop) (w : World) (g bt : Nat) (mt sh wn : Int) (A : Option Addr) (c : Nat) (rs : List RP) (tv : Nat → Value) (T : Int → List Int) : Prop where
  blk : Blk w g 76 #[.int .i64 mt, .int .i64 sh, .int .i64 wn, .slice A rs.length c, .slice (some ⟨bt, 0, none⟩) 64 64]
  tks : ∃ cs, Blk w bt 61 cs ∧ ∀ k < 64, cs[k]? = some (tv k)
  pls : PlansS S w A c rs
  tok : ∀ k < 64, TokAt w (tv k) (T (k : Nat)) ∧ ∀ b, (tv k).ownBlock = some b → S b
  out : ∀ x, subBad x = true → T x = []
  inS : S g ∧ S bt
  lt : ∀ k, S k → k < w.heap.size
  mt1 : 1 ≤ mt ∧ mt ≤ 1024
  wn1 : 0 ≤ wn ∧ wn ≤ 256
  len : (rs.length : Int) ≤ mt
  tlen : ∀ x, ((T x).length : Int) ≤ wn
  fits : ∀ r ∈ rs, r.p.fits
def RAt (S : Nat → Prop) (w : World) (g : Nat) (mt sh wn : Int) (L : List Pl) (T : Int → List Int) : Prop :=
  ∃ bt A c rs tv, RIn S w g bt mt sh wn A c rs tv T ∧ plans rs = L
section
variable {S : Nat → Prop} {w w' : World} {g bt : Nat} {mt sh wn : Int} {A : Option Addr} {c : Nat} {rs : List RP} {tv : Nat → Value} {L : List Pl} {T : Int → List Int}
theorem RIn.far {M : Nat → Prop} (h : RIn S w g bt mt sh wn A c rs tv T) (hu : Upd M w w') (hM : ∀ k, S k → ¬ M k) : RIn S w' g bt mt sh wn A c rs tv T :=
  { h with
    blk := h.blk.upd hu (hM _ h.inS.1)
    tks := by
      obtain ⟨cs, hb, hc⟩ := h.tks
      exact ⟨cs, hb.upd hu (hM _ h.inS.2), hc⟩
    pls := h.pls.keep fun b hb hl => hu.block b hl (hM b hb)
    tok := fun k hk => ⟨(h.tok k hk).1.upd hu fun b hb => hM b ((h.tok k hk).2 b hb), (h.tok k hk).2⟩
    lt := fun k hk => Nat.lt_of_lt_of_le (h.lt k hk) hu.size }
theorem RAt.far {M : Nat → Prop} (h : RAt S w g mt sh wn L T) (hu : Upd M w w') (hM : ∀ k, S k → ¬ M k) : RAt S w' g mt sh wn L T := by
  obtain ⟨bt, A, c, rs, tv, h, e⟩ := h
  exact ⟨bt, A, c, rs, tv, h.far hu hM, e⟩
theorem RAt.below (h : RAt S w g mt sh wn L T) (hb : Below w.heap.size w w') : RAt S w' g mt sh wn L T := h.far (M := Nil) (.of_below' hb _) fun _ _ => id
theorem RAt.lt (h : RAt S w g mt sh wn L T) : (∀ k, S k → k < w.heap.size) ∧ S g := by
  obtain ⟨bt, A, c, rs, tv, h, e⟩ := h
  exact ⟨h.lt, h.inS.1⟩
theorem RAt.len (h : RAt S w g mt sh wn L T) : (L.length : Int) ≤ mt ∧ mt ≤ 1024 := by
  obtain ⟨bt, A, c, rs, tv, h, rfl⟩ := h
  exact ⟨by have := h.len; simpa [plans] using this, h.mt1.2⟩
theorem RIn.cells (h : RIn S w g bt mt sh wn A c rs tv T) : w.cell? ⟨g, 0, none⟩ = some (.int .i64 mt) ∧ w.cell? ⟨g, 1, none⟩ = some (.int .i64 sh) ∧ w.cell? ⟨g, 2, none⟩ = some (.int .i64 wn) ∧ w.cell? ⟨g, 3, none⟩ = some (.slice A rs.length c) ∧ w.cell? ⟨g, 4, none⟩ = some (.slice (some ⟨bt, 0, none⟩) 64 64) :=
  ⟨h.blk.cell 0, h.blk.cell 1, h.blk.cell 2, h.blk.cell 3, h.blk.cell 4⟩
theorem RIn.tcell (h : RIn S w g bt mt sh wn A c rs tv T) {k : Nat} (hk : k < 64) : w.cell? ⟨bt, k, none⟩ = some (tv k) := by
  obtain ⟨cs, hb, hc⟩ := h.tks
  exact (hb.cell k).trans (hc k hk)
theorem cnt_take (x : Int) (L : List Pl) (k : Nat) (h : k < L.length) : cnt x (L.take (k + 1)) = cnt x (L.take k) + (if L[k].cl = x then 1 else 0) := by
  unfold cnt
  rw [List.take_add_one, List.getElem?_eq_getElem h, List.filter_append, List.length_append]
  congr 1
  by_cases hx : L[k].cl = x <;> simp [hx]
theorem rof_any (x : Int) (h : RAt S w g mt sh wn L T) : Calls Try.prog 47 #[.pointer (some ⟨g, 0, none⟩), .int .i64 x] w fun e w' => e = .returned (.int .i64 (cnt x L : Nat)) ∧ w' = w := by
  obtain ⟨bt, A, c, rs, tv, q, rfl⟩ := h
  obtain ⟨c0, c1, c2, c3, c4⟩ := q.cells
  have hpl := q.pls.ok'
  have hl1 := q.len
  have hl2 := q.mt1
  have hl3 : ∀ k, cnt x (plans (rs.take k)) ≤ rs.length := fun k => Nat.le_trans (cnt_le x _) (by simp [plans]; omega)
  have hl3 := hid hl3
  clear q
  go_enter Try.func47, Try.ntmps47
  go_wp2_with fail
  go_loopw [5, 6] (fun n i wr => ∃ k : Nat, k ≤ rs.length ∧ n = .int .i64 (cnt x (plans (rs.take k)) : Nat) ∧ i = .int .i64 k ∧ wr = w) (fun _ i _ => rs.length - (intOf i).toNat)
  case atStart => exact ⟨0, Nat.zero_le _, rfl, rfl, rfl⟩
  case round =>
    obtain ⟨k, hk, rfl, rfl, rfl⟩ := hrel
    have hk3 := hl3.out k
    by_cases hlt : k < rs.length
    · obtain ⟨b, o, rfl, _, hb, _, f0, _⟩ := hpl.at_ hlt
      have i1 : (k : Int) < (rs.length : Int) := by omega
      have hst := cnt_take x (plans rs) k (by simpa [plans] using hlt)
      rw [show (plans rs)[k]'(by simpa [plans] using hlt) = rs[k].p from by simp [plans], ← show plans (rs.take (k + 1)) = (plans rs).take (k + 1) from by simp [plans, List.map_take], ← show plans (rs.take k) = (plans rs).take k from by simp [plans, List.map_take]] at hst
      have hst := hid hst
      clear hpl
      by_cases hx : rs[k].p.cl = x
      · have hd : (rs[k].p.cl == x) = true := by simpa using hx
        have hx := hid hx
        go_wp2_with fail
        go_roundw
        case rel => exact ⟨k + 1, by omega, by rw [hst.out, if_pos hx.out]; go_num, by go_num, by trivial⟩
        case measure => simp [intOf]; omega
      · have hd : (rs[k].p.cl == x) = false := by simpa using hx
        have hx := hid hx
        go_wp2_with fail
        go_roundw
        case rel => exact ⟨k + 1, by omega, by rw [hst.out, if_neg hx.out, Nat.add_zero], by go_num, by trivial⟩
        case measure => simp [intOf]; omega
    · obtain rfl : k = rs.length := by omega
      go_wp2_with fail
      go_ret
      exact ⟨by first | rfl | (rw [List.take_length]; rfl), rfl⟩
set_option maxHeartbeats 1000000 in
theorem rseen_any (x : Int) (h : RAt S w g mt sh wn L T) : Calls Try.prog 49 #[.pointer (some ⟨g, 0, none⟩), .int .i64 x] w fun e w' => ∃ A c, e = .returned (.slice A (T x).length c) ∧ w'.ownsRow w.heap.size 32 1 (.slice A (T x).length c) (T x).length ((T x).map (.int .u64)) ∧ Below w.heap.size w w' := by
  obtain ⟨bt, A, c, rs, tv, q, rfl⟩ := h
  obtain ⟨c0, c1, c2, c3, c4⟩ := q.cells
  cases hb : subBad x with
  | true =>
    have h0 := hid (q.out x hb)
    have hx : x < 0 ∨ 64 ≤ x := by unfold subBad at hb; simpa using hb
    clear q hb
    go_enter Try.func49, Try.ntmps49
    by_cases hx0 : x < 0
    · have d0 : decide (x < 0) = true := by simpa using hx0
      clear hx hx0
      go_wp2_with fail
      go_ret
      exact ⟨none, 0, by rw [h0.out]; rfl, by rw [h0.out]; exact World.ownsRow_nil _ _ _ _, Below.refl _ _⟩
    · have d0 : decide (x < 0) = false := by simpa using hx0
      have d1 : decide (64 ≤ x) = true := by simp; omega
      clear hx hx0
      go_wp2_with fail
      go_ret
      exact ⟨none, 0, by rw [h0.out]; rfl, by rw [h0.out]; exact World.ownsRow_nil _ _ _ _, Below.refl _ _⟩
  | false =>
    have hx : 0 ≤ x ∧ x < 64 := by unfold subBad at hb; simp at hb; omega
    obtain ⟨k, rfl⟩ : ∃ k : Nat, x = (k : Int) := ⟨x.toNat, by omega⟩
    have hk : k < 64 := by omega
    have t0 := q.tcell hk
    have ht := (q.tok k hk).1
    have hn := q.tlen k
    have hw := q.wn1.2
    obtain ⟨A', c', hv, hc1, hc2⟩ := ht.form
    rw [hv] at ht t0
    have hrd := ht.rd
    have d0 : decide ((k : Int) < 0) = false := by simp
    have d1 : decide (64 ≤ (k : Int)) = false := by simp; omega
    have d2 : decide (64 ≤ k) = false := by simp; omega
    have i1 : (k : Int) < 64 := by omega
    have hbt := q.inS.2
    have hblt := q.lt _ hbt
    have hglt := q.lt _ q.inS.1
    obtain ⟨iu, hiu, hu0, hu1, hu2⟩ := info_parts info_u64
    clear q ht hv hb
    go_enter Try.func49, Try.ntmps49
    go_wp2_with (
      at_builtin
      refine wpList_copy_rd w rfl (.tmp 11) (.tmp 18) 61 rfl 32 iu _ 1 8 Try.underlying61 hiu hu0 hu1 hu2 rfl (by omega) w.heap.size rfl rfl _ A' (T k).length c' ((T k).map (.int .u64)) rfl hrd (nums_one _) (by simp only [maxLen]; omega) (by omega) ?_
      intro A2 c2 w2 hown2 hb2)
    go_ret
    exact ⟨A2, c2, rfl, hown2, hb2⟩
set_option maxHeartbeats 1000000 in
theorem rat_no (i : Int) (h : RAt S w g mt sh wn L T) (hi : i < 0 ∨ (L.length : Int) ≤ i) : Calls Try.prog 40 #[.pointer (some ⟨g, 0, none⟩), .int .i64 i] w (NoPlan w) := by
  obtain ⟨bt, A, c, rs, tv, q, rfl⟩ := h
  obtain ⟨c0, c1, c2, c3, c4⟩ := q.cells
  have hg := q.blk.lt
  have hl : ((plans rs).length : Int) = rs.length := by simp [plans]
  rw [hl] at hi
  clear q hl
  by_cases h1 : i < 0
  · clear hi
    go_enter Try.func40, Try.ntmps40
    go_wp2_with fail
    refine bodyPost_ret (v := .tuple #[.agg #[.int .i64 0, .int .u64 0, .string ⟨#[]⟩, .slice none 0 0, .int .i64 0, .slice none 0 0, .slice none 0 0], .bool false]) (by simp [results, Try.results40, go_sem]) rfl ⟨rfl, ?_⟩
    repeat' (refine Below.setCell ?_ (by simp) _)
    exact (Below.refl _ _).alloc (Nat.le_refl _) _
  · have h2 : (rs.length : Int) ≤ i := by omega
    clear hi
    go_enter Try.func40, Try.ntmps40
    go_wp2_with fail
    refine bodyPost_ret (v := .tuple #[.agg #[.int .i64 0, .int .u64 0, .string ⟨#[]⟩, .slice none 0 0, .int .i64 0, .slice none 0 0, .slice none 0 0], .bool false]) (by simp [results, Try.results40, go_sem]) rfl ⟨rfl, ?_⟩
    repeat' (refine Below.setCell ?_ (by simp) _)
    exact (Below.refl _ _).alloc (Nat.le_refl _) _
set_option maxRecDepth 100000 in
set_option maxHeartbeats 1000000 in
theorem rat_yes (i : Nat) (h : RAt S w g mt sh wn L T) (hi : i < L.length) : Calls Try.prog 40 #[.pointer (some ⟨g, 0, none⟩), .int .i64 i] w (GotPlan w L[i]) := by
  obtain ⟨bt, A, c, rs, tv, q, rfl⟩ := h
  obtain ⟨c0, c1, c2, c3, c4⟩ := q.cells
  have hg := q.blk.lt
  have hi' : i < rs.length := by simpa [plans] using hi
  rw [show (plans rs)[i] = rs[i].p from by simp [plans]]
  have hf := q.fits _ (List.getElem_mem hi')
  obtain ⟨b, o, rfl, _, hb, r0, a0, a1, a2, a3, a4, a5, a6⟩ := q.pls.ok'.at_ hi'
  have r1 := r0.alloc (.cells #[.int .i64 0, .int .u64 0, .string ⟨#[]⟩, .slice none 0 0, .int .i64 0, .slice none 0 0, .slice none 0 0] 40)
  have i1 : (i : Int) < (rs.length : Int) := by omega
  clear q r0 hi
  go_enter Try.func40, Try.ntmps40
  go_wp2_with fail
  refine (eplan_any S rs[i] _ r1 hf).mono ?_
  rintro e w1 ⟨r', ⟨hp0, rfl⟩, hown, hb1⟩
  have hp1 := hid hp0
  clear hp0
  have kr : Blk w1 w.heap.size 40 #[.int .i64 0, .int .u64 0, .string ⟨#[]⟩, .slice none 0 0, .int .i64 0, .slice none 0 0, .slice none 0 0] := (Blk.new _ _ _).below_all hb1
  have hz := kr.lt
  have q1 := fun j => kr.frozen j
  have z0 := kr.cell 0
  have z1 := kr.cell 1
  have z2 := kr.cell 2
  have z3 := kr.cell 3
  have z4 := kr.cell 4
  have z5 := kr.cell 5
  have z6 := kr.cell 6
  simp at z0 z1 z2 z3 z4 z5 z6
  go_wp2_with fail
  refine bodyPost_ret (v := .tuple #[.agg #[.int .i64 r'.p.cl, .int .u64 r'.p.tok, .string r'.p.nm, .slice r'.A1 r'.p.args.length r'.c1, .int .i64 r'.p.how, .slice r'.A2 r'.p.rd.length r'.c2, .slice r'.A3 r'.p.wr.length r'.c3], .bool true]) (by simp [results, Try.results40, go_sem, z0, z1, z2, z3, z4, z5, z6]) rfl ⟨r', ⟨hp1.out, rfl⟩, ?_, ?_⟩
  · refine RP.own.base (base := w.heap.size + 1) ?_ (by omega)
    have hown' : r'.own (w.heap.size + 1) w1 := hown.base (by simp)
    refine ⟨?_, ?_, ?_⟩
    · repeat' (refine ownsRow_setCell_below ?_ (by simp) _)
      exact hown'.args
    · repeat' (refine ownsRow_setCell_below ?_ (by simp) _)
      exact hown'.rd
    · repeat' (refine ownsRow_setCell_below ?_ (by simp) _)
      exact hown'.wr
  · repeat' (refine Below.setCell ?_ (by simp) _)
    exact ((Below.refl _ _).alloc (Nat.le_refl _) _).trans (hb1.mono (by simp))

end

end Go.Proofs.Ytppcjaljhahdnaa
