/- store: Claim's parts: the closure, ContainsFunc; a key that gets its place; rows of counts. -/
import Derived.Test.YtnbbdjbjbjlcpaaDoorSOf
import Derived.Lib.Hide
namespace Go.Proofs.YtnbbdjbjbjlcpaaDoor
open Go.RowKit
set_option linter.unusedVariables false
set_option linter.unusedSimpArgs false

/-- a row of numbers -/
def IArr (w : World) (b n : Nat) (f : Nat → Nat) : Prop := ∃ cs, Blk w b 3 cs ∧ cs.size = n ∧ ∀ j, j < n → cs[j]? = some (.int .i64 (f j : Nat))
section
variable {w w' : World} {b n : Nat} {f : Nat → Nat}
theorem IArr.cell (h : IArr w b n f) {j : Nat} (hj : j < n) : w.cell? ⟨b, j, none⟩ = some (.int .i64 (f j : Nat)) := by
  obtain ⟨cs, h1, h2, h3⟩ := h
  exact (h1.cell _).trans (h3 j hj)
theorem IArr.frozen (h : IArr w b n f) (j : Nat) : w.frozen? ⟨b, j, none⟩ = false := by
  obtain ⟨cs, h1, h2, h3⟩ := h
  exact h1.frozen j
theorem IArr.lt (h : IArr w b n f) : b < w.heap.size := by obtain ⟨cs, h1, _⟩ := h; exact h1.lt
theorem IArr.upd {N : Nat → Prop} (h : IArr w b n f) (hu : Upd N w w') (hN : ¬ N b) : IArr w' b n f := by
  obtain ⟨cs, h1, h2⟩ := h
  exact ⟨cs, h1.upd hu hN, h2⟩
theorem IArr.below (h : IArr w b n f) (hb : Below w.heap.size w w') : IArr w' b n f := by
  obtain ⟨cs, h1, h2⟩ := h
  exact ⟨cs, h1.below_all hb, h2⟩
theorem IArr.congr {f' : Nat → Nat} (h : IArr w b n f) (hf : ∀ j, j < n → f j = f' j) : IArr w b n f' := by
  obtain ⟨cs, h1, h2, h3⟩ := h
  exact ⟨cs, h1, h2, fun j hj => by rw [h3 j hj, hf j hj]⟩
theorem IArr.set (h : IArr w b n f) {i : Nat} (hi : i < n) (v : Nat) : IArr (w.setCell ⟨b, i, none⟩ (.int .i64 (v : Nat))) b n (fun j => if j = i then v else f j) := by
  obtain ⟨cs, h1, h2, h3⟩ := h
  refine ⟨_, h1.set_ i _, by simp [h2], fun j hj => ?_⟩
  by_cases e : j = i
  · subst e
    simp only [if_true]
    rw [Array.getElem?_setIfInBounds_self_of_lt (by omega)]
  · simp only [if_neg e]
    rw [Array.getElem?_setIfInBounds_ne (Ne.symm e)]
    exact h3 j hj
end
theorem info_int : (Tryd.prog.info? 3).map (fun i => (i.zero, i.size, i.bytes)) = some (some (.int .i64 0), 1, 8) := by kernel_rfl
theorem make_parts (N : Nat) (hN : N ≤ 64) (w : World) : (Instr.makeSlice 77 (.int .i64 (N : Int)) (.int .i64 (N : Int))).run Tryd.prog w = .ok (.slice (some ⟨w.heap.size, 0, none⟩) N N) (w.alloc (.cells (madeCells #[.int .i64 0] N) 3)) := by
  obtain ⟨i0, hi0, hz0, hz1, hz2⟩ := info_parts info_int
  have h := run_makeSlice (P := Tryd.prog) w 77 3 i0 _ Tryd.underlying77 hi0 hz0 .i64 .i64 (N : Int) (N : Int) (by omega) (Int.le_refl _) (by simp only [Int.toNat_natCast]; rw [hz1]; omega) (by rw [hz2]; omega) (by omega)
  simp only [Int.toNat_natCast, hz1, Nat.mul_one] at h
  exact h
theorem IArr.new (w : World) (N : Nat) : IArr (w.alloc (.cells (madeCells #[.int .i64 0] N) 3)) w.heap.size N fun _ => 0 := by
  have hl := toList_madeCells_one (.int .i64 0) N
  refine ⟨_, Blk.new w _ _, ?_, fun j hj => ?_⟩
  · have := congrArg List.length hl
    simpa using this
  · have := congrArg (fun l => l[j]?) hl
    simpa [hj] using this
/-! the closure -/
theorem notvalid_any (k : ByteArray) (w : World) (hk : k.size ≤ 9223372036854775806) : Calls Tryd.prog 30 #[.string k] w fun e w' => e = .returned (.bool (!validK k)) ∧ w' = w := by
  have hv := hid (validk_any k w hk)
  generalize validK k = b at *
  go_enter Tryd.func30, Tryd.ntmps30
  go_wp2_with fail
  refine hv.out.mono ?_
  rintro e w2 ⟨rfl, rfl⟩
  go_wp2_with fail
  go_ret
  exact ⟨by first | rfl | simp, rfl⟩
def strs (ks : List ByteArray) : List Value := ks.map .string
theorem rd_strs {S : Nat → Prop} {w : World} {A : Option Addr} {ks : List ByteArray} (h : Rd S w 1 A ks.length (strs ks)) {i : Nat} (hi : i < ks.length) : ∃ b o, A = some ⟨b, o, none⟩ ∧ S b ∧ b < w.heap.size ∧ w.cell? ⟨b, o + i, none⟩ = some (.string ks[i]) := by
  obtain ⟨b, o, rfl, hS, hl, hc⟩ := h.at_ hi
  exact ⟨b, o, rfl, hS, hl, hc i _ (by simp [strs, hi])⟩
set_option maxRecDepth 100000 in
set_option maxHeartbeats 1000000 in
theorem indexfunc_any {Sk : Nat → Prop} {w : World} {A : Option Addr} {c : Nat} (ks : List ByteArray) (h : Rd Sk w 1 A ks.length (strs ks)) (hs : ∀ k ∈ ks, k.size ≤ 9223372036854775806) (hn : ks.length ≤ 1000000) : Calls Tryd.prog 43 #[.slice A ks.length c, .func (.func 30) #[] #[]] w fun e w' => (∃ v : Int, e = .returned (.int .i64 v) ∧ decide (0 ≤ v) = ks.any fun k => !validK k) ∧ w' = w := by
  have hr := hid h
  clear h
  go_enter Tryd.func43, Tryd.ntmps43
  go_wp2_with fail
  go_loopw [8] (fun v wr => ∃ k : Nat, v = .int .i64 k ∧ k ≤ ks.length ∧ wr = w ∧ ∀ j (hj : j < ks.length), j < k → validK ks[j] = true) (fun v _ => ks.length - (intOf v).toNat)
  case atStart => exact ⟨0, rfl, Nat.zero_le _, rfl, fun j _ h => by omega⟩
  case round =>
    obtain ⟨k, rfl, hk, rfl, ha0⟩ := hrel
    have ha := hid ha0
    clear ha0
    by_cases hlt : k < ks.length
    · have i1 : (k : Int) < (ks.length : Int) := by omega
      have hs9 : (ks.length : Int) ≤ 1000000 := by omega
      obtain ⟨b, o, rfl, _, hbl, hc⟩ := rd_strs hr.out hlt
      have hv := hid (notvalid_any ks[k] wr (hs _ (List.getElem_mem hlt)))
      cases hb0 : validK ks[k] with
      | true =>
        have hb := hid hb0
        rw [hb0] at hv
        clear hb0 hbl
        go_wp2_with fail
        refine hv.out.mono ?_
        rintro e w2 ⟨rfl, rfl⟩
        go_wp2_with fail
        go_roundw
        case rel => exact ⟨k + 1, by go_num, hlt, by first | rfl | trivial, fun j hj hjk => by
          by_cases e : j = k
          · subst e; exact hb.out
          · exact ha.out j hj (by omega)⟩
        case measure => simp [intOf]; omega
      | false =>
        have hfin : Hid (decide (0 ≤ (k : Int)) = ks.any fun k => !validK k) := hid (by
          rw [decide_eq_true (by omega)]
          exact (List.any_eq_true.2 ⟨ks[k], List.getElem_mem hlt, by rw [hb0]; rfl⟩).symm)
        rw [hb0] at hv
        clear hb0 hbl
        go_wp2_with fail
        refine hv.out.mono ?_
        rintro e w2 ⟨rfl, rfl⟩
        go_wp2_with fail
        go_ret
        exact ⟨⟨_, rfl, hfin.out⟩, by first | rfl | trivial⟩
    · obtain rfl : k = ks.length := by omega
      have hfin : Hid (decide (0 ≤ (-1 : Int)) = ks.any fun k => !validK k) := hid (by
        rw [decide_eq_false (by omega)]
        symm
        rw [List.any_eq_false]
        intro x hx
        obtain ⟨j, hj, rfl⟩ := List.mem_iff_getElem.1 hx
        rw [ha.out j hj hj]; simp)
      clear hr
      go_wp2_with fail
      go_ret
      exact ⟨⟨_, rfl, hfin.out⟩, by first | rfl | trivial⟩
theorem contains_any {Sk : Nat → Prop} {w : World} {A : Option Addr} {c : Nat} (ks : List ByteArray) (h : Rd Sk w 1 A ks.length (strs ks)) (hs : ∀ k ∈ ks, k.size ≤ 9223372036854775806) (hn : ks.length ≤ 1000000) : Calls Tryd.prog 29 #[.slice A ks.length c, .func (.func 30) #[] #[]] w fun e w' => e = .returned (.bool (ks.any fun k => !validK k)) ∧ w' = w := by
  have hv := hid (indexfunc_any (c := c) ks h hs hn)
  generalize (ks.any fun k => !validK k) = b at *
  clear h
  go_enter Tryd.func29, Tryd.ntmps29
  go_wp2_with fail
  refine hv.out.mono ?_
  rintro e w2 ⟨⟨v, rfl, hvb⟩, rfl⟩
  have hh := hid hvb
  clear hvb
  go_wp2_with fail
  go_ret
  exact ⟨by rw [← hh.out]; rfl, rfl⟩
/-! a key gets its place -/
section
variable {S : Nat → Prop} {w w' : World} {g cb cc vb : Nat} {mb : Nat → Nat} {s : St}
theorem PIn.ins {k : ByteArray} {p : Nat} (h : PIn S w g s cb cc mb vb) (hp : partK s.parts k = p) (hu : w.grownBy w' (some (mb p))) (hm : MapF strE w' (mb p) fun y => if y = k then some (.int .i64 1) else Dc s.L s.parts p y) (hok : St.Ok { s with L := insK k s.L }) :
    PIn S w' g { s with L := insK k s.L } cb cc mb vb ∧ Upd S w w' := by
  have hpl : p < s.parts := by rw [← hp]; exact partK_lt k (by have := h.ok.parts; omega)
  have hU : Upd (fun j => j = mb p) w w' := upd_grown hu fun j hj => by injection hj with hj; exact hj.symm
  obtain ⟨cs, h1, h2⟩ := h.row
  have hne : ∀ {b t cs}, Blk w b t cs → ¬ b = mb p := fun hb e => (h.cl p hpl).ne_blk hb e.symm
  refine ⟨⟨h.blk.upd hU (hne h.blk), ⟨cs, h1.upd hU (hne h1), h2⟩, fun q hq => ?_, h.inj, ?_, h.vne, h.inS, fun j hj => Nat.lt_of_lt_of_le (h.lt j hj) hU.size, hok⟩, hU.mono fun j _ hj => hj ▸ h.inS.2.2.2 p hpl⟩
  · show MapF strE w' (mb q) (Dc (insK k s.L) s.parts q)
    by_cases e : q = p
    · subst e
      refine hm.congr fun y => ?_
      unfold Dc
      rw [hasK_ins]
      by_cases e : y = k
      · subst e; simp [hp]
      · have : ¬ k = y := fun h => e h.symm
        simp [e, this]
    · refine ((h.cl q hq).upd hU fun e2 => e (h.inj q p hq hpl e2)).congr fun y => ?_
      unfold Dc
      rw [hasK_ins]
      by_cases e3 : k = y
      · subst e3
        have : ¬ partK s.parts k = q := by rw [hp]; exact fun h => e h.symm
        simp [this]
      · simp [e3]
  · refine (h.vals.upd hU fun e => h.vne p hpl e.symm).congr fun y => ?_
    unfold Dv
    simp only [valK_ins h.ok.asc]
end
/-! what is refused, what is not -/
section
variable {s : St} {ks : List ByteArray}
theorem claimE_key (h : (ks.any fun k => !validK k) = true) : claimE s ks = 30 := by unfold claimE; rw [if_pos h]
theorem rise_no {k : Nat} (hk : k + 1 < ks.length) (h : ltB ks[k] ks[k + 1] = false) : riseB ks = false := by
  unfold riseB
  rw [List.all_eq_false]
  refine ⟨k, List.mem_range.2 (by omega), ?_⟩
  simp [List.getD_eq_getElem?_getD, hk, show k < ks.length by omega, h]
theorem rise_yes (h : ∀ j (hj : j + 1 < ks.length), ltB ks[j] ks[j + 1] = true) : riseB ks = true := by
  unfold riseB
  rw [List.all_eq_true]
  intro j hj
  have := List.mem_range.1 hj
  have h2 := h j (by omega)
  simp [List.getD_eq_getElem?_getD, show j + 1 < ks.length by omega, show j < ks.length by omega, h2]
theorem claimE_rise (h : (ks.any fun k => !validK k) = false) (h2 : riseB ks = false) : claimE s ks = 40 := by unfold claimE; rw [if_neg (by simp [h]), if_pos h2]
theorem claimE_full (h : (ks.any fun k => !validK k) = false) (h2 : riseB ks = true) {p : Nat} (hp : p < s.parts) (h3 : 0 < moreK s ks p) (h4 : s.room < cntP s.parts p s.L + moreK s ks p) : claimE s ks = 5 := by
  unfold claimE
  rw [if_neg (by simp [h]), if_neg (by simp [h2])]
  exact if_pos (List.any_eq_true.2 ⟨p, List.mem_range.2 hp, by simp [h3, h4]⟩)
theorem claimE_ok (h : (ks.any fun k => !validK k) = false) (h2 : riseB ks = true) (h3 : ∀ p, p < s.parts → ¬ (0 < moreK s ks p ∧ s.room < cntP s.parts p s.L + moreK s ks p)) : claimE s ks = 0 := by
  unfold claimE
  rw [if_neg (by simp [h]), if_neg (by simp [h2]), if_neg]
  intro h4
  obtain ⟨p, hp, h5⟩ := List.any_eq_true.1 h4
  simp at h5
  exact h3 p (List.mem_range.1 hp) h5
theorem claimS_no (h : claimE s ks ≠ 0) : claimS s ks = s := by unfold claimS; rw [if_neg h]
theorem claimS_yes (h : claimE s ks = 0) : claimS s ks = { s with L := insAll s.L ks } := by unfold claimS; rw [if_pos h]
/-- the first of the keys may be claimed too -/
theorem claimE_take (h : claimE s ks = 0) (k : Nat) : claimE s (ks.take k) = 0 := by
  unfold claimE at h
  split at h; · cases h
  rename_i h1
  split at h; · cases h
  rename_i h2
  split at h; · cases h
  rename_i h3
  refine claimE_ok ?_ ?_ fun p hp h4 => h3 ?_
  · rw [List.any_eq_false]
    intro x hx
    simp at h1
    simp [h1 x (List.mem_of_mem_take hx)]
  · refine rise_yes fun j hj => ?_
    have hl : (ks.take k).length ≤ ks.length := by simp; omega
    have := rise_lt (ks := ks) (by simpa using h2) j (j + 1) (by omega) (by omega)
    simpa [List.getD_eq_getElem?_getD, show j + 1 < ks.length by omega, show j < ks.length by omega] using this
  · have hle : moreK s (ks.take k) p ≤ moreK s ks p := (List.take_sublist k ks).countP_le
    exact List.any_eq_true.2 ⟨p, List.mem_range.2 hp, by simp; omega⟩
theorem pre_ok (h : s.Ok) (he : claimE s ks = 0) (k : Nat) : St.Ok { s with L := insAll s.L (ks.take k) } := by
  have := claim_ok h (ks.take k)
  rwa [claimS_yes (claimE_take he k)] at this
theorem insAll_snoc {L : List Kv} (l : List ByteArray) (k : ByteArray) : insAll L (l ++ [k]) = insK k (insAll L l) := by unfold insAll; rw [List.foldl_append]; rfl
theorem take_snoc {α : Type} {l : List α} {k : Nat} (h : k < l.length) : l.take (k + 1) = l.take k ++ [l[k]] := by
  rw [List.take_add_one, List.getElem?_eq_getElem h]; rfl
end
end Go.Proofs.YtnbbdjbjbjlcpaaDoor
