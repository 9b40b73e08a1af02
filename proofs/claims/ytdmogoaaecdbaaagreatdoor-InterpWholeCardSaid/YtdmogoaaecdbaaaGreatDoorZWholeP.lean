/- InterpWhole: the plain law: with an error nothing is written nor told; the footprint has just what was written. -/
import Derived.Test.YtdmogoaaecdbaaaGreatDoorZRdP
namespace Go.Proofs.YtdmogoaaecdbaaaGreatDoor
open Go.RowKit
set_option linter.unusedVariables false
set_option linter.unusedSimpArgs false

theorem wkeys_len {m : Mc} (h : m.writes.length ≤ 32) : m.wkeys.length ≤ 32 := by
  have h1 := nodup_leB (m := m.writes.map (·.key)) (srtK_nodup (m.writes.map (·.key))) fun k hk => srtK_mem.1 hk
  rw [List.length_map] at h1
  exact Nat.le_trans h1 h
/-- what is true of an outcome -/
structure Oc.Whole (o : Oc) : Prop where
  err : o.code ≠ 0 → o.out = [] ∧ o.ws = []
  len : o.code = 0 → o.ws.length = o.wr.length
  out : o.out.length ≤ 16
  ws : o.ws.length ≤ 32
  few : (srtK (o.rd ++ o.wr)).length ≤ 64
  key : ∀ (i : Nat) (x : Wr), o.ws[i]? = some x → o.wr[i]? = some x.key ∧ (x.gone = true → x.v = vl0) ∧ (x.gone = false → x.v.k ≠ 0 ∧ x.v.ok = true)
theorem whole_oc0 (c a : Int) (h : c ≠ 0) : (oc0 c a).Whole := ⟨fun _ => ⟨rfl, rfl⟩, fun h2 => absurd h2 h, Nat.zero_le _, Nat.zero_le _, by show (srtK []).length ≤ 64; rw [srtK_nil]; exact Nat.zero_le _, fun i x hx => by
  have : ([] : List Wr)[i]? = some x := hx
  simp at this⟩
theorem whole_end {e : Er} {m : Mc} (h : m.Ok0) : (endO (e, m)).Whole := by
  have hfew : (srtK (srtK m.reads ++ m.wkeys)).length ≤ 64 := by
    have h1 := nodup_leB (m := uniq m.reads ++ (m.writes.map (·.key)).filter fun k => !memB k m.reads) (srtK_nodup (srtK m.reads ++ m.wkeys)) fun k hk => by
      rw [srtK_mem, List.mem_append, srtK_mem] at hk
      rw [List.mem_append, uniq_mem, List.mem_filter]
      by_cases hm : k ∈ m.reads
      · exact .inl hm
      · right
        refine ⟨srtK_mem.1 (hk.resolve_left hm), ?_⟩
        cases h : memB k m.reads
        · rfl
        · exact absurd (memB_iff.1 h) hm
    rw [List.length_append] at h1
    exact Nat.le_trans h1 h.rw_
  have hk : ∀ (i : Nat) (x : Wr), m.wrs[i]? = some x → m.wkeys[i]? = some x.key ∧ (x.gone = true → x.v = vl0) ∧ (x.gone = false → x.v.k ≠ 0 ∧ x.v.ok = true) := fun i x hx => by
    unfold Mc.wrs at hx
    rw [List.getElem?_map] at hx
    cases hw : m.wkeys[i]? with
    | none => rw [hw] at hx; cases hx
    | some k =>
      rw [hw] at hx
      injection hx with hx
      obtain ⟨y, hy⟩ := wkeys_has (m := m) (List.mem_of_getElem? hw)
      have hx : (getW k m.writes).getD wr0 = x := hx
      rw [hy] at hx
      have hx : y = x := hx
      subst hx
      have h1 := getW_some hy
      have h2 := h.wv y h1.1
      exact ⟨by rw [h1.2], h2.2.2.1, fun hg => ⟨h2.2.2.2 hg, h2.2.1.1⟩⟩
  by_cases hc : e.1 = 0
  · refine ⟨fun h2 => absurd hc h2, fun _ => ?_, ?_, ?_, hfew, fun i x hx => ?_⟩
    · show (if e.1 = 0 then m.wrs else []).length = m.wkeys.length
      rw [if_pos hc]; unfold Mc.wrs; rw [List.length_map]
    · show (if e.1 = 0 then m.out else []).length ≤ 16
      rw [if_pos hc]; exact h.out.1
    · show (if e.1 = 0 then m.wrs else []).length ≤ 32
      rw [if_pos hc]; unfold Mc.wrs; rw [List.length_map]; exact wkeys_len h.wl
    · have hx : (if e.1 = 0 then m.wrs else [])[i]? = some x := hx
      rw [if_pos hc] at hx
      exact hk i x hx
  · refine ⟨fun _ => ⟨?_, ?_⟩, fun h2 => absurd h2 hc, ?_, ?_, hfew, fun i x hx => ?_⟩
    · show (if e.1 = 0 then m.out else []) = []
      rw [if_neg hc]
    · show (if e.1 = 0 then m.wrs else []) = []
      rw [if_neg hc]
    · show (if e.1 = 0 then m.out else []).length ≤ 16
      rw [if_neg hc]; exact Nat.zero_le _
    · show (if e.1 = 0 then m.wrs else []).length ≤ 32
      rw [if_neg hc]; exact Nat.zero_le _
    · have hx : (if e.1 = 0 then m.wrs else [])[i]? = some x := hx
      rw [if_neg hc] at hx
      simp at hx
theorem run_whole {p : Pr} {args : List Vl} {src : List Kv} {f : Int} (hcs : ∀ v ∈ p.cs, v.rng) (har : ∀ v ∈ args, v.rng) (hsr : ∀ x ∈ src, x.2.rng) : (runO p args src true f).Whole := by
  by_cases hc : p.check.1 ≠ 0
  · unfold runO
    rw [if_pos hc]
    exact whole_oc0 _ _ hc
  by_cases hn : (okArgs p args true f && args.all okA) = false
  · unfold runO
    rw [if_neg hc, if_pos hn]
    exact whole_oc0 _ _ (by decide)
  have hyes : okArgs p args true f = true ∧ args.all okA = true := by
    rw [Bool.not_eq_false, Bool.and_eq_true] at hn; exact hn
  have hk := hyes.1
  unfold okArgs at hk
  simp only [Bool.and_eq_true, decide_eq_true_eq] at hk
  have hvok : ∀ v ∈ args, VOk v := fun v hm => by
    have := List.all_eq_true.1 hyes.2 v hm
    unfold okA at this
    simp at this
    exact ⟨this.1, har v hm⟩
  obtain ⟨d, G⟩ := good_of (by simpa using hc) hcs (by rw [← hk.1.1.1]) hvok hsr
  have hfin := (runP_ok G ((mc0 f.toNat).fuel + 1) (mc0_ok G (fuel := f.toNat) (by omega))).1
  unfold runO
  rw [if_neg hc, if_neg hn]
  exact whole_end hfin
end Go.Proofs.YtdmogoaaecdbaaaGreatDoor
