/- interp: a run reads at most 64 keys. -/
import Derived.Test.YtdmogoaaecdbaaaGreatDoorJ21
namespace Go.Proofs.YtdmogoaaecdbaaaGreatDoor
open Go.RowKit
set_option linter.unusedVariables false
set_option linter.unusedSimpArgs false

theorem run_rd {p : Pr} {args : List Vl} {src : List Kv} {f : Int} (hcs : ∀ v ∈ p.cs, v.rng) (har : ∀ v ∈ args, v.rng) (hsr : ∀ x ∈ src, x.2.rng) : (runO p args src true f).rd.length ≤ 64 := by
  by_cases hc : p.check.1 ≠ 0
  · unfold runO
    rw [if_pos hc]
    exact Nat.zero_le _
  by_cases hn : (okArgs p args true f && args.all okA) = false
  · unfold runO
    rw [if_neg hc, if_pos hn]
    exact Nat.zero_le _
  have hyes : okArgs p args true f = true ∧ args.all okA = true := by
    rw [Bool.not_eq_false, Bool.and_eq_true] at hn; exact hn
  have hk := hyes.1
  unfold okArgs at hk
  simp only [Bool.and_eq_true, decide_eq_true_eq] at hk
  have hvok : ∀ v ∈ args, VOk v := fun v hm => by
    have := List.all_eq_true.1 hyes.2 v hm
    unfold okA at this
    simp at this
    exact ⟨this.1, har v hm⟩
  obtain ⟨d, G⟩ := good_of (by simpa using hc) hcs (by rw [← hk.1.1.1]) hvok hsr
  have hfin := (runP_ok G ((mc0 f.toNat).fuel + 1) (mc0_ok G (fuel := f.toNat) (by omega))).1
  unfold runO
  rw [if_neg hc, if_neg hn]
  show (srtK _).length ≤ 64
  have h1 := nodup_leB (m := uniq (endP p args src (mc0 f.toNat)).2.reads) (srtK_nodup (endP p args src (mc0 f.toNat)).2.reads) fun k hk => uniq_mem.2 (srtK_mem.1 hk)
  have h2 : cntRW (endP p args src (mc0 f.toNat)).2.reads (endP p args src (mc0 f.toNat)).2.writes ≤ 64 := hfin.rw_
  unfold cntRW at h2
  omega
end Go.Proofs.YtdmogoaaecdbaaaGreatDoor
