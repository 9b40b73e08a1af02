/- queue: Submit. -/
import Derived.Test.YtppcjaljhahdnaaQTake
namespace Go.Proofs.Ytppcjaljhahdnaa
open Go.RowKit
set_option linter.unusedVariables false
set_option linter.unusedSimpArgs false

def subBad (c : Int) : Bool := decide (c < 0 ∨ 64 ≤ c)
/-- what Submit answers -/
def subCode (mt sh : Int) (L : List Pl) (T : Int → List Int) (p : Pl) : Int :=
  if subBad p.cl = true then 2 else if p.tok ∈ T p.cl then 100 else if (L.length : Int) = mt then 5 else if (cnt p.cl L : Int) = sh then 101 else 0
/-- the tokens that are seen then -/
def subTok (wn : Int) (T : Int → List Int) (p : Pl) : Int → List Int := fun c => if c = p.cl then (T p.cl ++ [p.tok]).drop ((T p.cl).length + 1 - wn.toNat) else T c
section
variable {S : Nat → Prop} {w : World} {g : Nat} {mt sh wn : Int} {L : List Pl} {T : Int → List Int}
set_option maxHeartbeats 1000000 in
theorem submit_bad (r : RP) (h : QAt S w g mt sh wn L T) (hb : subBad r.p.cl = true) : Calls Try.prog 14 #[.pointer (some ⟨g, 0, none⟩), .agg #[.int .i64 r.p.cl, .int .u64 r.p.tok, .string r.p.nm, .slice r.A1 r.p.args.length r.c1, .int .i64 r.p.how, .slice r.A2 r.p.rd.length r.c2, .slice r.A3 r.p.wr.length r.c3]] w fun e w' => e = .returned (.int .i64 2) ∧ Below w.heap.size w w' := by
  have hb := of_decide_eq_true hb
  clear h
  by_cases h1 : r.p.cl < 0
  · clear hb
    go_enter Try.func14, Try.ntmps14
    go_wp2_with fail
    go_ret
    exact ⟨rfl, (Below.refl _ _).alloc (Nat.le_refl _) _⟩
  · have h2 : 64 ≤ r.p.cl := by omega
    clear hb
    go_enter Try.func14, Try.ntmps14
    go_wp2_with fail
    go_ret
    exact ⟨rfl, (Below.refl _ _).alloc (Nat.le_refl _) _⟩
set_option maxRecDepth 100000 in
set_option maxHeartbeats 1000000 in
theorem submit_seen (r : RP) (h : QAt S w g mt sh wn L T) (hb : subBad r.p.cl = false) (hs : r.p.tok ∈ T r.p.cl) : Calls Try.prog 14 #[.pointer (some ⟨g, 0, none⟩), .agg #[.int .i64 r.p.cl, .int .u64 r.p.tok, .string r.p.nm, .slice r.A1 r.p.args.length r.c1, .int .i64 r.p.how, .slice r.A2 r.p.rd.length r.c2, .slice r.A3 r.p.wr.length r.c3]] w fun e w' => e = .returned (.int .i64 100) ∧ Below w.heap.size w w' := by
  obtain ⟨mo, ms, A, c, rs, of, tk, q, rfl, hT⟩ := h
  have h1 : ¬ r.p.cl < 0 := by have := of_decide_eq_false hb; omega
  have h2 : ¬ 64 ≤ r.p.cl := by have := of_decide_eq_false hb; omega
  have hB0 : Below w.heap.size w (w.alloc (.cells #[.int .i64 r.p.cl, .int .u64 r.p.tok, .string r.p.nm, .slice r.A1 r.p.args.length r.c1, .int .i64 r.p.how, .slice r.A2 r.p.rd.length r.c2, .slice r.A3 r.p.wr.length r.c3] 40)) := (Below.refl _ _).alloc (Nat.le_refl _) _
  have q0 := q.below hB0
  have kb : Blk (w.alloc (.cells #[.int .i64 r.p.cl, .int .u64 r.p.tok, .string r.p.nm, .slice r.A1 r.p.args.length r.c1, .int .i64 r.p.how, .slice r.A2 r.p.rd.length r.c2, .slice r.A3 r.p.wr.length r.c3] 40)) w.heap.size 40 #[.int .i64 r.p.cl, .int .u64 r.p.tok, .string r.p.nm, .slice r.A1 r.p.args.length r.c1, .int .i64 r.p.how, .slice r.A2 r.p.rd.length r.c2, .slice r.A3 r.p.wr.length r.c3] := Blk.new _ _ _
  obtain ⟨c0, c1, c2, c3, c4, c5⟩ := q0.cells
  have hlk : (Instr.lookup 64 (.map (some ms)) (.int .i64 r.p.cl) false).run Try.prog (w.alloc (.cells #[.int .i64 r.p.cl, .int .u64 r.p.tok, .string r.p.nm, .slice r.A1 r.p.args.length r.c1, .int .i64 r.p.how, .slice r.A2 r.p.rd.length r.c2, .slice r.A3 r.p.wr.length r.c3] 40)).drew = .ok (tokVal tk r.p.cl) (w.alloc (.cells #[.int .i64 r.p.cl, .int .u64 r.p.tok, .string r.p.nm, .slice r.A1 r.p.args.length r.c1, .int .i64 r.p.how, .slice r.A2 r.p.rd.length r.c2, .slice r.A3 r.p.wr.length r.c3] 40)).drew := q0.seenLook r.p.cl 1
  obtain ⟨ht, hn, hS⟩ := q0.tokAt r.p.cl
  have hw := q.wn1.2
  rw [hT r.p.cl] at ht hn
  obtain ⟨A', c', hv0, hc1, hc2⟩ := ht.form
  have hv := hid hv0
  clear hv0
  rw [hv.out] at ht hlk
  have hrd := ht.rd.drew
  have d0 : (w.alloc (.cells #[.int .i64 r.p.cl, .int .u64 r.p.tok, .string r.p.nm, .slice r.A1 r.p.args.length r.c1, .int .i64 r.p.how, .slice r.A2 r.p.rd.length r.c2, .slice r.A3 r.p.wr.length r.c3] 40)).cell? ⟨w.heap.size, 0, none⟩ = some (.int .i64 r.p.cl) := kb.cell 0
  have d1 : (w.alloc (.cells #[.int .i64 r.p.cl, .int .u64 r.p.tok, .string r.p.nm, .slice r.A1 r.p.args.length r.c1, .int .i64 r.p.how, .slice r.A2 r.p.rd.length r.c2, .slice r.A3 r.p.wr.length r.c3] 40)).cell? ⟨w.heap.size, 1, none⟩ = some (.int .u64 r.p.tok) := kb.cell 1
  have hq0 := hid q0
  have hqq := hid q
  clear q q0 hb kb
  go_enter Try.func14, Try.ntmps14
  go_wp2_with fail
  have hgW := hB0.size
  generalize w.alloc (.cells #[.int .i64 r.p.cl, .int .u64 r.p.tok, .string r.p.nm, .slice r.A1 r.p.args.length r.c1, .int .i64 r.p.how, .slice r.A2 r.p.rd.length r.c2, .slice r.A3 r.p.wr.length r.c3] 40) = W0 at *
  go_still_tail 9, (by kernel_rfl)
  change wpList _ _ _ _ _ W0.drew
  clear hlk
  go_wp2_with (go_at_call 31; refine (contains_any _ A' c' (T r.p.cl) r.p.tok _ hrd (by omega)).mono ?_; rw [decide_eq_true hs]; rintro e w1 ⟨rfl, rfl⟩)
  go_ret
  exact ⟨rfl, hB0.drew⟩
set_option maxRecDepth 100000 in
set_option maxHeartbeats 1000000 in
theorem submit_full (r : RP) (h : QAt S w g mt sh wn L T) (hb : subBad r.p.cl = false) (hs : ¬ r.p.tok ∈ T r.p.cl) (hf : (L.length : Int) = mt) : Calls Try.prog 14 #[.pointer (some ⟨g, 0, none⟩), .agg #[.int .i64 r.p.cl, .int .u64 r.p.tok, .string r.p.nm, .slice r.A1 r.p.args.length r.c1, .int .i64 r.p.how, .slice r.A2 r.p.rd.length r.c2, .slice r.A3 r.p.wr.length r.c3]] w fun e w' => e = .returned (.int .i64 5) ∧ Below w.heap.size w w' := by
  have hf2 : ((L.length : Int) == mt) = true := by simpa using hf
  clear hf
  obtain ⟨mo, ms, A, c, rs, of, tk, q, rfl, hT⟩ := h
  rw [show (plans rs).length = rs.length from by simp [plans]] at hf2
  have h1 : ¬ r.p.cl < 0 := by have := of_decide_eq_false hb; omega
  have h2 : ¬ 64 ≤ r.p.cl := by have := of_decide_eq_false hb; omega
  have hB0 : Below w.heap.size w (w.alloc (.cells #[.int .i64 r.p.cl, .int .u64 r.p.tok, .string r.p.nm, .slice r.A1 r.p.args.length r.c1, .int .i64 r.p.how, .slice r.A2 r.p.rd.length r.c2, .slice r.A3 r.p.wr.length r.c3] 40)) := (Below.refl _ _).alloc (Nat.le_refl _) _
  have q0 := q.below hB0
  have kb : Blk (w.alloc (.cells #[.int .i64 r.p.cl, .int .u64 r.p.tok, .string r.p.nm, .slice r.A1 r.p.args.length r.c1, .int .i64 r.p.how, .slice r.A2 r.p.rd.length r.c2, .slice r.A3 r.p.wr.length r.c3] 40)) w.heap.size 40 #[.int .i64 r.p.cl, .int .u64 r.p.tok, .string r.p.nm, .slice r.A1 r.p.args.length r.c1, .int .i64 r.p.how, .slice r.A2 r.p.rd.length r.c2, .slice r.A3 r.p.wr.length r.c3] := Blk.new _ _ _
  obtain ⟨c0, c1, c2, c3, c4, c5⟩ := q0.cells
  have hlk : (Instr.lookup 64 (.map (some ms)) (.int .i64 r.p.cl) false).run Try.prog (w.alloc (.cells #[.int .i64 r.p.cl, .int .u64 r.p.tok, .string r.p.nm, .slice r.A1 r.p.args.length r.c1, .int .i64 r.p.how, .slice r.A2 r.p.rd.length r.c2, .slice r.A3 r.p.wr.length r.c3] 40)).drew = .ok (tokVal tk r.p.cl) (w.alloc (.cells #[.int .i64 r.p.cl, .int .u64 r.p.tok, .string r.p.nm, .slice r.A1 r.p.args.length r.c1, .int .i64 r.p.how, .slice r.A2 r.p.rd.length r.c2, .slice r.A3 r.p.wr.length r.c3] 40)).drew := q0.seenLook r.p.cl 1
  obtain ⟨ht, hn, hS⟩ := q0.tokAt r.p.cl
  have hw := q.wn1.2
  rw [hT r.p.cl] at ht hn
  obtain ⟨A', c', hv0, hc1, hc2⟩ := ht.form
  have hv := hid hv0
  clear hv0
  rw [hv.out] at ht hlk
  have hrd := ht.rd.drew
  have d0 : (w.alloc (.cells #[.int .i64 r.p.cl, .int .u64 r.p.tok, .string r.p.nm, .slice r.A1 r.p.args.length r.c1, .int .i64 r.p.how, .slice r.A2 r.p.rd.length r.c2, .slice r.A3 r.p.wr.length r.c3] 40)).cell? ⟨w.heap.size, 0, none⟩ = some (.int .i64 r.p.cl) := kb.cell 0
  have d1 : (w.alloc (.cells #[.int .i64 r.p.cl, .int .u64 r.p.tok, .string r.p.nm, .slice r.A1 r.p.args.length r.c1, .int .i64 r.p.how, .slice r.A2 r.p.rd.length r.c2, .slice r.A3 r.p.wr.length r.c3] 40)).cell? ⟨w.heap.size, 1, none⟩ = some (.int .u64 r.p.tok) := kb.cell 1
  have hq0 := hid q0
  have hqq := hid q
  clear q q0 hb kb
  go_enter Try.func14, Try.ntmps14
  go_wp2_with fail
  have hgW := hB0.size
  generalize w.alloc (.cells #[.int .i64 r.p.cl, .int .u64 r.p.tok, .string r.p.nm, .slice r.A1 r.p.args.length r.c1, .int .i64 r.p.how, .slice r.A2 r.p.rd.length r.c2, .slice r.A3 r.p.wr.length r.c3] 40) = W0 at *
  go_still_tail 9, (by kernel_rfl)
  change wpList _ _ _ _ _ W0.drew
  clear hlk
  go_wp2_with (go_at_call 31; refine (contains_any _ A' c' (T r.p.cl) r.p.tok _ hrd (by omega)).mono ?_; rw [decide_eq_false hs]; rintro e w1 ⟨rfl, rfl⟩)
  go_quiet (fail)
  go_wp2_with fail
  go_ret
  exact ⟨rfl, below_drewN hB0.drew _⟩
set_option maxRecDepth 100000 in
set_option maxHeartbeats 1000000 in
theorem submit_share (r : RP) (h : QAt S w g mt sh wn L T) (hb : subBad r.p.cl = false) (hs : ¬ r.p.tok ∈ T r.p.cl) (hf : ¬ (L.length : Int) = mt) (hsh : (cnt r.p.cl L : Int) = sh) : Calls Try.prog 14 #[.pointer (some ⟨g, 0, none⟩), .agg #[.int .i64 r.p.cl, .int .u64 r.p.tok, .string r.p.nm, .slice r.A1 r.p.args.length r.c1, .int .i64 r.p.how, .slice r.A2 r.p.rd.length r.c2, .slice r.A3 r.p.wr.length r.c3]] w fun e w' => e = .returned (.int .i64 101) ∧ Below w.heap.size w w' := by
  have hf2 : ((L.length : Int) == mt) = false := by simpa using hf
  have hsh2 : ((cnt r.p.cl L : Int) == sh) = true := by simpa using hsh
  clear hf hsh
  obtain ⟨mo, ms, A, c, rs, of, tk, q, rfl, hT⟩ := h
  rw [show (plans rs).length = rs.length from by simp [plans]] at hf2
  have h1 : ¬ r.p.cl < 0 := by have := of_decide_eq_false hb; omega
  have h2 : ¬ 64 ≤ r.p.cl := by have := of_decide_eq_false hb; omega
  have hB0 : Below w.heap.size w (w.alloc (.cells #[.int .i64 r.p.cl, .int .u64 r.p.tok, .string r.p.nm, .slice r.A1 r.p.args.length r.c1, .int .i64 r.p.how, .slice r.A2 r.p.rd.length r.c2, .slice r.A3 r.p.wr.length r.c3] 40)) := (Below.refl _ _).alloc (Nat.le_refl _) _
  have q0 := q.below hB0
  have kb : Blk (w.alloc (.cells #[.int .i64 r.p.cl, .int .u64 r.p.tok, .string r.p.nm, .slice r.A1 r.p.args.length r.c1, .int .i64 r.p.how, .slice r.A2 r.p.rd.length r.c2, .slice r.A3 r.p.wr.length r.c3] 40)) w.heap.size 40 #[.int .i64 r.p.cl, .int .u64 r.p.tok, .string r.p.nm, .slice r.A1 r.p.args.length r.c1, .int .i64 r.p.how, .slice r.A2 r.p.rd.length r.c2, .slice r.A3 r.p.wr.length r.c3] := Blk.new _ _ _
  obtain ⟨c0, c1, c2, c3, c4, c5⟩ := q0.cells
  have hlk : (Instr.lookup 64 (.map (some ms)) (.int .i64 r.p.cl) false).run Try.prog (w.alloc (.cells #[.int .i64 r.p.cl, .int .u64 r.p.tok, .string r.p.nm, .slice r.A1 r.p.args.length r.c1, .int .i64 r.p.how, .slice r.A2 r.p.rd.length r.c2, .slice r.A3 r.p.wr.length r.c3] 40)).drew = .ok (tokVal tk r.p.cl) (w.alloc (.cells #[.int .i64 r.p.cl, .int .u64 r.p.tok, .string r.p.nm, .slice r.A1 r.p.args.length r.c1, .int .i64 r.p.how, .slice r.A2 r.p.rd.length r.c2, .slice r.A3 r.p.wr.length r.c3] 40)).drew := q0.seenLook r.p.cl 1
  obtain ⟨ht, hn, hS⟩ := q0.tokAt r.p.cl
  have hw := q.wn1.2
  rw [hT r.p.cl] at ht hn
  obtain ⟨A', c', hv0, hc1, hc2⟩ := ht.form
  have hv := hid hv0
  clear hv0
  rw [hv.out] at ht hlk
  have hrd := ht.rd.drew
  have d0 : (w.alloc (.cells #[.int .i64 r.p.cl, .int .u64 r.p.tok, .string r.p.nm, .slice r.A1 r.p.args.length r.c1, .int .i64 r.p.how, .slice r.A2 r.p.rd.length r.c2, .slice r.A3 r.p.wr.length r.c3] 40)).cell? ⟨w.heap.size, 0, none⟩ = some (.int .i64 r.p.cl) := kb.cell 0
  have d1 : (w.alloc (.cells #[.int .i64 r.p.cl, .int .u64 r.p.tok, .string r.p.nm, .slice r.A1 r.p.args.length r.c1, .int .i64 r.p.how, .slice r.A2 r.p.rd.length r.c2, .slice r.A3 r.p.wr.length r.c3] 40)).cell? ⟨w.heap.size, 1, none⟩ = some (.int .u64 r.p.tok) := kb.cell 1
  have hq0 := hid q0
  have hqq := hid q
  clear q q0 hb kb
  go_enter Try.func14, Try.ntmps14
  go_wp2_with fail
  have hgW := hB0.size
  generalize w.alloc (.cells #[.int .i64 r.p.cl, .int .u64 r.p.tok, .string r.p.nm, .slice r.A1 r.p.args.length r.c1, .int .i64 r.p.how, .slice r.A2 r.p.rd.length r.c2, .slice r.A3 r.p.wr.length r.c3] 40) = W0 at *
  go_still_tail 9, (by kernel_rfl)
  change wpList _ _ _ _ _ W0.drew
  clear hlk
  go_wp2_with (go_at_call 31; refine (contains_any _ A' c' (T r.p.cl) r.p.tok _ hrd (by omega)).mono ?_; rw [decide_eq_false hs]; rintro e w1 ⟨rfl, rfl⟩)
  have hlk2 : ∀ k, (Instr.lookup 63 (.map (some mo)) (.int .i64 r.p.cl) false).run Try.prog (W0.drewN k) = .ok (.int .i64 (cnt r.p.cl (plans rs) : Nat)) (W0.drewN k) := fun k => hq0.out.ofLook r.p.cl k
  go_quiet (fail)
  go_wp2_with fail
  go_quiet (fail)
  go_wp2_with fail
  go_ret
  exact ⟨rfl, by first | exact below_drewN (below_drewN hB0.drew _) _ | exact below_drewN hB0.drew _ | exact below_drewN hB0 _⟩
end

end Go.Proofs.Ytppcjaljhahdnaa
