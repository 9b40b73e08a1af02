/- Plans in memory, and what compares them. -/
import Derived.Test.YtlnlffpkdeaimaaEq
import Derived.Test.YtlnlffpkdeaimaaClone
namespace Go.Proofs.Ytlnlffpkdeaimaa
open Go.RowKit

structure Pl where
  cl : Int
  tok : Int
  nm : ByteArray
  args : List Val
  how : Int
  rd : List ByteArray
  wr : List ByteArray
deriving DecidableEq
/-- a plan with its slices' addresses and capacities -/
structure RP where
  p : Pl
  A1 : Option Addr
  c1 : Nat
  A2 : Option Addr
  c2 : Nat
  A3 : Option Addr
  c3 : Nat
def RP.cells (r : RP) : List Value := [.int .i64 r.p.cl, .int .u64 r.p.tok, .string r.p.nm, .slice r.A1 r.p.args.length r.c1, .int .i64 r.p.how, .slice r.A2 r.p.rd.length r.c2, .slice r.A3 r.p.wr.length r.c3]
structure RP.ok (S : Nat → Prop) (w : World) (r : RP) : Prop where
  args : Rd S w 3 r.A1 r.p.args.length (vcells r.p.args)
  rd : Rd S w 1 r.A2 r.p.rd.length (r.p.rd.map .string)
  wr : Rd S w 1 r.A3 r.p.wr.length (r.p.wr.map .string)
theorem RP.ok.keep {S : Nat → Prop} {w w' : World} {r : RP} (h : r.ok S w) (hk : ∀ b, S b → b < w.heap.size → w'.heap[b]? = w.heap[b]?) : r.ok S w' := ⟨h.args.keep hk, h.rd.keep hk, h.wr.keep hk⟩
theorem RP.ok.alloc {S : Nat → Prop} {w : World} {r : RP} (h : r.ok S w) (o : Obj) : r.ok S (w.alloc o) := ⟨h.args.alloc o, h.rd.alloc o, h.wr.alloc o⟩
theorem RP.ok.drew {S : Nat → Prop} {w : World} {r : RP} (h : r.ok S w) : r.ok S w.drew := ⟨h.args, h.rd, h.wr⟩
theorem RP.ok.drewN {S : Nat → Prop} {w : World} {r : RP} (h : r.ok S w) (k : Nat) : r.ok S (w.drewN k) := ⟨h.args, h.rd, h.wr⟩
theorem RP.ok.below {S : Nat → Prop} {w w' : World} {r : RP} (h : r.ok S w) (hb : Below w.heap.size w w') : r.ok S w' := h.keep fun b _ hl => hb.block b hl
theorem RP.ok.more {S S' : Nat → Prop} {w : World} {r : RP} (h : r.ok S w) (hS : ∀ b, S b → b < w.heap.size → S' b) : r.ok S' w := ⟨h.args.more hS, h.rd.more hS, h.wr.more hS⟩
/-- no list is longer than a thousand million -/
structure Pl.fits (p : Pl) : Prop where
  args : p.args.length ≤ 1000000000
  rd : p.rd.length ≤ 1000000000
  wr : p.wr.length ≤ 1000000000

def eqR (a b : Pl) : Bool := decide (a.cl = b.cl ∧ a.tok = b.tok ∧ a.nm = b.nm ∧ a.args = b.args)
def eqP (a b : Pl) : Bool := decide (a = b)

theorem ret_bool {a b : Bool} (h : a = b) : Ending.returned (.bool a) = .returned (.bool b) := by rw [h]
theorem eqR_all {a b : Pl} (h1 : a.cl = b.cl) (h2 : a.tok = b.tok) (h3 : a.nm.toList = b.nm.toList) : eqL a.args b.args = eqR a b := by
  have h3' := ba_inj h3
  unfold eqL eqR; rw [Bool.eq_iff_iff]; simp [h1, h2, h3']
theorem eqR_1 {a b : Pl} (h : ¬ a.cl = b.cl) : false = eqR a b := by unfold eqR; simp [h]
theorem eqR_2 {a b : Pl} (h : ¬ a.tok = b.tok) : false = eqR a b := by unfold eqR; simp [h]
theorem eqR_3 {a b : Pl} (h : ¬ a.nm.toList = b.nm.toList) : false = eqR a b := by
  have h' : ¬ a.nm = b.nm := fun e => h (by rw [e])
  unfold eqR; simp [h']
theorem eqP_r {a b : Pl} (h : ¬ eqR a b = true) : false = eqP a b := by
  unfold eqR at h; unfold eqP
  symm; simp only [decide_eq_false_iff_not, decide_eq_true_eq] at *
  rintro rfl; exact h ⟨rfl, rfl, rfl, rfl⟩
theorem eqP_how {a b : Pl} (h : ¬ a.how = b.how) : false = eqP a b := by unfold eqP; symm; simp only [decide_eq_false_iff_not]; rintro rfl; exact h rfl
theorem eqP_rd {a b : Pl} (h : ¬ eqL a.rd b.rd = true) : false = eqP a b := by
  unfold eqL at h; unfold eqP; symm; simp only [decide_eq_false_iff_not, decide_eq_true_eq] at *; rintro rfl; exact h rfl
theorem eqP_all {a b : Pl} (h1 : eqR a b = true) (h2 : a.how = b.how) (h3 : eqL a.rd b.rd = true) : eqL a.wr b.wr = eqP a b := by
  unfold eqR at h1; unfold eqL at *; unfold eqP
  simp only [decide_eq_true_eq] at h1 h3
  obtain ⟨e1, e2, e3, e4⟩ := h1
  rw [Bool.eq_iff_iff]; simp only [decide_eq_true_eq]
  refine ⟨fun h => ?_, fun h => by rw [h]⟩
  cases a; cases b; simp_all
theorem eqP_args {a b : Pl} (h : ¬ eqL a.args b.args = true) : false = eqP a b := by
  unfold eqL at h; unfold eqP; symm; simp only [decide_eq_false_iff_not, decide_eq_true_eq] at *; rintro rfl; exact h rfl
theorem eqR_yes {a b : Pl} (h1 : a.cl = b.cl) (h2 : a.tok = b.tok) (h3 : a.nm.toList = b.nm.toList) (h4 : eqL a.args b.args = true) : eqR a b = true := by
  rw [← eqR_all h1 h2 h3]; exact h4
theorem eqP_of {a b : Pl} (h : false = eqR a b) : false = eqP a b := eqP_r (by rw [← h]; simp)
theorem below4 {w : World} (o1 o2 o3 o4 : Obj) (q : Nat) : Below w.heap.size w (((((w.alloc o1).alloc o2).alloc o3).alloc o4).drewN q) := by
  have h := ((((Below.refl w.heap.size w).alloc (Nat.le_refl _) o1).alloc (by simp) o2).alloc (by simp; omega) o3).alloc (by simp; omega) o4
  exact ⟨h.os, h.tape, h.output, h.size, h.block⟩
theorem below2 {w : World} (o o' : Obj) (q : Nat) : Below w.heap.size w (((w.alloc o).alloc o').drewN q) := by
  have h := ((Below.refl w.heap.size w).alloc (Nat.le_refl _) o).alloc (by simp) o'
  exact ⟨h.os, h.tape, h.output, h.size, h.block⟩

set_option maxHeartbeats 400000 in
theorem requal_any (S S' : Nat → Prop) (a b : RP) (w : World) (ha : a.ok S w) (hb : b.ok S' w) (fa : a.p.fits) (fb : b.p.fits) :
    Calls Try.prog 35 #[.agg #[.int .i64 a.p.cl, .int .u64 a.p.tok, .string a.p.nm, .slice a.A1 a.p.args.length a.c1], .agg #[.int .i64 b.p.cl, .int .u64 b.p.tok, .string b.p.nm, .slice b.A1 b.p.args.length b.c1]] w
      fun e w' => e = .returned (.bool (eqR a.p b.p)) ∧ Below w.heap.size w w' := by
  have hl1 := fa.args
  have hl2 := fb.args
  go_enter Try.func35, Try.ntmps35
  go_wp2_with (go_at_call 42; refine (eqV_any S S' _ _ _ _ _ _ _ ((ha.args.alloc _).alloc _) ((hb.args.alloc _).alloc _) (by simp only [maxLen]; omega) (by simp only [maxLen]; omega)).mono ?_; rintro e w' ⟨rfl, q, rfl⟩)
  all_goals go_ret
  all_goals refine ⟨ret_bool ?_, ?_⟩
  all_goals first | exact eqR_all (by assumption) (by assumption) (by assumption) | exact eqR_3 (by assumption) | exact eqR_2 (by assumption) | exact eqR_1 (by assumption) | exact below2 _ _ _ | exact below2 _ _ 0

set_option maxHeartbeats 400000 in
theorem same_any (S S' : Nat → Prop) (a b : RP) (w : World) (ha : a.ok S w) (hb : b.ok S' w) (fa : a.p.fits) (fb : b.p.fits) :
    Calls Try.prog 30 #[.agg #[.int .i64 a.p.cl, .int .u64 a.p.tok, .string a.p.nm, .slice a.A1 a.p.args.length a.c1, .int .i64 a.p.how, .slice a.A2 a.p.rd.length a.c2, .slice a.A3 a.p.wr.length a.c3],
      .agg #[.int .i64 b.p.cl, .int .u64 b.p.tok, .string b.p.nm, .slice b.A1 b.p.args.length b.c1, .int .i64 b.p.how, .slice b.A2 b.p.rd.length b.c2, .slice b.A3 b.p.wr.length b.c3]] w
      fun e w' => e = .returned (.bool (eqP a.p b.p)) ∧ Below w.heap.size w w' := by
  have hl1 := fa.rd
  have hl2 := fb.rd
  have hl3 := fa.wr
  have hl4 := fb.wr
  go_enter Try.func30, Try.ntmps30
  go_wp2_with fail
  refine (requal_any S S' a b _ ((ha.alloc _).alloc _) ((hb.alloc _).alloc _) fa fb).mono ?_
  rintro e w1 ⟨rfl, hbw⟩
  obtain ⟨hc, hf⟩ := bcell hbw
  have hB : Below w.heap.size w w1 := (((Below.refl w.heap.size w).alloc (Nat.le_refl _) _).alloc (by simp) _).trans (hbw.mono (by simp; omega))
  have ra2 := ha.below hB
  have rb2 := hb.below hB
  clear hbw ha hb
  go_wp2_with (go_at_call 36; refine (eqS_any S S' _ _ _ _ _ _ _ (by first | exact ra2.rd | exact ra2.wr | exact ra2.rd.drewN _ | exact ra2.wr.drewN _) (by first | exact rb2.rd | exact rb2.wr | exact rb2.rd.drewN _ | exact rb2.wr.drewN _) (by simp only [maxLen]; omega) (by simp only [maxLen]; omega)).mono ?_; rintro e w' ⟨rfl, q, rfl⟩)
  all_goals go_ret
  all_goals refine ⟨ret_bool ?_, ?_⟩
  all_goals first | exact hB | exact below_drewN hB _ | exact eqP_all (by assumption) (by assumption) (by assumption) | exact eqP_how (by assumption) | exact eqP_rd (by assumption) | exact eqP_r (by assumption)

set_option maxHeartbeats 800000 in
theorem esame_any (S S' : Nat → Prop) (a b : RP) (w : World) (ha : a.ok S w) (hb : b.ok S' w) (fa : a.p.fits) (fb : b.p.fits) :
    Calls Try.prog 34 #[.agg #[.int .i64 a.p.cl, .int .u64 a.p.tok, .string a.p.nm, .slice a.A1 a.p.args.length a.c1, .int .i64 a.p.how, .slice a.A2 a.p.rd.length a.c2, .slice a.A3 a.p.wr.length a.c3],
      .agg #[.int .i64 b.p.cl, .int .u64 b.p.tok, .string b.p.nm, .slice b.A1 b.p.args.length b.c1, .int .i64 b.p.how, .slice b.A2 b.p.rd.length b.c2, .slice b.A3 b.p.wr.length b.c3]] w
      fun e w' => e = .returned (.bool (eqP a.p b.p)) ∧ Below w.heap.size w w' := by
  have hl1 := fa.rd
  have hl2 := fb.rd
  have hl3 := fa.wr
  have hl4 := fb.wr
  have hl5 := fa.args
  have hl6 := fb.args
  go_enter Try.func34, Try.ntmps34
  go_wp2_with (first
    | (go_at_call 40; refine (values_any S S' _ _ _ _ _ _ _ ((((ha.args.alloc _).alloc _).alloc _).alloc _) ((((hb.args.alloc _).alloc _).alloc _).alloc _) (by simp only [maxLen]; omega) (by simp only [maxLen]; omega)).mono ?_; rintro e w' ⟨rfl, q, rfl⟩)
    | (go_at_call 41; refine (texts_any S S' _ _ _ _ _ _ _ (by first | exact (((((ha.rd.alloc _).alloc _).alloc _).alloc _)).drewN _ | exact (((((ha.wr.alloc _).alloc _).alloc _).alloc _)).drewN _) (by first | exact (((((hb.rd.alloc _).alloc _).alloc _).alloc _)).drewN _ | exact (((((hb.wr.alloc _).alloc _).alloc _).alloc _)).drewN _) (by simp only [maxLen]; omega) (by simp only [maxLen]; omega)).mono ?_; rintro e w' ⟨rfl, q, rfl⟩))
  all_goals go_ret
  all_goals refine ⟨ret_bool ?_, ?_⟩
  all_goals first | exact below4 _ _ _ _ _ | exact below4 _ _ _ _ 0 | exact eqP_all (eqR_yes (by assumption) (by assumption) (by assumption) (by assumption)) (by assumption) (by assumption) | exact eqP_rd (by assumption) | exact eqP_how (by assumption) | exact eqP_args (by assumption) | exact eqP_of (eqR_3 (by assumption)) | exact eqP_of (eqR_2 (by assumption)) | exact eqP_of (eqR_1 (by assumption))

end Go.Proofs.Ytlnlffpkdeaimaa
