/- interp: a job of the arguments, run. -/
import Derived.Test.YtdmogoaaecdbaaaGreatDoorZOpen
import Derived.Test.YtdmogoaaecdbaaaGreatDoorZSame2
namespace Go.Proofs.YtdmogoaaecdbaaaGreatDoor
open Go.RowKit
set_option linter.unusedVariables false
set_option linter.unusedSimpArgs false

/-- the arguments of a job, as the law's run wants them -/
structure JbIn (w : World) (Ac Ai Aa Al : Option Addr) (p : Pr) (args : List Vl) (src : List Kv) : Prop where
  hp : PrIn (fun b => b < w.heap.size) w Ac Ai p
  ha : Rd (fun b => b < w.heap.size) w 3 Aa args.length (vcells args)
  hs : Rd (fun b => b < w.heap.size) w 4 Al src.length (srcCells src)
  hn : p.cs.length ≤ 2000 ∧ p.code.length ≤ 2000 ∧ args.length ≤ 2000 ∧ src.length ≤ 2000
  az : ∀ v ∈ args, v.s.size ≤ 9223372036854775806
  cr : ∀ v ∈ p.cs, v.rng
  ar : ∀ v ∈ args, v.rng
  sr : ∀ x ∈ src, x.2.rng
  sz : ∀ x ∈ src, x.2.s.size ≤ 9223372036854775806
theorem JbArg.jbIn {w : World} {Ac Ai Aa Al : Option Addr} {p : Pr} {args : List Vl} {src : List Kv} {f : Int} (h : JbArg w Ac Ai Aa Al p args src) (hl : longJ p args src f = false) : JbIn w Ac Ai Aa Al p args src := by
  unfold longJ at hl
  simp only [Bool.or_eq_false_iff, decide_eq_false_iff_not] at hl
  have hl := hl.1
  refine ⟨h.p.prIn (by omega), h.a, h.s, ⟨by omega, by omega, by omega, by omega⟩, fun v hv => ?_, fun v hv => (h.p.v v hv).1, fun v hv => (h.av v hv).1, fun x hx => (h.sv x hx).1, fun x hx => ?_⟩
  · have := (h.av v hv).2; unfold big at this; omega
  · have := (h.sv x hx).2; unfold big at this; omega
theorem JbIn.run {w w' : World} {Ac Ai Aa Al : Option Addr} {p : Pr} {args : List Vl} {src : List Kv} (h : JbIn w Ac Ai Aa Al p args src) (hb : Below w.heap.size w w') (he : Env w') (f : Int) (cc ci ca cl : Nat) :
    Calls Tryz.prog 19 #[.agg #[.int .i64 p.args, .slice Ac p.cs.length cc, .slice Ai p.code.length ci, .slice Aa args.length ca, .slice Al src.length cl, .int .i64 f]] w' fun e w'' => ∃ v sb, e = .returned (.tuple #[v, .pointer (some ⟨sb, 0, none⟩)]) ∧ OcV w'.heap.size w'' v (runO p args src true f) ∧ SrcV w'.heap.size w'' sb src (askO p args src true f) ∧ Below w'.heap.size w' w'' ∧ w'.heap.size ≤ sb :=
  runL_any (h.hp.below hb) (h.ha.below_all hb) (h.hs.below_all hb) h.hn h.az h.cr h.ar h.sr h.sz he
end Go.Proofs.YtdmogoaaecdbaaaGreatDoor
