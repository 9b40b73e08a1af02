/- ValueBack holds where the arguments are of the row's bulk: there and back as bytes and as literals; unlike values have unlike ones; the law returns true. Condition: the tables of math/bits and internal/strconv and the errors of strconv hold what the row lists; the card ties that to the program. -/
import Derived.Test.YtbnpidmlcjofiaaDoorZBackW
import Derived.Test.YtbnpidmlcjofiaaDoorZOpenB
import Derived.Test.YtbnpidmlcjofiaaDoorJ12
import Derived.Test.YtbnpidmlcjofiaaDoorCards
import Derived.Test.YtbnpidmlcjofiaaDoorTie
import Derived.ProofKit
import Derived.OpenShut
import Derived.Deep.DeepHandedRow
import Derived.Deep.DeepWitnessRowRef
namespace Go.Proofs.YtbnpidmlcjofiaaDoor.back
set_option linter.unusedVariables false
set_option linter.unusedSimpArgs false
open Go.ChangeShapes Go.WideShapes Go.ChangeAt Go.RowKit Go.Proofs.YtbnpidmlcjofiaaDoor

theorem own : ownKnob Tryd.prog.godebug = none := by kernel_rfl
theorem laidOut : laidOutB Tryd.prog = true := by kernel_rfl
theorem rowed : Tryd.f6.params.toList.all (fun t => Tryd.prog.readableRec t && decide (t < Tryd.prog.types.size)) = true := by kernel_rfl
theorem res : Tryd.f6.resultTypes = #[4] := by kernel_rfl

theorem list4 {α : Type} {l : List α} (h : l.length = 4) : ∃ a b c d, l = [a, b, c, d] := by
  match l, h with
  | [a, b, c, d], _ => exact ⟨a, b, c, d, rfl⟩
theorem list8 {α : Type} {l : List α} (h : l.length = 8) : ∃ a b c d e f g i, l = [a, b, c, d, e, f, g, i] := by
  match l, h with
  | [a, b, c, d, e, f, g, i], _ => exact ⟨a, b, c, d, e, f, g, i, rfl⟩
theorem bulk_pos {H : Type} (d : DataW H) : 1 ≤ Rows.uptoBulk d := by
  cases d with
  | lit l => cases l <;> simp [Rows.uptoBulk]
  | _ => simp [Rows.uptoBulk]
theorem bulk_len {H : Type} (l : List (DataW H)) : l.length ≤ Rows.uptoBulkAll l := by
  induction l with
  | nil => simp
  | cons d l ih => have := bulk_pos d; simp only [Rows.uptoBulkAll, List.length_cons]; omega
theorem bytes_bulk {H : Type} {enc : TypeId × Value → H} {w : World} {base : Nat} {spare : Nat → Bool} {held : Bool} {fuel : Nat} {a : Option Addr} {n c : Nat} {x : DataW H × List MemPlace} (h : DataW.trod enc Tryd.prog w base spare held fuel 22 [.slice a n c] = some x) : n ≤ Rows.uptoBulk x.1 := by
  rcases Go.Deep.open_slice Tryd.underlying22 h with ⟨e, _⟩ | ⟨a, len, cap, m, k, D, Pl, e, hb, hl, _, _, hx, _⟩
  · injection e with e _
    injection e with e1 e2 e3
    omega
  · injection e with e _
    injection e with e1 e2 e3
    subst hx e2
    simp only [Rows.uptoBulk]
    have := bulk_len ((List.range n).map D)
    simp only [List.length_map, List.length_range] at this
    omega
theorem cof_back : Tryd.prog.cellsOf 49 = 8 := by kernel_rfl
theorem cof_bytes : Tryd.prog.cellsOf 22 = 1 := by kernel_rfl
theorem open_back {H : Type} {enc : TypeId × Value → H} {w : World} {base : Nat} {spare : Nat → Bool} {held : Bool} {fuel : Nat} {cs : List Value} {x : DataW H × List MemPlace} (h : DataW.trod enc Tryd.prog w base spare held fuel 49 cs = some x) (hw : WB (x.1.weights Tryd.prog 49)) :
    ∃ (a b : Vl) (A1 A2 : Option Addr) (l1 l2 : List Nat) (c1 c2 : Nat), cs = [.int .i64 a.k, .int .i64 a.n, .string a.s, .int .i64 b.k, .int .i64 b.n, .string b.s, .slice A1 l1.length c1, .slice A2 l2.length c2] ∧ a.rng ∧ a.s.size ≤ big ∧ b.rng ∧ b.s.size ≤ big ∧ Rd (fun b => b < w.heap.size) w 1 A1 l1.length (bcells l1) ∧ Rd (fun b => b < w.heap.size) w 1 A2 l2.length (bcells l2) ∧ (∀ b ∈ l1, b < 256) ∧ (∀ b ∈ l2, b < 256) ∧ l1.length + l2.length ≤ Rows.uptoBulk x.1 := by
  obtain ⟨xs, m, _, rfl, hl, hlen, hf⟩ := DataW.trod_struct Tryd.underlying49 h
  rw [cof_back] at hl
  obtain ⟨c0, c1, c2, c3, c4, c5, c6, c7, rfl⟩ := list8 hl
  obtain ⟨y0, y1, y2, y3, rfl⟩ := list4 hlen
  have h0 := fieldAt hf 0 24 0 3 (y := y0) rfl rfl rfl cof_val rfl
  have h1 := fieldAt hf 1 24 3 3 (y := y1) rfl rfl rfl cof_val rfl
  have h2 := fieldAt hf 2 22 6 1 (y := y2) rfl rfl rfl cof_bytes rfl
  have h3 := fieldAt hf 3 22 7 1 (y := y3) rfl rfl rfl cof_bytes rfl
  have w0 : WB (y0.1.weights Tryd.prog 24) := fun u hu => hw u (by simp [DataW.weights, DataW.weightsEach, Tryd.underlying49, hu])
  have w1 : WB (y1.1.weights Tryd.prog 24) := fun u hu => hw u (by simp [DataW.weights, DataW.weightsEach, Tryd.underlying49, hu])
  have w2 : WB (y2.1.weights Tryd.prog 22) := fun u hu => hw u (by simp [DataW.weights, DataW.weightsEach, Tryd.underlying49, hu])
  have w3 : WB (y3.1.weights Tryd.prog 22) := fun u hu => hw u (by simp [DataW.weights, DataW.weightsEach, Tryd.underlying49, hu])
  obtain ⟨a, e0, r0, z0⟩ := open_vl h0 w0
  obtain ⟨b, e1, r1, z1⟩ := open_vl h1 w1
  obtain ⟨A1, l1, k1, e2, hr1, hl1, hx1⟩ := open_bytes h2 w2
  obtain ⟨A2, l2, k2, e3, hr2, hl2, hx2⟩ := open_bytes h3 w3
  rw [e2] at h2
  rw [e3] at h3
  have b2 := bytes_bulk h2
  have b3 := bytes_bulk h3
  simp [Vl.cells] at e0 e1 e2 e3
  obtain ⟨rfl, rfl, rfl⟩ := e0
  obtain ⟨rfl, rfl, rfl⟩ := e1
  subst e2 e3
  refine ⟨a, b, A1, A2, l1, l2, k1, k2, rfl, r0, z0, r1, z1, hr1, hr2, hx1, hx2, ?_⟩
  simp only [List.map_cons, List.map_nil, Rows.uptoBulk, Rows.uptoBulkAll]
  omega
set_option maxRecDepth 100000 in
theorem contract (H : Type) (enc : TypeId × Value → H) (W : World) (base : Nat) (args : Array Value) (ds gs : List (DataW H)) (before : List MemPlace)
    (hval0 : ∀ (j : Nat) t v, Tryd.f6.params[j]? = some t → args[j]? = some v → Value.okWide Tryd.prog W .any base t v)
    (hW : DataW.Whole enc Tryd.prog Tryd.f6.params.toList Rows.valueBackSpec.vars false W args.toList ds gs before)
    (hsz : (DataW.weightsEach Tryd.prog (Tryd.f6.params.toList ++ Rows.valueBackSpec.plain.varTypes Tryd.prog) (ds ++ gs)).all (· ≤ reachBytes) = true) (he : Env W) (hk : Rows.uptoSmall H (ds ++ gs) = true) :
    Calls Tryd.prog 6 args W fun e W' => ∃ v, e = .returned v ∧ Rows.valueBackSpec.post enc Tryd.prog Tryd.f6 false true false false W args v W' := by
  have hval := hval0
  have hW' := hW
  have hWB := WB.of_all hsz
  obtain ⟨p, q, hA0, hV, rfl, hfz, hnd⟩ := hW
  have hA : DataW.TrodAll enc Tryd.prog W 0 (fun _ => true) true Tryd.f6.params.toList args.toList ds p := hA0
  rw [Tryd.params6] at hA hval hWB
  obtain ⟨v0, d0, rfl, rfl, h0⟩ := trodAll_one hA
  obtain ⟨rfl, rfl⟩ := trodVars_none hV
  obtain ⟨cs0, rfl, hz0⟩ := okWide_struct Tryd.underlying49 (hval 0 49 v0 rfl rfl)
  obtain ⟨fuel0, hf0⟩ := h0
  obtain ⟨a, b, A1, A2, l1, l2, c1, c2, e0, har, has, hbr, hbs, hr1, hr2, hx1, hx2, hbk⟩ := open_back hf0 (fun n hn => hWB n (DataW.weights_mem_each (j := 0) rfl rfl n hn))
  obtain ⟨cs0⟩ := cs0
  have e0 : cs0 = _ := e0
  subst e0
  have hbulk := of_decide_eq_true hk
  simp only [Rows.uptoBulkAll, List.append_nil] at hbulk
  have hnn : l1.length + l2.length ≤ 10000000 := by simp only at hbk hbulk; omega
  clear hA0 hval hval0
  refine (back_walk a b A1 A2 c1 c2 l1 l2 W hr1 hr2 hx1 hx2 hnn (by unfold big at has; omega) har (by unfold big at hbs; omega) hbr he).mono fun e W' ⟨he, hb⟩ => ?_
  subst he
  exact ⟨_, rfl, law_post laidOut rowed res Tryd.underlying4 rfl hW' rfl rfl rfl hb⟩

theorem reads (os : Os) {H : Type} (enc : TypeId × Value → H) : ∃ places, DataW.whole enc Tryd.prog ((laidWorld os).forCall (fun _ _ => 0) ⟨#[], #[.agg #[.int .i64 0, .int .i64 0, .string ⟨#[]⟩, .int .i64 0, .int .i64 0, .string ⟨#[]⟩, .slice none 0 0, .slice none 0 0]], []⟩).memory Tryd.f6.params.toList Rows.valueBackSpec.vars false (#[.agg #[.int .i64 0, .int .i64 0, .string ⟨#[]⟩, .int .i64 0, .int .i64 0, .string ⟨#[]⟩, .slice none 0 0, .slice none 0 0]] : Array Value).toList 8 = some ([.agg [.agg [.lit (.int .i64 0), .lit (.int .i64 0), .lit (.string [])], .agg [.lit (.int .i64 0), .lit (.int .i64 0), .lit (.string [])], .nil, .nil]], [], places) :=
  ⟨[], by kernel_rfl⟩
set_option maxRecDepth 100000 in
theorem lifted (os : Os) (started : os.Started) (H : Type) (enc : TypeId × Value → H) (F : Stop.Interp) :
    ReturnsInHanded {} Tryd.checked os 6 .any ((Rows.OpenSpec.upto Rows.valueBackSpec).preRow enc Tryd.prog Tryd.f6 Rows.valueBackUptoRow.domain false Rows.valueBackUptoRow.laid) (((Rows.OpenSpec.upto Rows.valueBackSpec).at F).post enc Tryd.prog Tryd.f6 false true false false) := by
  obtain ⟨places, hx⟩ := reads os enc
  refine returnsInHanded_of_row (C := Tryd.checked) (s := (Rows.OpenSpec.upto Rows.valueBackSpec)) own started (by kernel_rfl) Tryd.func6
    (witness_row_atRef (enc := enc) (C := Tryd.checked) false (laidWorld os) #[.agg #[.int .i64 0, .int .i64 0, .string ⟨#[]⟩, .int .i64 0, .int .i64 0, .string ⟨#[]⟩, .slice none 0 0, .slice none 0 0]] rfl (by kernel_rfl) (by kernel_rfl) (by kernel_rfl)
      (OpenSpec.preRow_of_cond 8 hx (by kernel_rfl) (fun k hk => by cases hk; kernel_rfl) (by kernel_rfl) (laid_met os _))) ?_
  intro W base args ds gs before hval hW _ hcond hsz hL _ _
  exact contract H enc W base args ds gs before hval hW hsz (env_of_laid hL) (hcond _ rfl)
theorem said : Rows.ValueBackUptoSaid :=
  OpenClaim.holds_of_cond 6 Tryd.f6 rfl rfl rfl rfl rfl rfl rfl ⟨rfl, rfl, rfl, rfl, rfl⟩ rfl rfl rfl rfl rfl (by kernel_rfl) Tryd.func6 (by kernel_rfl)
    (of_decide_eq_true (by kernel_rfl)) (by unfold Func.isWrapper; first | (rw [if_pos (by decide +kernel)]; kernel_rfl) | (rw [if_neg (by decide +kernel)]; exact ⟨rfl, rfl⟩))
    (fun os started H enc _ F => by rw [OpenClaim.pre_eq_preRow]; exact lifted os started H enc F)
theorem wants : Tryd.f6.params.toList.all (fun t => !Tryd.prog.wantsStandIn t) = true := by kernel_rfl
theorem plain (f : FuncId) (fn : Func) (hf : Tryd.pinned.checked.prog.funcNamed "tranche/tranchelaw02.ValueBack" = some f) (hfn : Tryd.pinned.checked.prog.funcs[f]? = some fn) :
    true = Tryd.pinned.checked.prog.looks [] ∧ ∀ (j : Nat) t, fn.params[j]? = some t → Tryd.pinned.checked.prog.wantsStandIn t = false := by
  obtain rfl : f = 6 := Option.some.inj ((show Tryd.prog.funcNamed "tranche/tranchelaw02.ValueBack" = some 6 by kernel_rfl).symm.trans hf) |>.symm
  obtain rfl : fn = Tryd.f6 := (Option.some.inj (Tryd.func6.symm.trans hfn)).symm
  refine ⟨by kernel_rfl, fun j t ht => ?_⟩
  have h := List.all_eq_true.1 wants t (by rw [Array.mem_toList_iff]; exact Array.mem_of_getElem? ht)
  have h2 : Tryd.prog.wantsStandIn t = false := by simpa using h
  exact h2
theorem holds : Rows.ValueBackUptoCardSaid :=
  Claim7.holds_tied_plain_at .later [] _ _ _ _ said (fun _ h => by cases h) (by kernel_rfl) (fun _ h => by cases h) valueBackUpto_row_tie rfl ⟨rfl, rfl⟩ (by kernel_rfl) rfl plain (by kernel_rfl)
end Go.Proofs.YtbnpidmlcjofiaaDoor.back
