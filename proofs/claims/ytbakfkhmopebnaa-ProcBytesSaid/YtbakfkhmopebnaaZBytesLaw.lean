/- ProcBytes holds: at every program and all bytes the law returns true; the arguments read as before. No condition. -/
import Derived.Test.YtbakfkhmopebnaaZBytesW
import Derived.Test.YtbakfkhmopebnaaJ13
namespace Go.Proofs.Ytbakfkhmopebnaa.bytes
open Go.ChangeShapes Go.WideShapes Go.ChangeAt Go.RowKit Go.Proofs.Ytbakfkhmopebnaa

theorem own : ownKnob Try.prog.godebug = none := by kernel_rfl
theorem laidOut : laidOutB Try.prog = true := by kernel_rfl
theorem rowed : Try.f5.params.toList.all (fun t => Try.prog.readableRec t && decide (t < Try.prog.types.size)) = true := by kernel_rfl
theorem res : Try.f5.resultTypes = #[4] := by kernel_rfl

section
variable {H : Type} {enc : TypeId × Value → H} {w : World} {base : Nat} {spare : Nat → Bool} {held : Bool} {fuel : Nat} {cs : List Value} {x : DataW H × List MemPlace}
theorem cof_u8 : Try.prog.cellsOf 5 = 1 := by kernel_rfl
theorem byt_u8 : Try.prog.bytesOf 5 = 1 := by kernel_rfl
theorem wf_u8 {n : Int} (h : (Lit.int .u8 n).wf = true) : 0 ≤ n ∧ n ≤ 255 := by
  simpa [Lit.wf, IntKind.min, IntKind.max, IntKind.bits, IntKind.signed] using h
theorem flat_b (l : List Nat) : l.flatMap (fun n : Nat => [Value.int .u8 (n : Int)]) = bcells l := by
  unfold bcells
  induction l with
  | nil => rfl
  | cons a t ih => rw [List.flatMap_cons, List.map_cons, ih]; rfl
theorem open_bytes (h : DataW.trod enc Try.prog w base spare held fuel 39 cs = some x) (hw : WB (x.1.weights Try.prog 39)) :
    ∃ (A : Option Addr) (l : List Nat) (c : Nat), cs = [.slice A l.length c] ∧ Rd (fun b => b < w.heap.size) w 1 A l.length (bcells l) ∧ l.length ≤ 1000000000000000 ∧ ∀ b ∈ l, b < 256 := by
  obtain ⟨A, l, c, e, hr, ho, hb⟩ := open_rowsS (fun n : Nat => [.int .u8 (n : Int)]) (fun n => n < 256) 1 (by omega) (fun _ => rfl) Try.underlying39 cof_u8 (fun n cs' y hy _ => by
    obtain ⟨k, e0, r0, w0⟩ := DataW.trod_int Try.underlying5 hy
    have h2 := wf_u8 w0
    exact ⟨k.toNat, by rw [e0, Int.toNat_of_nonneg h2.1], by omega⟩) h hw
  rw [flat_b] at hr
  rw [byt_u8] at hb
  exact ⟨A, l, c, e, hr, by unfold big at hb; omega, ho⟩
end
set_option maxRecDepth 100000 in
theorem contract (H : Type) (enc : TypeId × Value → H) (W : World) (base : Nat) (args : Array Value) (ds gs : List (DataW H)) (before : List MemPlace)
    (hval0 : ∀ (j : Nat) t v, Try.f5.params[j]? = some t → args[j]? = some v → Value.okWide Try.prog W .any base t v)
    (hW : DataW.Whole enc Try.prog Try.f5.params.toList Rows.procBytesSpec.vars false W args.toList ds gs before)
    (hsz : (DataW.weightsEach Try.prog (Try.f5.params.toList ++ Rows.procBytesSpec.plain.varTypes Try.prog) (ds ++ gs)).all (· ≤ reachBytes) = true) :
    Calls Try.prog 5 args W fun e W' => ∃ v, e = .returned v ∧ Rows.procBytesSpec.post enc Try.prog Try.f5 false true false false W args v W' := by
  have hval := hval0
  have hW' := hW
  have hWB := WB.of_all hsz
  obtain ⟨p, q, hA0, hV, rfl, hfz, hnd⟩ := hW
  have hA : DataW.TrodAll enc Try.prog W 0 (fun _ => true) true Try.f5.params.toList args.toList ds p := hA0
  rw [Try.params5] at hA hval hWB
  obtain ⟨v0, v1, v2, d0, d1, d2, p0, p1, p2, rfl, rfl, rfl, h0, h1, h2⟩ := trodAll_three hA
  obtain ⟨rfl, rfl⟩ := trodVars_none hV
  obtain ⟨cs1, rfl, hz1⟩ := okWide_struct Try.underlying29 (hval 1 29 v1 rfl rfl)
  obtain ⟨fuel1, hf1⟩ := h1
  obtain ⟨pr, A1, A2, c1, c2, e1, hp⟩ := open_pr hf1 (fun n hn => hWB n (DataW.weights_mem_each (j := 1) rfl rfl n hn))
  obtain ⟨cs1⟩ := cs1
  have e1 : cs1 = _ := e1
  subst e1
  obtain ⟨a0, n0, kk0, rfl⟩ := okWide_slice Try.underlying39 (hval 0 39 v0 rfl rfl)
  obtain ⟨fuel0, hf0⟩ := h0
  obtain ⟨AA, al, ca, e0, hr0, hl0, hx0⟩ := open_bytes hf0 (fun n hn => hWB n (DataW.weights_mem_each (j := 0) rfl rfl n hn))
  have e0 : [Value.slice a0 n0 kk0] = _ := e0
  injection e0 with e0 _
  injection e0 with q0 r0 s0
  subst q0 r0 s0
  obtain ⟨a2, n2, kk2, rfl⟩ := okWide_slice Try.underlying39 (hval 2 39 v2 rfl rfl)
  obtain ⟨fuel2, hf2⟩ := h2
  obtain ⟨BA, bl, cb, e2, hr2, hl2, hx2⟩ := open_bytes hf2 (fun n hn => hWB n (DataW.weights_mem_each (j := 2) rfl rfl n hn))
  have e2 : [Value.slice a2 n2 kk2] = _ := e2
  injection e2 with e2 _
  injection e2 with q2 r2 s2
  subst q2 r2 s2
  clear hA0 hval hval0
  refine (bytes_walk pr A1 A2 _ _ c1 c2 _ _ al bl W hp hr0 hr2 hl0 hl2 hx0 hx2).mono fun e W' ⟨he, hb⟩ => ?_
  subst he
  exact ⟨_, rfl, law_post laidOut rowed res Try.underlying4 rfl hW' rfl rfl rfl hb⟩


set_option maxRecDepth 100000 in
theorem lifted (os : Os) (started : os.Started) (H : Type) (enc : TypeId × Value → H) :
    ReturnsInHanded {} Try.checked os 5 .any (Rows.procBytesSpec.pre6 enc Try.prog Try.f5 Rows.procBytesRow.domain false) (Rows.procBytesSpec.post enc Try.prog Try.f5 false true false false) := by
  refine returnsInHanded_of_change_sized (C := Try.checked) own started (by kernel_rfl) Try.func5
    (ChangeSpec.witness6 (enc := enc) (C := Try.checked) false ⟨#[], #[.slice none 0 0, .agg #[.int .i64 0, .slice none 0 0, .slice none 0 0], .slice none 0 0], []⟩ 8 (by kernel_rfl) (by kernel_rfl) (by kernel_rfl) (by kernel_rfl)) ?_
  intro W base args ds gs before hval hW hcnd hsz _
  exact contract H enc W base args ds gs before hval hW hsz

theorem holds : Rows.ProcBytesSaid :=
  OpenClaim.holds_of_wide 5 Try.f5 rfl rfl rfl rfl rfl rfl rfl ⟨rfl, rfl, rfl, rfl, rfl⟩ rfl rfl rfl rfl rfl (by kernel_rfl) Try.func5 (by kernel_rfl)
    (of_decide_eq_true (by kernel_rfl)) (by unfold Func.isWrapper; first | (rw [if_pos (by decide +kernel)]; kernel_rfl) | (rw [if_neg (by decide +kernel)]; exact ⟨rfl, rfl⟩))
    (fun os started H enc _ => lifted os started H enc)

end Go.Proofs.Ytbakfkhmopebnaa.bytes
