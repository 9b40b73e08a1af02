/- Texts of the proof, joined: SHeldE, YStep, PShelf. -/
import Derived.Deep.RegionHeld3
import Derived.Test.YtefigpmkiemfhaaDoorRows
import Derived.Test.YtefigpmkiemfhaaDoorN06
import Derived.Shelf.Small.Bits
import Derived.Shelf.Small.Strs
import Derived.Shelf.Strconv.Itoa0
import Derived.Shelf.Strconv.Itoa1
import Derived.Shelf.LaysM
import Derived.Shelf.Strconv.Itoa2
import Derived.Shelf.Strconv.Itoa3
import Derived.Shelf.Strconv.Itoa4
import Derived.Shelf.Bytes.Len
import Derived.Shelf.Bytes.TryGrow
import Derived.Shelf.Bytes.GrowSliceCatch
import Derived.Shelf.Bytes.GrowSlice
import Derived.Shelf.Bytes.Bytes
import Derived.Shelf.Strings.Search1
import Derived.Shelf.Bytes.GrowRow0Kept
import Derived.Shelf.Bytes.GrowRowKept
import Derived.Shelf.Bytes.GrowNilKept
import Derived.Shelf.Bytes.GrowKept
import Derived.Shelf.Bytes.WriteStringKept
import Derived.Shelf.Sort.Plain
import Derived.Shelf.Bytes.ResetKept
import Derived.Shelf.Bytes.BufferK
import Derived.Shelf.Slices.In.SortNone
import Derived.Ground.SlgfProg
import Derived.Shelf.SlicesE.IndexFunc
import Derived.Test.YtefigpmkiemfhaaDoorProg
namespace Go.Proofs.YtefigpmkiemfhaaDoor
open Go
set_option linter.unusedVariables false

section
variable {P : Program} {ops : Array Oper} {Q : Exit → Act → World → Prop} {md : Region.Mode} {S : World → Prop}
/-- whatever order is picked, S holds behind every operation but number z -/
def wpAnyE (P : Program) (md : Region.Mode) (ops : Array Oper) (Q : Exit → Act → World → Prop) (S : World → Prop) (z : Nat) : Nat → Array Bool → Act → World → Prop
  | 0, listed, a, w => Region.ready md ops listed = [] ∧ Q .normal a w
  | fuel + 1, listed, a, w =>
    (Region.ready md ops listed = [] → Q .normal a w) ∧
    ∀ i ∈ Region.ready md ops listed, wpOp P ops Q i (fun a' w' => (i ≠ z → S w') ∧ wpAnyE P md ops Q S z fuel (listed.setIfInBounds i true) a' w') a w
theorem wpAny_of_E {z : Nat} : ∀ (fuel : Nat) (listed : Array Bool) (a : Act) (w : World), wpAnyE P md ops Q S z fuel listed a w → wpAny P md ops Q fuel listed a w
  | 0, _, _, _, h => h
  | fuel + 1, _, _, _, h => ⟨h.1, fun i hi => wpOp_mono (fun a' w' h' => wpAny_of_E fuel _ a' w' h'.2) (h.2 i hi)⟩
/-- each of C waits for i or for another of C -/
def waitB (md : Region.Mode) (ops : Array Oper) (i : Nat) (C : List Nat) : Bool := C.all fun c => match ops[c]? with | some oc => oc.after.any (fun e => Region.binds md e && (e.on == i || C.contains e.on)) | none => false
def unB (listed : Array Bool) (C : List Nat) : Bool := C.all fun c => listed.getD c true == false
theorem wait_not {i : Nat} {C : List Nat} {listed : Array Bool} (hw : waitB md ops i C = true) (hu : unB listed C = true) (hi : listed.getD i true = false) {c : Nat} (hc : c ∈ C) : c ∉ Region.ready md ops listed := by
  intro hr
  obtain ⟨_, oj, hoj, hall⟩ := mem_ready.1 hr
  unfold waitB at hw
  rw [List.all_eq_true] at hw
  have h1 := hw c hc
  rw [hoj] at h1
  simp only at h1
  obtain ⟨e, he, h2⟩ := Array.any_eq_true'.1 h1
  rw [Bool.and_eq_true, Bool.or_eq_true] at h2
  have h3 := hall e he h2.1
  have h0 : listed.getD e.on true = false := by
    rcases h2.2 with h4 | h4
    · rw [beq_iff_eq.1 h4]; exact hi
    · unfold unB at hu
      rw [List.all_eq_true] at hu
      have := hu e.on (by simpa using h4)
      simpa using this
  rcases Nat.lt_or_ge e.on listed.size with h' | h'
  · simp [h'] at h0 h3; rw [h0] at h3; cases h3
  · simp [Array.getElem?_eq_none h'] at h3
theorem wpAnyE_first {z i : Nat} {oi : Oper} {v : Value} {C : List Nat} (hi : ops[i]? = some oi) (hsel : ∀ (j : Nat) (o : Oper) cs b, ops[j]? = some o → o.op ≠ .select cs b)
    (hQ : ∀ c a w, Q (.panic c) (a.put oi.dst v) w → Q (.panic c) a w) (hzC : z ∈ C) (hw : waitB md ops i C = true) :
    ∀ (fuel : Nat) (listed : Array Bool) (a : Act) (w : World),
      (∀ j oj, ops[j]? = some oj → j ≠ i → listed.getD j true = false → (∀ e ∈ oj.after, Region.binds md e = true → e.on ≠ i) → oi.apart ops oj = true) →
      i ∈ Region.ready md ops listed → unB listed C = true → YieldsIf P ops S oi v a → S w →
      wpAnyE P md ops Q S z fuel (listed.setIfInBounds i true) (a.put oi.dst v) w → wpAnyE P md ops Q S z (fuel + 1) listed a w := by
  intro fuel
  induction fuel with
  | zero =>
    intro listed a w _ hr hu hy hS H
    refine ⟨fun h => (by rw [h] at hr; cases hr), fun j hj => ?_⟩
    by_cases hji : j = i
    · subst hji; exact hy.wpOp hi hS ⟨fun _ => hS, H⟩
    · have := ready_mono hj hji
      rw [H.1] at this
      cases this
  | succ fuel ih =>
    intro listed a w hfree hr hu hy hS H
    refine ⟨fun h => (by rw [h] at hr; cases hr), fun j hj => ?_⟩
    by_cases hji : j = i
    · subst hji; exact hy.wpOp hi hS ⟨fun _ => hS, H⟩
    · have h1 := H.2 j (ready_mono hj hji)
      obtain ⟨hjun, oj, hoj, hall⟩ := mem_ready.1 hj
      have hnot : ∀ e ∈ oj.after, Region.binds md e = true → e.on ≠ i := fun e he hb heq => by
        have h1 := hall e he hb
        have h0 := (mem_ready.1 hr).1
        rw [heq] at h1
        rcases Nat.lt_or_ge i listed.size with h' | h'
        · simp [h'] at h0 h1; rw [h0] at h1; cases h1
        · simp [Array.getElem?_eq_none h'] at h1
      have hjC : j ∉ C := fun hjC => wait_not hw hu (mem_ready.1 hr).1 hjC hj
      have hjz : j ≠ z := fun e => hjC (e ▸ hzC)
      have h2 := wpOp_putIf hoj (hfree j oj hoj hji hjun hnot) (fun cs b => hsel i oi cs b hi) (fun cs b => hsel j oj cs b hoj) hQ hy h1
      have hfree' : ∀ k ok, ops[k]? = some ok → k ≠ i → (listed.setIfInBounds j true).getD k true = false →
          (∀ e ∈ ok.after, Region.binds md e = true → e.on ≠ i) → oi.apart ops ok = true := fun k ok hk hki hun hno => by
        refine hfree k ok hk hki ?_ hno
        by_cases hjk : j = k
        · subst hjk; exact hjun
        · rw [getD_set_ne true hjk] at hun; exact hun
      have hu' : unB (listed.setIfInBounds j true) C = true := by
        unfold unB at hu ⊢
        rw [List.all_eq_true] at hu ⊢
        intro c hc
        rw [getD_set_ne true (show j ≠ c from fun e => hjC (by rw [e]; exact hc))]
        exact hu c hc
      refine wpOp_mono (fun a' w' h3 => ⟨fun _ => h3.2.1 hjz, ih (listed.setIfInBounds j true) a' w' hfree' (ready_mono hr (Ne.symm hji)) hu' h3.1 (h3.2.1 hjz) ?_⟩) h2
      rw [Array.setIfInBounds_comm _ _ hji]
      exact h3.2.2
/-- take number i first -/
theorem wpAnyE_take {z i : Nat} {oi : Oper} {v : Value} {fuel : Nat} {listed : Array Bool} {a : Act} {w : World} (C : List Nat) (hi : ops[i]? = some oi)
    (hs : Region.noSelect ops = true) (hf : Region.free md ops listed i = true) (hr : (Region.ready md ops listed).contains i = true) (hz : C.contains z = true) (hwt : waitB md ops i C = true) (hun : unB listed C = true)
    (hQ : ∀ c a w, Q (.panic c) (a.put oi.dst v) w → Q (.panic c) a w) (hy : YieldsIf P ops S oi v a) (hS : S w)
    (h : wpAnyE P md ops Q S z fuel (listed.setIfInBounds i true) (a.put oi.dst v) w) : wpAnyE P md ops Q S z (fuel + 1) listed a w :=
  wpAnyE_first hi (Region.noSelect_spec hs) hQ (by simpa using hz) hwt fuel listed a w (Region.free_spec hi hf) (by simpa using hr) hun hy hS h
def AllReadyE (P : Program) (md : Region.Mode) (ops : Array Oper) (Q : Exit → Act → World → Prop) (S : World → Prop) (z fuel : Nat) (listed : Array Bool) (a : Act) (w : World) (rs : List Nat) : Prop :=
  ∀ i ∈ rs, wpOp P ops Q i (fun a' w' => (i ≠ z → S w') ∧ wpAnyE P md ops Q S z fuel (listed.setIfInBounds i true) a' w') a w
theorem AllReadyE.nil {z fuel : Nat} {listed : Array Bool} {a : Act} {w : World} : AllReadyE P md ops Q S z fuel listed a w [] := fun _ h => by cases h
theorem AllReadyE.cons {z fuel : Nat} {listed : Array Bool} {a : Act} {w : World} {i : Nat} {o : Oper} {rs : List Nat} (ho : ops[i]? = some o)
    (h : ∀ K' : Act → World → Prop, Shut (∀ a w, (i ≠ z → S w) → wpAnyE P md ops Q S z fuel (listed.setIfInBounds i true) a w → K' a w) → if Region.wanted o (yielded ops a.tmps) = true then Oper.wp P o a w K' Q else K' (a.put o.dst undef) w)
    (hs : AllReadyE P md ops Q S z fuel listed a w rs) : AllReadyE P md ops Q S z fuel listed a w (i :: rs) := fun j hj => by
  rcases List.mem_cons.1 hj with rfl | hj
  · exact wpOp_step ho (fun K' hK => h K' (fun a w hS hW => hK a w ⟨hS, hW⟩))
  · exact hs j hj
theorem wpAnyE_ready {z : Nat} {rs : List Nat} {fuel : Nat} {listed : Array Bool} {a : Act} {w : World} (hr : Region.ready md ops listed = rs) (hne : rs ≠ [])
    (h : AllReadyE P md ops Q S z fuel listed a w rs) : wpAnyE P md ops Q S z (fuel + 1) listed a w := ⟨fun h0 => absurd (hr ▸ h0) hne, hr ▸ h⟩
theorem wpAnyE_done {z : Nat} {listed : Array Bool} {a : Act} {w : World} (hr : Region.ready md ops listed = []) (h : Q .normal a w) : ∀ fuel, wpAnyE P md ops Q S z fuel listed a w
  | 0 => ⟨hr, h⟩
  | _ + 1 => ⟨fun _ => h, by rw [hr]; simp⟩
theorem wp_region_heldE (z : Nat) {id : Nat} {a : Act} {w : World} (hm : P.follows .mixedOrders = true)
    (h : wpAnyE P .any ops Q S z ops.size (Array.replicate ops.size false) a w.drew) : (Code.region id ops true).wp P Q a w := wp_region_any hm (wpAny_of_E _ _ _ _ h)
end
end Go.Proofs.YtefigpmkiemfhaaDoor

namespace Go.Proofs.YtefigpmkiemfhaaDoor
open Go.RowKit
set_option linter.unusedVariables false
set_option linter.unusedSimpArgs false

theorem info_item2 : (Tryd.prog.info? 77).map (fun i => (i.zero, i.size, i.bytes)) = some (some (.agg #[.string ⟨#[]⟩, .int .i64 0, .int .i64 0, .string ⟨#[]⟩]), 4, 48) := by kernel_rfl
theorem Rd.part1 {S : Nat → Prop} {w : World} {A : Option Addr} {xs : List Value} {n c k m : Nat} (h : Rd S w 1 A n xs) (hk : k + m ≤ n) (hc : n ≤ c) : Rd S w 1 (if c = k then A else Option.map (fun x => x.add k) A) m ((xs.drop k).take m) := by
  have h1 := h.1
  refine ⟨by rw [List.length_take, List.length_drop]; omega, fun hm => ?_⟩
  obtain ⟨q, o, rfl, hS, hl, hx⟩ := h.2 (by omega)
  have hne : ¬ c = k := by omega
  rw [if_neg hne]
  refine ⟨q, o + k, by simp [Addr.add], hS, hl, fun j u hu => ?_⟩
  have hj := (List.getElem?_eq_some_iff.1 hu).1
  rw [List.length_take] at hj
  rw [List.getElem?_take_of_lt (by omega), List.getElem?_drop] at hu
  rw [Nat.add_assoc]
  exact hx (k + j) u hu
section
variable {T SS : Nat → Prop} {w w' : World} {g sg cm : Nat} {b : ByteArray → Nat} {A1 A2 : Option Addr} {c1 c2 : Nat} {z : Zg}
theorem zstep_idle {n : Int} (h : z.stepN n = 0) : z.step n = z := by
  unfold Zg.step
  rw [h]
  simp
/-- under way: i of the keys are written down -/
structure SR (w wr : World) (g sg cm : Nat) (A1 : Option Addr) (c1 : Nat) (A2 : Option Addr) (c2 : Nat) (z : Zg) (A' : Option Addr) (c' i : Nat) : Prop where
  blk : Blk wr g 71 #[.int .i64 z.s.parts, .int .i64 z.s.room, .pointer (some ⟨sg, 0, none⟩), .map (some cm), .bool z.under, .int .i64 z.mark, .slice A1 z.left.length c1, .slice A' (z.taken.length + i) c']
  row : wr.ownsRow 0 77 4 (.slice A' (z.taken.length + i) c') (z.taken.length + i) (kvCells (z.taken ++ (z.left.take i).map fun k => (k, (z.f k).old)))
  at_ : ∀ q, (Value.slice A' (z.taken.length + i) c').ownBlock = some q → (Value.slice A2 z.taken.length c2).ownBlock = some q ∨ (w.heap.size ≤ q ∧ q < wr.heap.size)
  upd : Upd (fun q => q = g ∨ (Value.slice A2 z.taken.length c2).ownBlock = some q) w wr
/-- behind the last key -/
theorem ZIn.stepped {wr wf : World} {A' : Option Addr} {c' k : Nat} {n : Int} (h : ZIn T SS w g sg cm b A1 c1 A2 c2 z) (hk : z.stepN n = k) (hkl : k ≤ z.left.length) (hs : SR w wr g sg cm A1 c1 A2 c2 z A' c' k)
    (hu : Upd (fun q => q = g) wr wf) (hg : Blk wf g 71 #[.int .i64 z.s.parts, .int .i64 z.s.room, .pointer (some ⟨sg, 0, none⟩), .map (some cm), .bool z.under, .int .i64 z.mark, .slice (if c1 = k then A1 else Option.map (fun x => x.add k) A1) (z.left.length - k) (c1 - k), .slice A' (z.taken.length + k) c']) (hlen : z.taken.length + k ≤ 1000000) : ZGo T w g (z.step n) wf := by
  have hz : z.step n = { z with left := z.left.drop k, taken := z.taken ++ (z.left.take k).map fun k => (k, (z.f k).old) } := by unfold Zg.step; rw [hk]
  have hl1 : (z.left.drop k).length = z.left.length - k := List.length_drop
  have hl2 : (z.taken ++ (z.left.take k).map fun k => (k, (z.f k).old)).length = z.taken.length + k := by rw [List.length_append, List.length_map, List.length_take]; omega
  have hsz := hs.upd.size
  have hsz2 := hu.size
  have hold : ∀ q, q < w.heap.size → q ≠ g → (Value.slice A2 z.taken.length c2).ownBlock ≠ some q → wf.heap[q]? = w.heap[q]? := fun q hq hn hr => (hu.block q (by omega) hn).trans (hs.upd.block q hq fun e => e.elim hn hr)
  have hrow : ∀ q, T q → ¬ LQ T SS g cm b z.s.L q → (Value.slice A2 z.taken.length c2).ownBlock ≠ some q := fun q hq hn e => hn (h.tIn q e)
  have hnl : ∀ {q}, (LQ T SS g cm b z.s.L q → False) → (Value.slice A2 z.taken.length c2).ownBlock ≠ some q := fun hn e => hn (h.tIn _ e)
  have hlq : ∀ q, LQ T SS g cm b z.s.L q → LQ (fun q => T q ∨ (w.heap.size ≤ q ∧ q < wf.heap.size)) SS g cm b z.s.L q := fun q hq => ⟨.inl hq.1, hq.2⟩
  refine ⟨fun q => T q ∨ (w.heap.size ≤ q ∧ q < wf.heap.size), ⟨SS, sg, cm, b, (if c1 = k then A1 else Option.map (fun x => x.add k) A1), c1 - k, A', c', ?_⟩, fun q hq => hq.imp id And.left, fun q hq => .inl hq, ?_⟩
  · rw [hz]
    refine ⟨?_, ?_, ?_, fun j hj => ?_, h.inj, ?_, ?_, fun q hq => ?_, ⟨.inl h.inT.1, .inl h.inT.2.1, fun k hk => .inl (h.inT.2.2.1 k hk), fun q hq => .inl (h.inT.2.2.2 q hq)⟩, h.nS, ?_, ?_, ?_, ?_⟩
    · rw [hl1, hl2]; exact hg
    · obtain ⟨_, _, _, _, hp⟩ := h.st
      exact ⟨_, _, _, _, hp.keep (fun q hq => hold q (h.st.lt q hq) (fun e => h.nS.1 (e ▸ hq)) (hnl fun hl => hl.2.1 hq)) (by omega)⟩
    · exact h.mp.keep (hold cm h.mp.lt (h.mp.ne_blk h.blk) (hnl fun hl => hl.2.2.2.1 rfl))
    · exact (hold _ (h.cl j hj).lt (fun e => Blk.ne_ h.blk (h.cl j hj) (by decide) e.symm) (hnl fun hl => hl.2.2.2.2 j hj rfl)).trans (h.cl j hj)
    · have h1 := (h.left.part1 (c := c1) (k := k) (m := z.left.length - k) (by omega) h.lc.1).keep (w' := wf) fun q hq hl => hold q hl hq.1.2.2.1 hq.2
      have e : ((strs z.left).drop k).take (z.left.length - k) = strs (z.left.drop k) := by
        unfold strs
        rw [← List.map_drop, List.take_of_length_le (by rw [List.length_map, List.length_drop]; omega)]
      rw [e] at h1
      rw [hl1, hl2]
      refine h1.more fun q hq hl => ⟨hlq q hq.1, fun e => ?_⟩
      rcases hs.at_ q e with h2 | h2
      · exact hq.2 h2
      · have := h.lt q hq.1.1; omega
    · rw [hl2]
      refine own_keep hs.row fun q hq => hu.block q ?_ ?_
      · rcases hs.at_ q hq with h2 | h2
        · have := h.lt q (h.tIn q h2).1; omega
        · exact h2.2
      · rintro rfl
        rcases hs.at_ q hq with h2 | h2
        · exact (h.tIn q h2).2.2.1 rfl
        · have := h.blk.lt; omega
    · rw [hl2] at hq
      rcases hs.at_ q hq with h2 | h2
      · exact hlq q (h.tIn q h2)
      · refine ⟨.inr ⟨h2.1, by omega⟩, fun hS => ?_, ?_, ?_, fun k hk => ?_⟩
        · have := h.st.lt q hS; omega
        · have := h.blk.lt; omega
        · have := h.mp.lt; omega
        · have := (h.cl k hk).lt; omega
    · rintro q (hq | hq)
      · have := h.lt q hq; omega
      · exact hq.2
    · rw [hl1, hl2]; have := h.len.1; exact ⟨by omega, hlen⟩
    · rw [hl1]; have := h.lc; exact ⟨by omega, by omega⟩
    · have := Zg.step_ok h.ok n
      rw [hz] at this
      exact this
  · exact (hs.upd.mono fun q _ e => e.elim (fun e => e ▸ h.inT.1) fun e => (h.tIn q e).1).trans hu fun q _ e => e ▸ h.inT.1

theorem SR.next {wr w3 : World} {A' A3 : Option Addr} {c' c3 i m : Nat} (h : SR w wr g sg cm A1 c1 A2 c2 z A' c' i) (H : ZIn T SS w g sg cm b A1 c1 A2 c2 z)
    (ho : w3.ownsRow 0 77 4 (.slice A3 (z.taken.length + i + 1) c3) (z.taken.length + i + 1) (kvCells (z.taken ++ (z.left.take (i + 1)).map fun k => (k, (z.f k).old))))
    (ha : (Value.slice A3 (z.taken.length + i + 1) c3).ownBlock = (Value.slice A' (z.taken.length + i) c').ownBlock ∨ (Value.slice A3 (z.taken.length + i + 1) c3).ownBlock = some m)
    (hu : Upd (fun q => (Value.slice A' (z.taken.length + i) c').ownBlock = some q) wr w3) (hm : wr.heap.size < m) : SR w (w3.setCell ⟨g, 7, none⟩ (.slice A3 (z.taken.length + i + 1) c3)) g sg cm A1 c1 A2 c2 z A3 c3 (i + 1) := by
  have hsz := h.upd.size
  have hsz2 := hu.size
  have hgr : (Value.slice A' (z.taken.length + i) c').ownBlock ≠ some g := fun e => by
    rcases h.at_ g e with h2 | h2
    · exact (H.tIn g h2).2.2.1 rfl
    · have := H.blk.lt; omega
  have hb : ∀ q, (Value.slice A3 (z.taken.length + i + 1) c3).ownBlock = some q → q < w3.heap.size := fun q e => (ho.lt q e).2
  have hgn : (Value.slice A3 (z.taken.length + i + 1) c3).ownBlock ≠ some g := fun e => by
    rcases ha with ha | ha
    · exact hgr (ha ▸ e)
    · rw [ha] at e; injection e with e; have := H.blk.lt; omega
  refine ⟨?_, own_keep ho fun q hq => Below.heap_setCell w3 _ _ q fun e => hgn (by rw [← show q = g from e]; exact hq), fun q hq => ?_, ?_⟩
  · have := (h.blk.upd hu hgr).set_ 7 (.slice A3 (z.taken.length + i + 1) c3)
    simpa [Nat.add_assoc] using this
  · have hql := hb q hq
    rcases ha with ha | ha
    · rw [Nat.add_assoc] at ha
      rcases h.at_ q (ha ▸ hq) with h2 | h2
      · exact .inl h2
      · exact .inr ⟨h2.1, by simp [World.setCell]; omega⟩
    · rw [Nat.add_assoc] at ha
      rw [ha] at hq; injection hq with hq
      exact .inr ⟨by omega, by simp [World.setCell]; omega⟩
  · refine (h.upd.trans hu fun q hq e => ?_).setCell (p := ⟨g, 7, none⟩) (fun _ => .inl rfl) _
    rcases h.at_ q e with h2 | h2
    · exact .inr h2
    · omega
set_option maxRecDepth 100000 in
set_option maxHeartbeats 8000000 in
theorem zstep_any (n : Int) (h : ZAt T w g z) : Calls Tryd.prog 15 #[.pointer (some ⟨g, 0, none⟩), .int .i64 n] w fun e w' => e = .returned (.int .i64 (z.stepN n : Nat)) ∧ ZGo T w g (z.step n) w' := by
  have hst := h
  obtain ⟨SS, sg, cm, b, A1, c1, A2, c2, h⟩ := h
  cases hu : z.under with
  | false =>
    have he : z.stepN n = 0 := by unfold Zg.stepN; rw [if_neg (by simp [hu])]
    have hz := zstep_idle he
    rw [he, hz]
    obtain ⟨_, _, _, _, x4, _⟩ := h.cells
    rw [hu] at x4
    have hgo := hid (hst.go (Below.refl _ _))
    clear he hz h hst hu
    go_enter Tryd.func15, Tryd.ntmps15
    go_wp2_with fail
    go_ret
    exact ⟨rfl, hgo.out⟩
  | true =>
  by_cases hn : n < 1
  · have t1 : decide (n < 1) = true := decide_eq_true hn
    have he : z.stepN n = 0 := by unfold Zg.stepN; rw [if_neg (by simp [hn])]
    have hz := zstep_idle he
    rw [he, hz]
    obtain ⟨_, _, _, _, x4, _⟩ := h.cells
    rw [hu] at x4
    have hgo := hid (hst.go (Below.refl _ _))
    clear he hz h hst hu hn
    go_enter Tryd.func15, Tryd.ntmps15
    go_wp2_with fail
    go_ret
    exact ⟨rfl, hgo.out⟩
  have t1 : decide (n < 1) = false := decide_eq_false hn
  obtain ⟨k, hk⟩ : ∃ k, k = z.stepN n := ⟨_, rfl⟩
  have hk2 : k = min n.toNat z.left.length := by rw [hk]; unfold Zg.stepN; rw [if_pos ⟨hu, by omega⟩]
  have hkl : k ≤ z.left.length := by omega
  have hmin : min n (z.left.length : Int) = (k : Int) := by omega
  rw [← hk]
  obtain ⟨_, _, _, x3, x4, _, x6, x7⟩ := h.cells
  rw [hu] at x4
  have hlc := h.lc
  have hlen := h.len
  have hcnt := hid h.ok.cnt
  have j1 : (k : Int) ≤ (c1 : Int) := by omega
  have j2 : k ≤ c1 := by omega
  have j3 : (c1 : Int) ≤ 9223372036854775807 := by omega
  have j4 : (k : Int) ≤ (z.left.length : Int) := by omega
  have hkN : (k : Int) ≤ 1000000 := by omega
  have H := hid h
  have hkh := hid hk
  have hklh := hid hkl
  have hnn := hid (show (1 : Int) ≤ n by omega)
  clear h hst hk hk2 hkl hlc hlen hu hn
  go_enter Tryd.func15, Tryd.ntmps15
  obtain ⟨ip, hip, hp0, hp1, hp2⟩ := info_parts info_item2
  have R0 : Hid (SR w w g sg cm A1 c1 A2 c2 z A2 c2 0) := hid ⟨by simpa using H.out.blk, by simpa using H.out.taken, fun q hq => .inl (by simpa using hq), Upd.refl _ _⟩
  go_wp2_with fail
  go_loopw [35] (fun v wr => ∃ (i : Nat) (A' : Option Addr) (c' : Nat), v = .int .i64 i ∧ i ≤ k ∧ SR w wr g sg cm A1 c1 A2 c2 z A' c' i) (fun v _ => k - (intOf v).toNat)
  case atStart => exact ⟨0, A2, c2, rfl, Nat.zero_le _, R0.out⟩
  case round =>
    clear R0 x6 x7 x3 x4
    obtain ⟨i, A', c', rfl, hi, R0⟩ := hrel
    have hsr := hid R0
    clear R0
    have hgr : Hid (¬ (Value.slice A' (z.taken.length + i) c').ownBlock = some g) := hid fun e => by
      rcases hsr.out.at_ g e with h2 | h2
      · exact (H.out.tIn g h2).2.2.1 rfl
      · have := H.out.blk.lt; omega
    have hnl : Hid (∀ q, (LQ T SS g cm b z.s.L q → False) → q ≠ g → ¬ (q = g ∨ (Value.slice A2 z.taken.length c2).ownBlock = some q)) := hid fun q hn hg e => e.elim hg fun e => hn (H.out.tIn q e)
    by_cases hlt : i < k
    · have i1 : (i : Int) < (k : Int) := by omega
      have hil : i < z.left.length := by have := hklh.out; omega
      obtain ⟨q0, o0, rfl, _, _, hc1⟩ := rd_strs (H.out.left.upd hsr.out.upd fun q hq e => e.elim hq.1.2.2.1 hq.2) hil
      have htk := hid (take_snoc hil)
      have hmem := hid (H.out.ok.left _ (List.getElem_mem hil))
      obtain ⟨key, hkey⟩ : ∃ x, x = z.left[i] := ⟨_, rfl⟩
      rw [← hkey] at hc1 htk hmem
      have hbk : Hid (Blk wr (b key) 75 (ceCells (z.f key))) := hid ((H.out.cl key hmem.out).upd hsr.out.upd (hnl.out _ (fun hl => hl.2.2.2.2 key hmem.out rfl) fun e => Blk.ne_ H.out.blk (H.out.cl key hmem.out) (by decide) e.symm))
      have hbr : Hid (¬ (Value.slice A' (z.taken.length + i) c').ownBlock = some (b key)) := hid fun e => by
        rcases hsr.out.at_ _ e with h2 | h2
        · exact (H.out.tIn _ h2).2.2.2.2 key hmem.out rfl
        · have := (H.out.cl key hmem.out).lt; omega
      have hl : (Instr.lookup 68 (.map (some cm)) (.string key) false).run Tryd.prog wr = .ok (.pointer (some ⟨b key, 0, none⟩)) wr := by
        have h9 := (H.out.mp.upd hsr.out.upd (hnl.out _ (fun hl => hl.2.2.2.1 rfl) (H.out.mp.ne_blk H.out.blk))).lookup Tryd.underlying68 (z := .pointer none) zero_ptr key
        unfold Dz at h9
        rw [if_pos hmem.out] at h9
        exact h9
      have x3 : wr.cell? ⟨g, 3, none⟩ = some (.map (some cm)) := hsr.out.blk.cell 3
      have hr7 : wr.cell? ⟨g, 7, none⟩ = some (.slice A' (z.taken.length + i) c') := hsr.out.blk.cell 7
      have fg := fun q => hsr.out.blk.frozen q
      have i2 : IntKind.i64.wrap ((i : Int) + 1) = (i : Int) + 1 := by rw [IntKind.wrap_i64]; omega
      have hnb : Hid (z.taken.length + i ≤ 262144) := hid (by have := hcnt.out; omega)
      clear hkey hil
      cases hw : (z.f key).w with
      | true =>
        have hold : Hid ((z.f key).old = (z.f key).c0) := hid (by unfold Ce.old Ce.at_; rw [hw]; rfl)
        have hl7 : Hid ((ceCells (z.f key))[7]? = some (.int .i64 1)) := hid (by simp [ceCells, hw, bI])
        have hl0 : Hid ((ceCells (z.f key))[0]? = some (.int .i64 (z.f key).c0.k)) := hid rfl
        have hl1 : Hid ((ceCells (z.f key))[1]? = some (.int .i64 (z.f key).c0.n)) := hid rfl
        have hl2 : Hid ((ceCells (z.f key))[2]? = some (.string (z.f key).c0.s)) := hid rfl
        have hb7 : wr.cell? ⟨b key, 7, none⟩ = some (.int .i64 1) := (hbk.out.cell 7).trans hl7.out
        have hb0 : wr.cell? ⟨b key, 0, none⟩ = some (.int .i64 (z.f key).c0.k) := (hbk.out.cell 0).trans hl0.out
        have hb1 : wr.cell? ⟨b key, 1, none⟩ = some (.int .i64 (z.f key).c0.n) := (hbk.out.cell 1).trans hl1.out
        have hb2 : wr.cell? ⟨b key, 2, none⟩ = some (.string (z.f key).c0.s) := (hbk.out.cell 2).trans hl2.out
        have hkeep : Hid (∀ w', Upd (fun q => (Value.slice A' (z.taken.length + i) c').ownBlock = some q) wr w' → w'.cell? ⟨g, 7, none⟩ = some (.slice A' (z.taken.length + i) c') ∧ w'.cell? ⟨b key, 7, none⟩ = some (.int .i64 1) ∧ w'.cell? ⟨b key, 0, none⟩ = some (.int .i64 (z.f key).c0.k) ∧ w'.cell? ⟨b key, 1, none⟩ = some (.int .i64 (z.f key).c0.n) ∧ w'.cell? ⟨b key, 2, none⟩ = some (.string (z.f key).c0.s)) := hid fun w' hu => ⟨(hsr.out.blk.upd hu hgr.out).cell 7, ((hbk.out.upd hu hbr.out).cell 7).trans hl7.out, ((hbk.out.upd hu hbr.out).cell 0).trans hl0.out, ((hbk.out.upd hu hbr.out).cell 1).trans hl1.out, ((hbk.out.upd hu hbr.out).cell 2).trans hl2.out⟩
        have hnew : Hid (∀ A3 c3 w3, w3.ownsRow 0 77 4 (.slice A3 (z.taken.length + i + 1) c3) (z.taken.length + i + 1) (kvCells (z.taken ++ (z.left.take i).map fun k => (k, (z.f k).old)) ++ #[.string key, .int .i64 (z.f key).c0.k, .int .i64 (z.f key).c0.n, .string (z.f key).c0.s].toList) → ((Value.slice A3 (z.taken.length + i + 1) c3).ownBlock = (Value.slice A' (z.taken.length + i) c').ownBlock ∨ (Value.slice A3 (z.taken.length + i + 1) c3).ownBlock = some (wr.drew.alloc (.cells #[.string key, .int .i64 (z.f key).c0.k, .int .i64 (z.f key).c0.n, .string (z.f key).c0.s] 77)).heap.size) → Upd (fun q => (Value.slice A' (z.taken.length + i) c').ownBlock = some q) wr w3 → SR w (w3.setCell ⟨g, 7, none⟩ (.slice A3 (z.taken.length + i + 1) c3)) g sg cm (some ⟨q0, o0, none⟩) c1 A2 c2 z A3 c3 (i + 1)) := hid fun A3 c3 w3 ho ha hu => by
          refine hsr.out.next H.out ?_ ha hu ?_
          · rw [htk.out, List.map_append, ← List.append_assoc, List.map_cons, List.map_nil, kvCells_snoc]
            rw [hold.out]
            exact ho
          · simp
        have hwz0 : IntKind.i64.wrap 0 = 0 := by decide
        have hwz1 : IntKind.i64.wrap 1 = 1 := by decide
        clear hw hbr
        go_upto_region 8 with fail
        have hHeld : wr.drew.cell? ⟨g, 7, none⟩ = some (.slice A' (z.taken.length + i) c') ∧ wr.drew.cell? ⟨b key, 7, none⟩ = some (.int .i64 1) ∧ wr.drew.cell? ⟨b key, 0, none⟩ = some (.int .i64 (z.f key).c0.k) ∧ wr.drew.cell? ⟨b key, 1, none⟩ = some (.int .i64 (z.f key).c0.n) ∧ wr.drew.cell? ⟨b key, 2, none⟩ = some (.string (z.f key).c0.s) := ⟨hr7, hb7, hb0, hb1, hb2⟩
        refine wp_region_heldE (S := fun w' => w'.cell? ⟨g, 7, none⟩ = some (.slice A' (z.taken.length + i) c') ∧ w'.cell? ⟨b key, 7, none⟩ = some (.int .i64 1) ∧ w'.cell? ⟨b key, 0, none⟩ = some (.int .i64 (z.f key).c0.k) ∧ w'.cell? ⟨b key, 1, none⟩ = some (.int .i64 (z.f key).c0.n) ∧ w'.cell? ⟨b key, 2, none⟩ = some (.string (z.f key).c0.s)) 21 (by kernel_rfl) ?_
        refine wpAnyE_take [19, 20, 21] (i := 0) (v := ?v1) rfl (by kernel_rfl) (by kernel_rfl) (by kernel_rfl) (by rfl) (by kernel_rfl) (by kernel_rfl) (fun _ _ _ h => h) (Or.inl ⟨by rfl, ?hy1⟩) (hHeld) ?rest1
        case hy1 => intro w hSw; (try dsimp only at hSw); go_simp; try with_reducible rfl
        (try simp only [Act.put, List.setIfInBounds_toArray, List.set_cons_zero, List.set_cons_succ, List.getElem_toArray, List.getElem_cons_zero, List.getElem_cons_succ])
        refine wpAnyE_take [2, 3, 4, 18, 19, 20, 21] (i := 1) (v := ?v2) rfl (by kernel_rfl) (by kernel_rfl) (by kernel_rfl) (by rfl) (by kernel_rfl) (by kernel_rfl) (fun _ _ _ h => h) (Or.inl ⟨by rfl, ?hy2⟩) (hHeld) ?rest2
        case hy2 => intro w hSw; (try dsimp only at hSw); go_simp; try with_reducible rfl
        (try simp only [Act.put, List.setIfInBounds_toArray, List.set_cons_zero, List.set_cons_succ, List.getElem_toArray, List.getElem_cons_zero, List.getElem_cons_succ])
        refine wpAnyE_take [3, 4, 18, 19, 20, 21] (i := 2) (v := ?v3) rfl (by kernel_rfl) (by kernel_rfl) (by kernel_rfl) (by rfl) (by kernel_rfl) (by kernel_rfl) (fun _ _ _ h => h) (Or.inl ⟨by rfl, ?hy3⟩) (hHeld) ?rest3
        case hy3 => intro w hSw; (try dsimp only at hSw); go_simp; try with_reducible rfl
        (try simp only [Act.put, List.setIfInBounds_toArray, List.set_cons_zero, List.set_cons_succ, List.getElem_toArray, List.getElem_cons_zero, List.getElem_cons_succ])
        refine wpAnyE_take [4, 18, 19, 20, 21] (i := 3) (v := ?v4) rfl (by kernel_rfl) (by kernel_rfl) (by kernel_rfl) (by rfl) (by kernel_rfl) (by kernel_rfl) (fun _ _ _ h => h) (Or.inl ⟨by rfl, ?hy4⟩) (hHeld) ?rest4
        case hy4 => intro w hSw; (try dsimp only at hSw); go_simp; try with_reducible rfl
        (try simp only [Act.put, List.setIfInBounds_toArray, List.set_cons_zero, List.set_cons_succ, List.getElem_toArray, List.getElem_cons_zero, List.getElem_cons_succ])
        refine wpAnyE_take [18, 19, 20, 21] (i := 4) (v := ?v5) rfl (by kernel_rfl) (by kernel_rfl) (by kernel_rfl) (by rfl) (by kernel_rfl) (by kernel_rfl) (fun _ _ _ h => h) (Or.inl ⟨by rfl, ?hy5⟩) (hHeld) ?rest5
        case hy5 => intro w hSw; (try dsimp only at hSw); go_simp; try with_reducible rfl
        (try simp only [Act.put, List.setIfInBounds_toArray, List.set_cons_zero, List.set_cons_succ, List.getElem_toArray, List.getElem_cons_zero, List.getElem_cons_succ])
        refine wpAnyE_take [16, 17, 18, 19, 20, 21] (i := 5) (v := ?v6) rfl (by kernel_rfl) (by kernel_rfl) (by kernel_rfl) (by rfl) (by kernel_rfl) (by kernel_rfl) (fun _ _ _ h => h) (Or.inl ⟨by rfl, ?hy6⟩) (hHeld) ?rest6
        case hy6 => intro w hSw; (try dsimp only at hSw); go_simp; try with_reducible rfl
        (try simp only [Act.put, List.setIfInBounds_toArray, List.set_cons_zero, List.set_cons_succ, List.getElem_toArray, List.getElem_cons_zero, List.getElem_cons_succ])
        refine wpAnyE_take [12, 13, 14, 15, 16, 17, 18, 19, 20, 21] (i := 6) (v := ?v7) rfl (by kernel_rfl) (by kernel_rfl) (by kernel_rfl) (by rfl) (by kernel_rfl) (by kernel_rfl) (fun _ _ _ h => h) (Or.inl ⟨by rfl, ?hy7⟩) (hHeld) ?rest7
        case hy7 => intro w hSw; (try dsimp only at hSw); go_simp; try with_reducible rfl
        (try simp only [Act.put, List.setIfInBounds_toArray, List.set_cons_zero, List.set_cons_succ, List.getElem_toArray, List.getElem_cons_zero, List.getElem_cons_succ])
        refine wpAnyE_take [8, 9, 10, 11, 14, 15, 16, 17, 18, 19, 20, 21] (i := 7) (v := ?v8) rfl (by kernel_rfl) (by kernel_rfl) (by kernel_rfl) (by rfl) (by kernel_rfl) (by kernel_rfl) (fun _ _ _ h => h) (Or.inl ⟨by rfl, ?hy8⟩) (hHeld) ?rest8
        case hy8 => intro w hSw; (try dsimp only at hSw); go_simp; try with_reducible rfl
        (try simp only [Act.put, List.setIfInBounds_toArray, List.set_cons_zero, List.set_cons_succ, List.getElem_toArray, List.getElem_cons_zero, List.getElem_cons_succ])
        refine wpAnyE_take [9, 10, 11, 14, 15, 16, 17, 18, 19, 20, 21] (i := 8) (v := ?v9) rfl (by kernel_rfl) (by kernel_rfl) (by kernel_rfl) (by rfl) (by kernel_rfl) (by kernel_rfl) (fun _ _ _ h => h) (Or.inl ⟨by rfl, ?hy9⟩) (hHeld) ?rest9
        case hy9 => intro w hSw; (try dsimp only at hSw); go_simp; try with_reducible rfl
        (try simp only [Act.put, List.setIfInBounds_toArray, List.set_cons_zero, List.set_cons_succ, List.getElem_toArray, List.getElem_cons_zero, List.getElem_cons_succ])
        refine wpAnyE_take [10, 11, 14, 15, 16, 17, 18, 19, 20, 21] (i := 9) (v := ?v10) rfl (by kernel_rfl) (by kernel_rfl) (by kernel_rfl) (by rfl) (by kernel_rfl) (by kernel_rfl) (fun _ _ _ h => h) (Or.inl ⟨by rfl, ?hy10⟩) (hHeld) ?rest10
        case hy10 => intro w hSw; (try dsimp only at hSw); go_simp; try with_reducible rfl
        (try simp only [Act.put, List.setIfInBounds_toArray, List.set_cons_zero, List.set_cons_succ, List.getElem_toArray, List.getElem_cons_zero, List.getElem_cons_succ])
        refine wpAnyE_take [11, 14, 15, 16, 17, 18, 19, 20, 21] (i := 10) (v := ?v11) rfl (by kernel_rfl) (by kernel_rfl) (by kernel_rfl) (by rfl) (by kernel_rfl) (by kernel_rfl) (fun _ _ _ h => h) (Or.inl ⟨by rfl, ?hy11⟩) (hHeld) ?rest11
        case hy11 => intro w hSw; (try dsimp only at hSw); go_simp; try with_reducible rfl
        (try simp only [Act.put, List.setIfInBounds_toArray, List.set_cons_zero, List.set_cons_succ, List.getElem_toArray, List.getElem_cons_zero, List.getElem_cons_succ])
        refine wpAnyE_take [14, 15, 16, 17, 18, 19, 20, 21] (i := 11) (v := ?v12) rfl (by kernel_rfl) (by kernel_rfl) (by kernel_rfl) (by rfl) (by kernel_rfl) (by kernel_rfl) (fun _ _ _ h => h) (Or.inl ⟨by rfl, ?hy12⟩) (hHeld) ?rest12
        case hy12 => intro w hSw; (try dsimp only at hSw); go_simp; try with_reducible rfl
        (try simp only [Act.put, List.setIfInBounds_toArray, List.set_cons_zero, List.set_cons_succ, List.getElem_toArray, List.getElem_cons_zero, List.getElem_cons_succ])
        refine wpAnyE_take [13, 14, 15, 16, 17, 18, 19, 20, 21] (i := 12) (v := ?v13) rfl (by kernel_rfl) (by kernel_rfl) (by kernel_rfl) (by rfl) (by kernel_rfl) (by kernel_rfl) (fun _ _ _ h => h) (Or.inl ⟨by rfl, ?hy13⟩) (hHeld) ?rest13
        case hy13 => intro w hSw; (try dsimp only at hSw); go_simp; try with_reducible rfl
        (try simp only [Act.put, List.setIfInBounds_toArray, List.set_cons_zero, List.set_cons_succ, List.getElem_toArray, List.getElem_cons_zero, List.getElem_cons_succ])
        refine wpAnyE_take [14, 15, 16, 17, 18, 19, 20, 21] (i := 13) (v := ?v14) rfl (by kernel_rfl) (by kernel_rfl) (by kernel_rfl) (by rfl) (by kernel_rfl) (by kernel_rfl) (fun _ _ _ h => h) (Or.inl ⟨by rfl, ?hy14⟩) (hHeld) ?rest14
        case hy14 => intro w hSw; (try dsimp only at hSw); go_simp; try with_reducible rfl
        (try simp only [Act.put, List.setIfInBounds_toArray, List.set_cons_zero, List.set_cons_succ, List.getElem_toArray, List.getElem_cons_zero, List.getElem_cons_succ])
        refine wpAnyE_take [15, 16, 17, 18, 19, 20, 21] (i := 14) (v := ?v15) rfl (by kernel_rfl) (by kernel_rfl) (by kernel_rfl) (by rfl) (by kernel_rfl) (by kernel_rfl) (fun _ _ _ h => h) (Or.inl ⟨by rfl, ?hy15⟩) (hHeld) ?rest15
        case hy15 => intro w hSw; (try dsimp only at hSw); go_simp; try with_reducible rfl
        (try simp only [Act.put, List.setIfInBounds_toArray, List.set_cons_zero, List.set_cons_succ, List.getElem_toArray, List.getElem_cons_zero, List.getElem_cons_succ])
        refine wpAnyE_take [16, 17, 18, 19, 20, 21] (i := 15) (v := ?v16) rfl (by kernel_rfl) (by kernel_rfl) (by kernel_rfl) (by rfl) (by kernel_rfl) (by kernel_rfl) (fun _ _ _ h => h) (Or.inl ⟨by rfl, ?hy16⟩) (hHeld) ?rest16
        case hy16 => intro w hSw; (try dsimp only at hSw); go_simp; try with_reducible rfl
        (try simp only [Act.put, List.setIfInBounds_toArray, List.set_cons_zero, List.set_cons_succ, List.getElem_toArray, List.getElem_cons_zero, List.getElem_cons_succ])
        refine wpAnyE_take [17, 18, 19, 20, 21] (i := 16) (v := ?v17) rfl (by kernel_rfl) (by kernel_rfl) (by kernel_rfl) (by rfl) (by kernel_rfl) (by kernel_rfl) (fun _ _ _ h => h) (Or.inl ⟨by rfl, ?hy17⟩) (hHeld) ?rest17
        case hy17 => intro w hSw; (try dsimp only at hSw); go_simp; try with_reducible rfl
        (try simp only [Act.put, List.setIfInBounds_toArray, List.set_cons_zero, List.set_cons_succ, List.getElem_toArray, List.getElem_cons_zero, List.getElem_cons_succ])
        refine wpAnyE_ready (rs := [17]) (by kernel_rfl) (by simp) ?_
        refine AllReadyE.cons rfl (fun K hK => ?_) AllReadyE.nil
        go_simp
        refine hK.out _ _ (fun _ => ⟨(hsr.out.blk.drew.alloc _).cell 7, (hbk.out.drew.alloc _).cell 7 |>.trans hl7.out, (hbk.out.drew.alloc _).cell 0 |>.trans hl0.out, (hbk.out.drew.alloc _).cell 1 |>.trans hl1.out, (hbk.out.drew.alloc _).cell 2 |>.trans hl2.out⟩) ?_
        clear hK K
        (try simp only [Act.put, List.setIfInBounds_toArray, List.set_cons_zero, List.set_cons_succ, List.getElem_toArray, List.getElem_cons_zero, List.getElem_cons_succ])
        refine wpAnyE_ready (rs := [18]) (by kernel_rfl) (by simp) ?_
        refine AllReadyE.cons rfl (fun K hK => ?_) AllReadyE.nil
        refine step_append_rd _ rfl (.tmp 49) (.tmp 62) 69 rfl 0 77 ip _ 4 48 Tryd.underlying69 hip hp0 hp1 hp2 rfl (by omega) (.slice A' (z.taken.length + i) c') (z.taken.length + i) (kvCells (z.taken ++ (z.left.take i).map fun k => (k, (z.f k).old))) rfl ?_ (fun q => q = wr.heap.size) (some ⟨wr.heap.size, 0, none⟩) 1 1 #[.string key, .int .i64 (z.f key).c0.k, .int .i64 (z.f key).c0.n, .string (z.f key).c0.s].toList rfl ?_ ?_ ?_ ?_ ?_ (z.taken.length + i + 1) rfl (kvCells (z.taken ++ (z.left.take i).map fun k => (k, (z.f k).old)) ++ #[.string key, .int .i64 (z.f key).c0.k, .int .i64 (z.f key).c0.n, .string (z.f key).c0.s].toList) rfl ?_
        · exact (hsr.out.row.drew).alloc _
        · exact Rd.new wr.drew 77 4 1 #[.string key, .int .i64 (z.f key).c0.k, .int .i64 (z.f key).c0.n, .string (z.f key).c0.s] wr.heap.size rfl rfl
        · intro v hv; simp at hv; rcases hv with rfl | rfl | rfl | rfl <;> rfl
        · have := hnb.out; simp only [maxLen]; omega
        · have := hnb.out; omega
        · exact Nat.zero_le _
        intro A3 c3 w3 hown3 hg3 hat3
        obtain ⟨A9, c9, he9, hc9, hm9⟩ := own_form hown3
        injection he9 with e1 e2 e3
        subst e1; subst e3
        have hu9 : Hid (Upd (fun q => (Value.slice A' (z.taken.length + i) c').ownBlock = some q) wr w3) := hid (((Upd.refl _ wr).drew.alloc _).grown hg3 fun q hq _ => hq)
        have hO3 := hid hown3
        have hat9 := hid hat3
        have r4 : w3.cell? ⟨g, 7, none⟩ = some (.slice A' (z.taken.length + i) c') ∧ w3.cell? ⟨b key, 7, none⟩ = some (.int .i64 1) ∧ w3.cell? ⟨b key, 0, none⟩ = some (.int .i64 (z.f key).c0.k) ∧ w3.cell? ⟨b key, 1, none⟩ = some (.int .i64 (z.f key).c0.n) ∧ w3.cell? ⟨b key, 2, none⟩ = some (.string (z.f key).c0.s) := hkeep.out _ hu9.out
        have q4 : w3.frozen? ⟨g, 7, none⟩ = false := (hsr.out.blk.upd hu9.out hgr.out).frozen 7
        have r7 := r4.1
        clear hg3 hat3 hown3
        refine hK.out _ _ (fun _ => r4) ?_
        clear hK K
        (try simp only [Act.put, List.setIfInBounds_toArray, List.set_cons_zero, List.set_cons_succ, List.getElem_toArray, List.getElem_cons_zero, List.getElem_cons_succ])
        refine wpAnyE_take [20, 21] (i := 19) (v := ?v18) rfl (by kernel_rfl) (by kernel_rfl) (by kernel_rfl) (by rfl) (by kernel_rfl) (by kernel_rfl) (fun _ _ _ h => h) (Or.inl ⟨by rfl, ?hy18⟩) (r4) ?rest18
        case hy18 => intro w hSw; (try dsimp only at hSw); go_simp; try with_reducible rfl
        (try simp only [Act.put, List.setIfInBounds_toArray, List.set_cons_zero, List.set_cons_succ, List.getElem_toArray, List.getElem_cons_zero, List.getElem_cons_succ])
        refine wpAnyE_take [21] (i := 20) (v := ?v19) rfl (by kernel_rfl) (by kernel_rfl) (by kernel_rfl) (by rfl) (by kernel_rfl) (by kernel_rfl) (fun _ _ _ h => h) (Or.inl ⟨by rfl, ?hy19⟩) (r4) ?rest19
        case hy19 => intro w hSw; (try dsimp only at hSw); go_simp; try with_reducible rfl
        (try simp only [Act.put, List.setIfInBounds_toArray, List.set_cons_zero, List.set_cons_succ, List.getElem_toArray, List.getElem_cons_zero, List.getElem_cons_succ])
        refine wpAnyE_ready (rs := [21]) (by kernel_rfl) (by simp) ?_
        refine AllReadyE.cons rfl (fun K hK => ?_) AllReadyE.nil
        go_simp
        refine hK.out _ _ (fun h => absurd rfl h) ?_
        clear hK K
        (try simp only [Act.put, List.setIfInBounds_toArray, List.set_cons_zero, List.set_cons_succ, List.getElem_toArray, List.getElem_cons_zero, List.getElem_cons_succ])
        refine wpAnyE_done (by kernel_rfl) ?_ _
        go_wp2_with fail
        go_roundw
        case rel => exact ⟨i + 1, A3, c3, by go_num, hlt, hnew.out A3 c3 w3 hO3.out hat9.out hu9.out⟩
        case measure => simp [intOf]; omega
      | false =>
        have hold : Hid ((z.f key).old = (z.f key).c1) := hid (by unfold Ce.old Ce.at_; rw [hw]; rfl)
        have hl7 : Hid ((ceCells (z.f key))[7]? = some (.int .i64 0)) := hid (by simp [ceCells, hw, bI])
        have hl0 : Hid ((ceCells (z.f key))[3]? = some (.int .i64 (z.f key).c1.k)) := hid rfl
        have hl1 : Hid ((ceCells (z.f key))[4]? = some (.int .i64 (z.f key).c1.n)) := hid rfl
        have hl2 : Hid ((ceCells (z.f key))[5]? = some (.string (z.f key).c1.s)) := hid rfl
        have hb7 : wr.cell? ⟨b key, 7, none⟩ = some (.int .i64 0) := (hbk.out.cell 7).trans hl7.out
        have hb0 : wr.cell? ⟨b key, 3, none⟩ = some (.int .i64 (z.f key).c1.k) := (hbk.out.cell 3).trans hl0.out
        have hb1 : wr.cell? ⟨b key, 4, none⟩ = some (.int .i64 (z.f key).c1.n) := (hbk.out.cell 4).trans hl1.out
        have hb2 : wr.cell? ⟨b key, 5, none⟩ = some (.string (z.f key).c1.s) := (hbk.out.cell 5).trans hl2.out
        have hkeep : Hid (∀ w', Upd (fun q => (Value.slice A' (z.taken.length + i) c').ownBlock = some q) wr w' → w'.cell? ⟨g, 7, none⟩ = some (.slice A' (z.taken.length + i) c') ∧ w'.cell? ⟨b key, 7, none⟩ = some (.int .i64 0) ∧ w'.cell? ⟨b key, 3, none⟩ = some (.int .i64 (z.f key).c1.k) ∧ w'.cell? ⟨b key, 4, none⟩ = some (.int .i64 (z.f key).c1.n) ∧ w'.cell? ⟨b key, 5, none⟩ = some (.string (z.f key).c1.s)) := hid fun w' hu => ⟨(hsr.out.blk.upd hu hgr.out).cell 7, ((hbk.out.upd hu hbr.out).cell 7).trans hl7.out, ((hbk.out.upd hu hbr.out).cell 3).trans hl0.out, ((hbk.out.upd hu hbr.out).cell 4).trans hl1.out, ((hbk.out.upd hu hbr.out).cell 5).trans hl2.out⟩
        have hnew : Hid (∀ A3 c3 w3, w3.ownsRow 0 77 4 (.slice A3 (z.taken.length + i + 1) c3) (z.taken.length + i + 1) (kvCells (z.taken ++ (z.left.take i).map fun k => (k, (z.f k).old)) ++ #[.string key, .int .i64 (z.f key).c1.k, .int .i64 (z.f key).c1.n, .string (z.f key).c1.s].toList) → ((Value.slice A3 (z.taken.length + i + 1) c3).ownBlock = (Value.slice A' (z.taken.length + i) c').ownBlock ∨ (Value.slice A3 (z.taken.length + i + 1) c3).ownBlock = some (wr.drew.alloc (.cells #[.string key, .int .i64 (z.f key).c1.k, .int .i64 (z.f key).c1.n, .string (z.f key).c1.s] 77)).heap.size) → Upd (fun q => (Value.slice A' (z.taken.length + i) c').ownBlock = some q) wr w3 → SR w (w3.setCell ⟨g, 7, none⟩ (.slice A3 (z.taken.length + i + 1) c3)) g sg cm (some ⟨q0, o0, none⟩) c1 A2 c2 z A3 c3 (i + 1)) := hid fun A3 c3 w3 ho ha hu => by
          refine hsr.out.next H.out ?_ ha hu ?_
          · rw [htk.out, List.map_append, ← List.append_assoc, List.map_cons, List.map_nil, kvCells_snoc]
            rw [hold.out]
            exact ho
          · simp
        have hwz0 : IntKind.i64.wrap 0 = 0 := by decide
        have hwz1 : IntKind.i64.wrap 1 = 1 := by decide
        clear hw hbr
        go_upto_region 8 with fail
        have hHeld : wr.drew.cell? ⟨g, 7, none⟩ = some (.slice A' (z.taken.length + i) c') ∧ wr.drew.cell? ⟨b key, 7, none⟩ = some (.int .i64 0) ∧ wr.drew.cell? ⟨b key, 3, none⟩ = some (.int .i64 (z.f key).c1.k) ∧ wr.drew.cell? ⟨b key, 4, none⟩ = some (.int .i64 (z.f key).c1.n) ∧ wr.drew.cell? ⟨b key, 5, none⟩ = some (.string (z.f key).c1.s) := ⟨hr7, hb7, hb0, hb1, hb2⟩
        refine wp_region_heldE (S := fun w' => w'.cell? ⟨g, 7, none⟩ = some (.slice A' (z.taken.length + i) c') ∧ w'.cell? ⟨b key, 7, none⟩ = some (.int .i64 0) ∧ w'.cell? ⟨b key, 3, none⟩ = some (.int .i64 (z.f key).c1.k) ∧ w'.cell? ⟨b key, 4, none⟩ = some (.int .i64 (z.f key).c1.n) ∧ w'.cell? ⟨b key, 5, none⟩ = some (.string (z.f key).c1.s)) 21 (by kernel_rfl) ?_
        refine wpAnyE_take [19, 20, 21] (i := 0) (v := ?v20) rfl (by kernel_rfl) (by kernel_rfl) (by kernel_rfl) (by rfl) (by kernel_rfl) (by kernel_rfl) (fun _ _ _ h => h) (Or.inl ⟨by rfl, ?hy20⟩) (hHeld) ?rest20
        case hy20 => intro w hSw; (try dsimp only at hSw); go_simp; try with_reducible rfl
        (try simp only [Act.put, List.setIfInBounds_toArray, List.set_cons_zero, List.set_cons_succ, List.getElem_toArray, List.getElem_cons_zero, List.getElem_cons_succ])
        refine wpAnyE_take [2, 3, 4, 18, 19, 20, 21] (i := 1) (v := ?v21) rfl (by kernel_rfl) (by kernel_rfl) (by kernel_rfl) (by rfl) (by kernel_rfl) (by kernel_rfl) (fun _ _ _ h => h) (Or.inl ⟨by rfl, ?hy21⟩) (hHeld) ?rest21
        case hy21 => intro w hSw; (try dsimp only at hSw); go_simp; try with_reducible rfl
        (try simp only [Act.put, List.setIfInBounds_toArray, List.set_cons_zero, List.set_cons_succ, List.getElem_toArray, List.getElem_cons_zero, List.getElem_cons_succ])
        refine wpAnyE_take [3, 4, 18, 19, 20, 21] (i := 2) (v := ?v22) rfl (by kernel_rfl) (by kernel_rfl) (by kernel_rfl) (by rfl) (by kernel_rfl) (by kernel_rfl) (fun _ _ _ h => h) (Or.inl ⟨by rfl, ?hy22⟩) (hHeld) ?rest22
        case hy22 => intro w hSw; (try dsimp only at hSw); go_simp; try with_reducible rfl
        (try simp only [Act.put, List.setIfInBounds_toArray, List.set_cons_zero, List.set_cons_succ, List.getElem_toArray, List.getElem_cons_zero, List.getElem_cons_succ])
        refine wpAnyE_take [4, 18, 19, 20, 21] (i := 3) (v := ?v23) rfl (by kernel_rfl) (by kernel_rfl) (by kernel_rfl) (by rfl) (by kernel_rfl) (by kernel_rfl) (fun _ _ _ h => h) (Or.inl ⟨by rfl, ?hy23⟩) (hHeld) ?rest23
        case hy23 => intro w hSw; (try dsimp only at hSw); go_simp; try with_reducible rfl
        (try simp only [Act.put, List.setIfInBounds_toArray, List.set_cons_zero, List.set_cons_succ, List.getElem_toArray, List.getElem_cons_zero, List.getElem_cons_succ])
        refine wpAnyE_take [18, 19, 20, 21] (i := 4) (v := ?v24) rfl (by kernel_rfl) (by kernel_rfl) (by kernel_rfl) (by rfl) (by kernel_rfl) (by kernel_rfl) (fun _ _ _ h => h) (Or.inl ⟨by rfl, ?hy24⟩) (hHeld) ?rest24
        case hy24 => intro w hSw; (try dsimp only at hSw); go_simp; try with_reducible rfl
        (try simp only [Act.put, List.setIfInBounds_toArray, List.set_cons_zero, List.set_cons_succ, List.getElem_toArray, List.getElem_cons_zero, List.getElem_cons_succ])
        refine wpAnyE_take [16, 17, 18, 19, 20, 21] (i := 5) (v := ?v25) rfl (by kernel_rfl) (by kernel_rfl) (by kernel_rfl) (by rfl) (by kernel_rfl) (by kernel_rfl) (fun _ _ _ h => h) (Or.inl ⟨by rfl, ?hy25⟩) (hHeld) ?rest25
        case hy25 => intro w hSw; (try dsimp only at hSw); go_simp; try with_reducible rfl
        (try simp only [Act.put, List.setIfInBounds_toArray, List.set_cons_zero, List.set_cons_succ, List.getElem_toArray, List.getElem_cons_zero, List.getElem_cons_succ])
        refine wpAnyE_take [12, 13, 14, 15, 16, 17, 18, 19, 20, 21] (i := 6) (v := ?v26) rfl (by kernel_rfl) (by kernel_rfl) (by kernel_rfl) (by rfl) (by kernel_rfl) (by kernel_rfl) (fun _ _ _ h => h) (Or.inl ⟨by rfl, ?hy26⟩) (hHeld) ?rest26
        case hy26 => intro w hSw; (try dsimp only at hSw); go_simp; try with_reducible rfl
        (try simp only [Act.put, List.setIfInBounds_toArray, List.set_cons_zero, List.set_cons_succ, List.getElem_toArray, List.getElem_cons_zero, List.getElem_cons_succ])
        refine wpAnyE_take [8, 9, 10, 11, 14, 15, 16, 17, 18, 19, 20, 21] (i := 7) (v := ?v27) rfl (by kernel_rfl) (by kernel_rfl) (by kernel_rfl) (by rfl) (by kernel_rfl) (by kernel_rfl) (fun _ _ _ h => h) (Or.inl ⟨by rfl, ?hy27⟩) (hHeld) ?rest27
        case hy27 => intro w hSw; (try dsimp only at hSw); go_simp; try with_reducible rfl
        (try simp only [Act.put, List.setIfInBounds_toArray, List.set_cons_zero, List.set_cons_succ, List.getElem_toArray, List.getElem_cons_zero, List.getElem_cons_succ])
        refine wpAnyE_take [9, 10, 11, 14, 15, 16, 17, 18, 19, 20, 21] (i := 8) (v := ?v28) rfl (by kernel_rfl) (by kernel_rfl) (by kernel_rfl) (by rfl) (by kernel_rfl) (by kernel_rfl) (fun _ _ _ h => h) (Or.inl ⟨by rfl, ?hy28⟩) (hHeld) ?rest28
        case hy28 => intro w hSw; (try dsimp only at hSw); go_simp; try with_reducible rfl
        (try simp only [Act.put, List.setIfInBounds_toArray, List.set_cons_zero, List.set_cons_succ, List.getElem_toArray, List.getElem_cons_zero, List.getElem_cons_succ])
        refine wpAnyE_take [10, 11, 14, 15, 16, 17, 18, 19, 20, 21] (i := 9) (v := ?v29) rfl (by kernel_rfl) (by kernel_rfl) (by kernel_rfl) (by rfl) (by kernel_rfl) (by kernel_rfl) (fun _ _ _ h => h) (Or.inl ⟨by rfl, ?hy29⟩) (hHeld) ?rest29
        case hy29 => intro w hSw; (try dsimp only at hSw); go_simp; try with_reducible rfl
        (try simp only [Act.put, List.setIfInBounds_toArray, List.set_cons_zero, List.set_cons_succ, List.getElem_toArray, List.getElem_cons_zero, List.getElem_cons_succ])
        refine wpAnyE_take [11, 14, 15, 16, 17, 18, 19, 20, 21] (i := 10) (v := ?v30) rfl (by kernel_rfl) (by kernel_rfl) (by kernel_rfl) (by rfl) (by kernel_rfl) (by kernel_rfl) (fun _ _ _ h => h) (Or.inl ⟨by rfl, ?hy30⟩) (hHeld) ?rest30
        case hy30 => intro w hSw; (try dsimp only at hSw); go_simp; try with_reducible rfl
        (try simp only [Act.put, List.setIfInBounds_toArray, List.set_cons_zero, List.set_cons_succ, List.getElem_toArray, List.getElem_cons_zero, List.getElem_cons_succ])
        refine wpAnyE_take [14, 15, 16, 17, 18, 19, 20, 21] (i := 11) (v := ?v31) rfl (by kernel_rfl) (by kernel_rfl) (by kernel_rfl) (by rfl) (by kernel_rfl) (by kernel_rfl) (fun _ _ _ h => h) (Or.inl ⟨by rfl, ?hy31⟩) (hHeld) ?rest31
        case hy31 => intro w hSw; (try dsimp only at hSw); go_simp; try with_reducible rfl
        (try simp only [Act.put, List.setIfInBounds_toArray, List.set_cons_zero, List.set_cons_succ, List.getElem_toArray, List.getElem_cons_zero, List.getElem_cons_succ])
        refine wpAnyE_take [13, 14, 15, 16, 17, 18, 19, 20, 21] (i := 12) (v := ?v32) rfl (by kernel_rfl) (by kernel_rfl) (by kernel_rfl) (by rfl) (by kernel_rfl) (by kernel_rfl) (fun _ _ _ h => h) (Or.inl ⟨by rfl, ?hy32⟩) (hHeld) ?rest32
        case hy32 => intro w hSw; (try dsimp only at hSw); go_simp; try with_reducible rfl
        (try simp only [Act.put, List.setIfInBounds_toArray, List.set_cons_zero, List.set_cons_succ, List.getElem_toArray, List.getElem_cons_zero, List.getElem_cons_succ])
        refine wpAnyE_take [14, 15, 16, 17, 18, 19, 20, 21] (i := 13) (v := ?v33) rfl (by kernel_rfl) (by kernel_rfl) (by kernel_rfl) (by rfl) (by kernel_rfl) (by kernel_rfl) (fun _ _ _ h => h) (Or.inl ⟨by rfl, ?hy33⟩) (hHeld) ?rest33
        case hy33 => intro w hSw; (try dsimp only at hSw); go_simp; try with_reducible rfl
        (try simp only [Act.put, List.setIfInBounds_toArray, List.set_cons_zero, List.set_cons_succ, List.getElem_toArray, List.getElem_cons_zero, List.getElem_cons_succ])
        refine wpAnyE_take [15, 16, 17, 18, 19, 20, 21] (i := 14) (v := ?v34) rfl (by kernel_rfl) (by kernel_rfl) (by kernel_rfl) (by rfl) (by kernel_rfl) (by kernel_rfl) (fun _ _ _ h => h) (Or.inl ⟨by rfl, ?hy34⟩) (hHeld) ?rest34
        case hy34 => intro w hSw; (try dsimp only at hSw); go_simp; try with_reducible rfl
        (try simp only [Act.put, List.setIfInBounds_toArray, List.set_cons_zero, List.set_cons_succ, List.getElem_toArray, List.getElem_cons_zero, List.getElem_cons_succ])
        refine wpAnyE_take [16, 17, 18, 19, 20, 21] (i := 15) (v := ?v35) rfl (by kernel_rfl) (by kernel_rfl) (by kernel_rfl) (by rfl) (by kernel_rfl) (by kernel_rfl) (fun _ _ _ h => h) (Or.inl ⟨by rfl, ?hy35⟩) (hHeld) ?rest35
        case hy35 => intro w hSw; (try dsimp only at hSw); go_simp; try with_reducible rfl
        (try simp only [Act.put, List.setIfInBounds_toArray, List.set_cons_zero, List.set_cons_succ, List.getElem_toArray, List.getElem_cons_zero, List.getElem_cons_succ])
        refine wpAnyE_take [17, 18, 19, 20, 21] (i := 16) (v := ?v36) rfl (by kernel_rfl) (by kernel_rfl) (by kernel_rfl) (by rfl) (by kernel_rfl) (by kernel_rfl) (fun _ _ _ h => h) (Or.inl ⟨by rfl, ?hy36⟩) (hHeld) ?rest36
        case hy36 => intro w hSw; (try dsimp only at hSw); go_simp; try with_reducible rfl
        (try simp only [Act.put, List.setIfInBounds_toArray, List.set_cons_zero, List.set_cons_succ, List.getElem_toArray, List.getElem_cons_zero, List.getElem_cons_succ])
        refine wpAnyE_ready (rs := [17]) (by kernel_rfl) (by simp) ?_
        refine AllReadyE.cons rfl (fun K hK => ?_) AllReadyE.nil
        go_simp
        refine hK.out _ _ (fun _ => ⟨(hsr.out.blk.drew.alloc _).cell 7, (hbk.out.drew.alloc _).cell 7 |>.trans hl7.out, (hbk.out.drew.alloc _).cell 3 |>.trans hl0.out, (hbk.out.drew.alloc _).cell 4 |>.trans hl1.out, (hbk.out.drew.alloc _).cell 5 |>.trans hl2.out⟩) ?_
        clear hK K
        (try simp only [Act.put, List.setIfInBounds_toArray, List.set_cons_zero, List.set_cons_succ, List.getElem_toArray, List.getElem_cons_zero, List.getElem_cons_succ])
        refine wpAnyE_ready (rs := [18]) (by kernel_rfl) (by simp) ?_
        refine AllReadyE.cons rfl (fun K hK => ?_) AllReadyE.nil
        refine step_append_rd _ rfl (.tmp 49) (.tmp 62) 69 rfl 0 77 ip _ 4 48 Tryd.underlying69 hip hp0 hp1 hp2 rfl (by omega) (.slice A' (z.taken.length + i) c') (z.taken.length + i) (kvCells (z.taken ++ (z.left.take i).map fun k => (k, (z.f k).old))) rfl ?_ (fun q => q = wr.heap.size) (some ⟨wr.heap.size, 0, none⟩) 1 1 #[.string key, .int .i64 (z.f key).c1.k, .int .i64 (z.f key).c1.n, .string (z.f key).c1.s].toList rfl ?_ ?_ ?_ ?_ ?_ (z.taken.length + i + 1) rfl (kvCells (z.taken ++ (z.left.take i).map fun k => (k, (z.f k).old)) ++ #[.string key, .int .i64 (z.f key).c1.k, .int .i64 (z.f key).c1.n, .string (z.f key).c1.s].toList) rfl ?_
        · exact (hsr.out.row.drew).alloc _
        · exact Rd.new wr.drew 77 4 1 #[.string key, .int .i64 (z.f key).c1.k, .int .i64 (z.f key).c1.n, .string (z.f key).c1.s] wr.heap.size rfl rfl
        · intro v hv; simp at hv; rcases hv with rfl | rfl | rfl | rfl <;> rfl
        · have := hnb.out; simp only [maxLen]; omega
        · have := hnb.out; omega
        · exact Nat.zero_le _
        intro A3 c3 w3 hown3 hg3 hat3
        obtain ⟨A9, c9, he9, hc9, hm9⟩ := own_form hown3
        injection he9 with e1 e2 e3
        subst e1; subst e3
        have hu9 : Hid (Upd (fun q => (Value.slice A' (z.taken.length + i) c').ownBlock = some q) wr w3) := hid (((Upd.refl _ wr).drew.alloc _).grown hg3 fun q hq _ => hq)
        have hO3 := hid hown3
        have hat9 := hid hat3
        have r4 : w3.cell? ⟨g, 7, none⟩ = some (.slice A' (z.taken.length + i) c') ∧ w3.cell? ⟨b key, 7, none⟩ = some (.int .i64 0) ∧ w3.cell? ⟨b key, 3, none⟩ = some (.int .i64 (z.f key).c1.k) ∧ w3.cell? ⟨b key, 4, none⟩ = some (.int .i64 (z.f key).c1.n) ∧ w3.cell? ⟨b key, 5, none⟩ = some (.string (z.f key).c1.s) := hkeep.out _ hu9.out
        have q4 : w3.frozen? ⟨g, 7, none⟩ = false := (hsr.out.blk.upd hu9.out hgr.out).frozen 7
        have r7 := r4.1
        clear hg3 hat3 hown3
        refine hK.out _ _ (fun _ => r4) ?_
        clear hK K
        (try simp only [Act.put, List.setIfInBounds_toArray, List.set_cons_zero, List.set_cons_succ, List.getElem_toArray, List.getElem_cons_zero, List.getElem_cons_succ])
        refine wpAnyE_take [20, 21] (i := 19) (v := ?v37) rfl (by kernel_rfl) (by kernel_rfl) (by kernel_rfl) (by rfl) (by kernel_rfl) (by kernel_rfl) (fun _ _ _ h => h) (Or.inl ⟨by rfl, ?hy37⟩) (r4) ?rest37
        case hy37 => intro w hSw; (try dsimp only at hSw); go_simp; try with_reducible rfl
        (try simp only [Act.put, List.setIfInBounds_toArray, List.set_cons_zero, List.set_cons_succ, List.getElem_toArray, List.getElem_cons_zero, List.getElem_cons_succ])
        refine wpAnyE_take [21] (i := 20) (v := ?v38) rfl (by kernel_rfl) (by kernel_rfl) (by kernel_rfl) (by rfl) (by kernel_rfl) (by kernel_rfl) (fun _ _ _ h => h) (Or.inl ⟨by rfl, ?hy38⟩) (r4) ?rest38
        case hy38 => intro w hSw; (try dsimp only at hSw); go_simp; try with_reducible rfl
        (try simp only [Act.put, List.setIfInBounds_toArray, List.set_cons_zero, List.set_cons_succ, List.getElem_toArray, List.getElem_cons_zero, List.getElem_cons_succ])
        refine wpAnyE_ready (rs := [21]) (by kernel_rfl) (by simp) ?_
        refine AllReadyE.cons rfl (fun K hK => ?_) AllReadyE.nil
        go_simp
        refine hK.out _ _ (fun h => absurd rfl h) ?_
        clear hK K
        (try simp only [Act.put, List.setIfInBounds_toArray, List.set_cons_zero, List.set_cons_succ, List.getElem_toArray, List.getElem_cons_zero, List.getElem_cons_succ])
        refine wpAnyE_done (by kernel_rfl) ?_ _
        go_wp2_with fail
        go_roundw
        case rel => exact ⟨i + 1, A3, c3, by go_num, hlt, hnew.out A3 c3 w3 hO3.out hat9.out hu9.out⟩
        case measure => simp [intOf]; omega
    · obtain rfl : i = k := by omega
      have x6 : wr.cell? ⟨g, 6, none⟩ = some (.slice A1 z.left.length c1) := hsr.out.blk.cell 6
      have fg := fun q => hsr.out.blk.frozen q
      have hgl := hsr.out.blk.lt
      have hfin : Hid (ZGo T w g (z.step n) (wr.setCell ⟨g, 6, none⟩ (.slice (if c1 = i then A1 else Option.map (fun x => x.add i) A1) (z.left.length - i) (c1 - i)))) := hid (by
        refine H.out.stepped hkh.out.symm hklh.out hsr.out ((Upd.refl (fun q => q = g) wr).setCell (p := ⟨g, 6, none⟩) (fun _ => rfl) _) ?_ (by have := hcnt.out; have := hklh.out; omega)
        have h9 := hsr.out.blk.set_ 6 (.slice (if c1 = i then A1 else Option.map (fun x => x.add i) A1) (z.left.length - i) (c1 - i))
        simpa using h9)
      have j5 : i ≤ z.left.length := hklh.out
      clear hlt hi
      by_cases hci : c1 = i
      · subst hci
        have hfin2 : Hid (ZGo T w g (z.step n) (wr.setCell ⟨g, 6, none⟩ (.slice A1 (z.left.length - c1) 0))) := hid (by
          have := hfin.out
          rw [if_pos rfl, Nat.sub_self] at this
          exact this)
        go_wp2_with fail
        go_ret
        exact ⟨rfl, hfin2.out⟩
      · have hfin2 : Hid (ZGo T w g (z.step n) (wr.setCell ⟨g, 6, none⟩ (.slice (Option.map (fun x => x.add i) A1) (z.left.length - i) (c1 - i)))) := hid (by
          have := hfin.out
          rw [if_neg hci] at this
          exact this)
        go_wp2_with fail
        go_ret
        exact ⟨rfl, hfin2.out⟩
end
end Go.Proofs.YtefigpmkiemfhaaDoor

namespace Go.Proofs.YtefigpmkiemfhaaDoor
open Go.Shelf
def laysM173_ren : Go.Shelf.Ren := ⟨fun | 173 => 59 | 246 => 76 | 283 => 86 | 284 => 87 | 285 => 88 | 286 => 89 | 129 => 71 | 317 => 91 | 318 => 92 | 319 => 93 | 320 => 94 | 337 => 95 | 338 => 96 | n => n, fun | 2 => 2 | 3 => 3 | 9 => 9 | 4 => 4 | 171 => 133 | 0 => 0 | 53 => 103 | 37 => 22 | 5 => 5 | 173 => 135 | 212 => 140 | 51 => 122 | 20 => 20 | 213 => 141 | 46 => 107 | 232 => 143 | 233 => 144 | n => n, fun | 17 => 2 | 18 => 3 | 19 => 4 | n => n⟩
theorem laysM173 : Go.Proofs.LaysM.n173 Tryd.prog laysM173_ren := {
  mixed := by kernel_rfl
  f129 := Tryd.func71.trans (congrArg some (by kernel_rfl))
  f173 := Tryd.func59.trans (congrArg some (by kernel_rfl))
  f246 := Tryd.func76.trans (congrArg some (by kernel_rfl))
  f283 := Tryd.func86.trans (congrArg some (by kernel_rfl))
  f284 := Tryd.func87.trans (congrArg some (by kernel_rfl))
  f285 := Tryd.func88.trans (congrArg some (by kernel_rfl))
  f286 := Tryd.func89.trans (congrArg some (by kernel_rfl))
  f317 := Tryd.func91.trans (congrArg some (by kernel_rfl))
  f318 := Tryd.func92.trans (congrArg some (by kernel_rfl))
  f319 := Tryd.func93.trans (congrArg some (by kernel_rfl))
  f320 := Tryd.func94.trans (congrArg some (by kernel_rfl))
  f337 := Tryd.func95.trans (congrArg some (by kernel_rfl))
  f338 := Tryd.func96.trans (congrArg some (by kernel_rfl))
  t0 := Tryd.underlying0
  a0 := Tryd.isAgg0
  z0 := Tryd.sizeOf0
  v0 := Tryd.zeroValue0
  t2 := Tryd.underlying2
  a2 := Tryd.isAgg2
  z2 := Tryd.sizeOf2
  v2 := Tryd.zeroValue2
  t3 := Tryd.underlying3
  a3 := Tryd.isAgg3
  z3 := Tryd.sizeOf3
  v3 := Tryd.zeroValue3
  t4 := Tryd.underlying4
  a4 := Tryd.isAgg4
  z4 := Tryd.sizeOf4
  v4 := Tryd.zeroValue4
  t5 := Tryd.underlying5
  a5 := Tryd.isAgg5
  z5 := Tryd.sizeOf5
  v5 := Tryd.zeroValue5
  t9 := Tryd.underlying9
  a9 := Tryd.isAgg9
  z9 := Tryd.sizeOf9
  v9 := Tryd.zeroValue9
  t20 := Tryd.underlying20
  a20 := Tryd.isAgg20
  z20 := Tryd.sizeOf20
  v20 := Tryd.zeroValue20
  t37 := Tryd.underlying22
  a37 := Tryd.isAgg22
  z37 := Tryd.sizeOf22
  v37 := Tryd.zeroValue22
  t46 := Tryd.underlying107
  a46 := Tryd.isAgg107
  z46 := Tryd.sizeOf107
  v46 := Tryd.zeroValue107
  t51 := Tryd.underlying122
  a51 := Tryd.isAgg122
  z51 := Tryd.sizeOf122
  v51 := Tryd.zeroValue122
  t53 := Tryd.underlying103
  a53 := Tryd.isAgg103
  z53 := Tryd.sizeOf103
  v53 := Tryd.zeroValue103
  t171 := Tryd.underlying133
  a171 := Tryd.isAgg133
  z171 := Tryd.sizeOf133
  v171 := Tryd.zeroValue133
  t173 := Tryd.underlying135
  a173 := Tryd.isAgg135
  z173 := Tryd.sizeOf135
  v173 := Tryd.zeroValue135
  t212 := Tryd.underlying140
  a212 := Tryd.isAgg140
  z212 := Tryd.sizeOf140
  v212 := Tryd.zeroValue140
  t213 := Tryd.underlying141
  a213 := Tryd.isAgg141
  z213 := Tryd.sizeOf141
  t232 := Tryd.underlying143
  a232 := Tryd.isAgg143
  z232 := Tryd.sizeOf143
  v232 := Tryd.zeroValue143
  t233 := Tryd.underlying144
  a233 := Tryd.isAgg144
  z233 := Tryd.sizeOf144
  v233 := Tryd.zeroValue144
  g17 := by kernel_rfl
  g18 := by kernel_rfl
  g19 := by kernel_rfl
  i0 := by kernel_rfl
  i2 := by kernel_rfl
  i3 := by kernel_rfl
  i4 := by kernel_rfl
  i5 := by kernel_rfl
  i9 := by kernel_rfl
  i20 := by kernel_rfl
  i37 := by kernel_rfl
  i46 := by kernel_rfl
  i51 := by kernel_rfl
  i53 := by kernel_rfl
  i171 := by kernel_rfl
  i173 := by kernel_rfl
  i212 := by kernel_rfl
  i232 := by kernel_rfl
  i233 := by kernel_rfl
  m17 := by kernel_rfl
  m18 := by kernel_rfl
  m19 := by kernel_rfl }
def laysM183_ren : Go.Shelf.Ren := ⟨fun | 183 => 49 | n => n, fun | 130 => 109 | 37 => 22 | 0 => 0 | 93 => 91 | 3 => 3 | 5 => 5 | 91 => 89 | n => n, fun | n => n⟩
theorem laysM183 : Go.Proofs.LaysM.n183 Tryd.prog laysM183_ren := {
  mixed := by kernel_rfl
  f183 := Tryd.func49.trans (congrArg some (by kernel_rfl))
  t0 := Tryd.underlying0
  a0 := Tryd.isAgg0
  z0 := Tryd.sizeOf0
  v0 := Tryd.zeroValue0
  t3 := Tryd.underlying3
  a3 := Tryd.isAgg3
  z3 := Tryd.sizeOf3
  v3 := Tryd.zeroValue3
  t37 := Tryd.underlying22
  a37 := Tryd.isAgg22
  z37 := Tryd.sizeOf22
  v37 := Tryd.zeroValue22
  t93 := Tryd.underlying91
  a93 := Tryd.isAgg91
  z93 := Tryd.sizeOf91
  v93 := Tryd.zeroValue91
  t130 := Tryd.underlying109
  a130 := Tryd.isAgg109
  z130 := Tryd.sizeOf109
  v130 := Tryd.zeroValue109
  t5 := Tryd.underlying5
  a5 := Tryd.isAgg5
  z5 := Tryd.sizeOf5
  v5 := Tryd.zeroValue5
  t91 := Tryd.underlying89
  a91 := Tryd.isAgg89
  z91 := Tryd.sizeOf89
  v91 := Tryd.zeroValue89
  i0 := by kernel_rfl
  i3 := by kernel_rfl
  i5 := by kernel_rfl
  i37 := by kernel_rfl
  i91 := by kernel_rfl
  i93 := by kernel_rfl
  i130 := by kernel_rfl }
def laysM178_ren : Go.Shelf.Ren := ⟨fun | 178 => 45 | 251 => 57 | 252 => 58 | 181 => 73 | 184 => 74 | 290 => 75 | 324 => 85 | n => n, fun | 130 => 109 | 9 => 9 | 3 => 3 | 75 => 93 | 0 => 0 | 93 => 91 | 91 => 89 | 131 => 110 | 4 => 4 | 37 => 22 | 20 => 20 | 80 => 146 | 5 => 5 | n => n, fun | 14 => 0 | n => n⟩
theorem laysM178 : Go.Proofs.LaysM.n178 Tryd.prog laysM178_ren := {
  mixed := by kernel_rfl
  f178 := Tryd.func45.trans (congrArg some (by kernel_rfl))
  f181 := Tryd.func73.trans (congrArg some (by kernel_rfl))
  f184 := Tryd.func74.trans (congrArg some (by kernel_rfl))
  f251 := Tryd.func57.trans (congrArg some (by kernel_rfl))
  f252 := Tryd.func58.trans (congrArg some (by kernel_rfl))
  f290 := Tryd.func75.trans (congrArg some (by kernel_rfl))
  f324 := Tryd.func85.trans (congrArg some (by kernel_rfl))
  t0 := Tryd.underlying0
  a0 := Tryd.isAgg0
  z0 := Tryd.sizeOf0
  v0 := Tryd.zeroValue0
  t3 := Tryd.underlying3
  a3 := Tryd.isAgg3
  z3 := Tryd.sizeOf3
  v3 := Tryd.zeroValue3
  t4 := Tryd.underlying4
  a4 := Tryd.isAgg4
  z4 := Tryd.sizeOf4
  v4 := Tryd.zeroValue4
  t9 := Tryd.underlying9
  a9 := Tryd.isAgg9
  z9 := Tryd.sizeOf9
  v9 := Tryd.zeroValue9
  t20 := Tryd.underlying20
  a20 := Tryd.isAgg20
  z20 := Tryd.sizeOf20
  v20 := Tryd.zeroValue20
  t37 := Tryd.underlying22
  a37 := Tryd.isAgg22
  z37 := Tryd.sizeOf22
  v37 := Tryd.zeroValue22
  t75 := Tryd.underlying93
  a75 := Tryd.isAgg93
  z75 := Tryd.sizeOf93
  v75 := Tryd.zeroValue93
  t91 := Tryd.underlying89
  a91 := Tryd.isAgg89
  z91 := Tryd.sizeOf89
  v91 := Tryd.zeroValue89
  t93 := Tryd.underlying91
  a93 := Tryd.isAgg91
  z93 := Tryd.sizeOf91
  v93 := Tryd.zeroValue91
  t130 := Tryd.underlying109
  a130 := Tryd.isAgg109
  z130 := Tryd.sizeOf109
  v130 := Tryd.zeroValue109
  t131 := Tryd.underlying110
  a131 := Tryd.isAgg110
  z131 := Tryd.sizeOf110
  v131 := Tryd.zeroValue110
  g14 := by kernel_rfl
  t5 := Tryd.underlying5
  a5 := Tryd.isAgg5
  z5 := Tryd.sizeOf5
  v5 := Tryd.zeroValue5
  t80 := Tryd.underlying146
  a80 := Tryd.isAgg146
  z80 := Tryd.sizeOf146
  v80 := Tryd.zeroValue146
  i0 := by kernel_rfl
  i3 := by kernel_rfl
  i4 := by kernel_rfl
  i5 := by kernel_rfl
  i9 := by kernel_rfl
  i20 := by kernel_rfl
  i37 := by kernel_rfl
  i75 := by kernel_rfl
  i80 := by kernel_rfl
  i91 := by kernel_rfl
  i93 := by kernel_rfl
  i130 := by kernel_rfl
  i131 := by kernel_rfl
  m14 := by kernel_rfl }
open Go.RowKit Go.Sort Go.Lib in
/-- strconv.FormatInt: "FormatInt returns the string representation of i in the given base": AT BASE 10: i's decimal numeral, for every int64. (LAID: no walk: one application.) -/
theorem strconv_FormatInt_10 (n : Int) (h0 : -9223372036854775808 ≤ n) (h1 : n ≤ 9223372036854775807) (w : World) (htab : Lib.TabIs Tryd.prog w "internal/strconv.uint64pow10" .u64 Lib.pow10Tab) :
    Calls Tryd.prog 59 #[.int .i64 n, .int .i64 10] w fun e w' => e = .returned (.string ⟨(Lib.itoa n).toArray⟩) ∧ ∃ k os, w' = grow (w.drewN k) os := Any.strconv_FormatInt_10 laysM173 n h0 h1 w htab
open Go.RowKit in
/-- (*bytes.Buffer).Bytes: "Bytes returns a slice of length b.Len() holding the unread portion of the buffer. .. The slice aliases the buffer content at least until the next buffer modification": A SLICE THAT OWNS THE CELLS bs ('World.ownsRow': nil where nothing was ever written). The world is as it was but for the count of draws. (LAID: no walk: one application.) -/
theorem Buffer_Bytes (B b : Nat) (bs : List Value) (w : World) (h : Lib.IsBuffer 91 5 B b bs w) :
    Calls Tryd.prog 49 #[.pointer (some ⟨b, 0, none⟩)] w fun e w' => ∃ v, e = .returned v ∧ w'.ownsRow B 5 1 v bs.length bs ∧ ∃ n, w' = w.drewN n := Any.Buffer_Bytes laysM183 B b bs w h
open Go.RowKit in
theorem Buffer_WriteString_k (B b : Nat) (bs : List Value) (s : ByteArray) (w : World) (h : Lib.IsBuffer 91 5 B b bs w) (hBw : B ≤ w.heap.size) (h1 : ∀ v ∈ bs, v.oneCell' = true) (hlim : bs.length + s.size ≤ 140737488355328) :
    Calls Tryd.prog 45 #[.pointer (some ⟨b, 0, none⟩), .string s] w fun e w' => e = .returned (.tuple #[.int .i64 s.size, .nilIface]) ∧ Lib.IsBuffer 91 5 B b (bs ++ Lib.byteCells s.data.toList) w' ∧ Below B w w' ∧ Lib.OthersKept 5 (some b) w w' := Any.Buffer_WriteString_k laysM178 B b bs s w h hBw h1 hlim
end Go.Proofs.YtefigpmkiemfhaaDoor

