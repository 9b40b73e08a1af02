/- Texts of the proof, joined: GRNode, GRProp, GNilF. -/
import Derived.Test.YtbgopicpdpkccaaJ08
import Derived.Test.YtbgopicpdpkccaaJ09
namespace Go.Proofs.Ytbgopicpdpkccaa
open Go.RowKit
set_option linter.unusedVariables false
set_option linter.unusedSimpArgs false

theorem flat_at {α : Type} (f : α → List Value) (sz : Nat) (hf : ∀ a, (f a).length = sz) (l : List α) (k j : Nat) (h : k < l.length) (hj : j < sz) : (l.flatMap f)[k * sz + j]? = (f l[k])[j]? := by
  induction l generalizing k with
  | nil => simp at h
  | cons x l ih =>
    rw [List.flatMap_cons]
    cases k with
    | zero => rw [List.getElem?_append_left (by rw [hf]; omega)]; simp
    | succ k =>
      rw [List.getElem?_append_right (by rw [hf, Nat.succ_mul]; omega), hf, show (k + 1) * sz + j - sz = k * sz + j by rw [Nat.succ_mul]; omega, ih k (by simpa using h)]
      simp
theorem rcells_one (k : Int) (x : Sl) (z : Rj) : ∀ u ∈ rcells k x z, u.oneCell' = true := by
  intro u hu
  simp only [rcells, List.mem_cons, List.not_mem_nil, or_false] at hu
  rcases hu with h | h | h | h | h | h | h | h | h | h | h | h | h | h | h <;> subst h <;> rfl
theorem info_rslot : (Try.prog.info? 103).map (fun i => (i.zero, i.size, i.bytes)) = some (some (.agg #[.int .i64 0, .int .i64 0, .int .i64 0, .int .i64 0, .int .i64 0, .int .i64 0, .string ⟨#[]⟩, .bool false, .string ⟨#[]⟩, .bool false, .bool false, .int .i64 0, .int .i64 0, .string ⟨#[]⟩, .slice none 0 0]), 15, 152) := by kernel_rfl
section
variable {S : Nat → Prop} {w w' : World} {r : Nat} {An Am : Option Addr} {cn cm : Nat} {G : Gr} {a : Ra}
theorem there_any (n : Int) (h : RIn S w r An cn Am cm G a) : Calls Try.prog 65 #[.pointer (some ⟨r, 0, none⟩), .int .i64 n] w fun e w' => e = .returned (.bool (decide (0 ≤ n ∧ n < G.nds.length))) ∧ w' = w := by
  obtain ⟨c0, c1⟩ := h.cells
  clear h
  by_cases h1 : 0 ≤ n
  · have t1 : decide (0 ≤ n) = true := decide_eq_true h1
    have hf : Hid (decide (0 ≤ n ∧ n < (G.nds.length : Int)) = decide (n < (G.nds.length : Int))) := hid (by by_cases h2 : n < (G.nds.length : Int) <;> simp [h1, h2])
    go_enter Try.func65, Try.ntmps65
    go_wp2_with fail
    go_ret
    exact ⟨by rw [hf.out]; rfl, rfl⟩
  · have t1 : decide (0 ≤ n) = false := decide_eq_false h1
    have hf : Hid (decide (0 ≤ n ∧ n < (G.nds.length : Int)) = false) := hid (decide_eq_false fun h => h1 h.1)
    go_enter Try.func65, Try.ntmps65
    go_wp2_with fail
    go_ret
    exact ⟨by first | (rw [hf.out]; rfl) | rfl, rfl⟩
theorem majority_any (h : RIn S w r An cn Am cm G a) (hn : G.nds.length ≤ 9) : Calls Try.prog 72 #[.pointer (some ⟨r, 0, none⟩)] w fun e w' => e = .returned (.int .i64 ((G.nds.length : Int) / 2 + 1)) ∧ w' = w := by
  obtain ⟨c0, c1⟩ := h.cells
  have hw1 : IntKind.i64.wrap ((G.nds.length : Int) / 2) = (G.nds.length : Int) / 2 := by rw [IntKind.wrap_i64]; omega
  have hw2 : IntKind.i64.wrap ((G.nds.length : Int) / 2 + 1) = (G.nds.length : Int) / 2 + 1 := by rw [IntKind.wrap_i64]; omega
  clear h hn
  go_enter Try.func72, Try.ntmps72
  go_wp2_with fail
  go_ret
  exact ⟨rfl, rfl⟩
/-- a slot's cells -/
theorem RIn.seg (h : RIn S w r An cn Am cm G a) {i : Nat} (hi : i < G.nds.length) {q : Nat} {s : Int} {x : Sl} (hq : (G.nd i).sl[q]? = some (s, x)) : ∃ b, a.lA i = some ⟨b, 0, none⟩ ∧ b < w.heap.size ∧ S b ∧ (∃ cs, Blk w b 103 cs) ∧ ∀ f, f < 15 → w.cell? ⟨b, q * 15 + f, none⟩ = (rcells s x (a.z i s))[f]? := by
  obtain ⟨n1, n2, n3, ho⟩ := h.nd i hi
  obtain ⟨hql, hqe⟩ := List.getElem?_eq_some_iff.1 hq
  obtain ⟨b, cur, e, hb⟩ := own_formS n3.1 (by omega)
  have hS : S b := n3.2 b (by unfold Ra.row; rw [e]; rfl)
  refine ⟨b, e, hb.lt, hS, ⟨cur, hb⟩, fun f hf => ?_⟩
  obtain ⟨b2, o2, e2, _, _, hc⟩ := n3.rd.at_ (show 0 < (G.nd i).sl.length by omega)
  rw [e] at e2
  injection e2 with e2
  injection e2 with e2 e3
  subst e2 e3
  have h1 : (rrow (G.nd i).sl (a.z i))[q * 15 + f]? = (rcells s x (a.z i s))[f]? := by
    have := flat_at (fun p : Int × Sl => rcells p.1 p.2 (a.z i p.1)) 15 (fun _ => rfl) (G.nd i).sl q f hql hf
    rw [hqe] at this
    exact this
  have h2 : ∃ u, (rcells s x (a.z i s))[f]? = some u := ⟨_, List.getElem?_eq_getElem (by simpa [rcells] using hf)⟩
  obtain ⟨u, hu⟩ := h2
  rw [hu]
  rw [hu] at h1
  have := hc _ u h1
  simpa using this
set_option maxRecDepth 100000 in
set_option maxHeartbeats 4000000 in
theorem rslot_any (i : Nat) (s : Int) (h : RIn S w r An cn Am cm G a) (hi : i < G.nds.length) (hn : (G.nd i).sl.length ≤ 1000) : Calls Try.prog 66 #[.pointer (some ⟨a.nb i, 0, none⟩), .int .i64 s] w
    fun e w' => ∃ b q, e = .returned (.pointer (some ⟨b, q * 15, none⟩)) ∧ ∃ S' a', RIn S' w' r An cn Am cm (G.touch i s) a' ∧ (∀ k, S' k → S k ∨ w.heap.size ≤ k) ∧ Upd S w w' ∧ a'.lA i = some ⟨b, 0, none⟩ ∧ a'.nb = a.nb ∧ ((G.touch i s).nd i).sl[q]? = some (s, (G.touch i s).at_ i s) := by
  obtain ⟨n1, n2, n3, ho⟩ := h.nd i hi
  have x1 : w.cell? ⟨a.nb i, 1, none⟩ = some (.slice (a.lA i) (G.nd i).sl.length (a.lc i)) := n1.cell 1
  have hni : (((G.nd i).sl.length : Nat) : Int) ≤ 1000 := by omega
  have HN := hid hn
  have HH := hid h
  cases hg : getA s (G.nd i).sl with
  | some x =>
    obtain ⟨q, hq, hlt⟩ := slot_pos hg
    have hql := (List.getElem?_eq_some_iff.1 hq).1
    obtain ⟨b, hA, hbl, hSb, _, _⟩ := h.seg hi hq
    have hLT := hid hlt
    have HQ := hid hq
    have hfin : Hid (∃ S' a', RIn S' w r An cn Am cm (G.touch i s) a' ∧ (∀ k, S' k → S k ∨ w.heap.size ≤ k) ∧ Upd S w w ∧ a'.lA i = some ⟨b, 0, none⟩ ∧ a'.nb = a.nb ∧ ((G.touch i s).nd i).sl[q]? = some (s, (G.touch i s).at_ i s)) := hid (by
      have e1 : G.touch i s = G := by unfold Gr.touch; rw [hg]; rfl
      have e2 : G.at_ i s = x := by unfold Gr.at_; rw [hg]; rfl
      rw [e1, e2]
      exact ⟨S, a, h, fun _ h => .inl h, Upd.refl _ _, hA, rfl, hq⟩)
    rw [hA] at x1
    clear h n1 n3 ho hg hq hlt hn
    go_enter Try.func66, Try.ntmps66
    go_wp2_with fail
    go_loopw [5] (fun v wr => ∃ k : Nat, k ≤ q ∧ v = .int .i64 k ∧ wr = w) (fun v _ => (G.nd i).sl.length - (intOf v).toNat)
    case atStart => exact ⟨0, Nat.zero_le _, rfl, rfl⟩
    case round =>
      obtain ⟨k, hk, rfl, rfl⟩ := hrel
      have hkl : (k : Int) < (((G.nd i).sl.length : Nat) : Int) := by omega
      have hkl2 : k < (G.nd i).sl.length := by omega
      have hke : (G.nd i).sl[k]? = some (((G.nd i).sl[k]).1, ((G.nd i).sl[k]).2) := List.getElem?_eq_getElem hkl2
      obtain ⟨b2, hA2, _, _, _, hc⟩ := HH.out.seg hi hke
      rw [hA] at hA2
      injection hA2 with hA2
      injection hA2 with hA2
      subst hA2
      have c0 : wr.cell? ⟨b, k * 15, none⟩ = some (.int .i64 ((G.nd i).sl[k]).1) := hc 0 (by omega)
      by_cases hkq : k = q
      · subst hkq
        have hs : ((G.nd i).sl[k]).1 = s := by
          have := HQ.out
          rw [hke] at this
          injection this with this
          exact congrArg Prod.fst this
        rw [hs] at c0
        clear hc hke hs
        go_wp2_with fail
        go_ret
        exact ⟨b, k, rfl, hfin.out⟩
      · have hne : ((G.nd i).sl[k]).1 ≠ s := hLT.out k _ (by omega) hke
        generalize ((G.nd i).sl[k]).1 = ky at *
        have t1 : decide (ky = s) = false := decide_eq_false hne
        have t2 : (ky == s) = false := by simpa using hne
        clear hc hke
        go_wp2_with fail
        go_roundw
        case rel => exact ⟨k + 1, by omega, by go_num, by first | rfl | trivial⟩
        case measure => simp [intOf]; omega
  | none =>
    have hno := hid (slot_none hg)
    obtain ⟨i0, hi0, hz0, hz1, hz2⟩ := info_parts info_rslot
    have hG : Hid (G.touch i s = G.setSl i s sl0 ∧ (G.setSl i s sl0).at_ i s = sl0 ∧ ((G.setSl i s sl0).nd i).sl = (G.nd i).sl ++ [(s, sl0)]) := hid (by
      refine ⟨by unfold Gr.touch; rw [hg]; rfl, by rw [Gr.at_setSl _ _ _ _ _ _ hi, if_pos ⟨rfl, rfl⟩], ?_⟩
      rw [Gr.nd_setSl _ _ _ _ _ hi, if_pos rfl]
      exact setA_none hg)
    have N1 := hid n1
    have N3 := hid n3
    have qf := fun j => n1.frozen j
    have HG := hid hg
    have hnl := n1.lt
    clear h n1 n3 ho hg hn
    go_enter Try.func66, Try.ntmps66
    go_wp2_with fail
    go_loopw [5] (fun v wr => ∃ k : Nat, k ≤ (G.nd i).sl.length ∧ v = .int .i64 k ∧ wr = w) (fun v _ => (G.nd i).sl.length - (intOf v).toNat)
    case atStart => exact ⟨0, Nat.zero_le _, rfl, rfl⟩
    case round =>
      obtain ⟨k, hk, rfl, rfl⟩ := hrel
      by_cases hkl2 : k < (G.nd i).sl.length
      · have hkl : (k : Int) < (((G.nd i).sl.length : Nat) : Int) := by omega
        have hke : (G.nd i).sl[k]? = some (((G.nd i).sl[k]).1, ((G.nd i).sl[k]).2) := List.getElem?_eq_getElem hkl2
        obtain ⟨b, hA, _, _, _, hc⟩ := HH.out.seg hi hke
        rw [hA] at x1
        have c0 : wr.cell? ⟨b, k * 15, none⟩ = some (.int .i64 ((G.nd i).sl[k]).1) := hc 0 (by omega)
        have hne : ((G.nd i).sl[k]).1 ≠ s := hno.out _ (List.getElem_mem hkl2)
        generalize ((G.nd i).sl[k]).1 = ky at *
        have t1 : decide (ky = s) = false := decide_eq_false hne
        have t2 : (ky == s) = false := by simpa using hne
        clear hc hke
        go_wp2_with fail
        go_roundw
        case rel => exact ⟨k + 1, by omega, by go_num, by first | rfl | trivial⟩
        case measure => simp [intOf]; omega
      · obtain rfl : k = (G.nd i).sl.length := by omega
        clear hkl2 hk
        have hsz : ¬ (a.row G i).ownBlock = some (a.nb i) := fun e => by
          obtain ⟨⟨cs, hc⟩, _⟩ := own_blk N3.out e
          exact N1.out.ne_ hc (by decide) rfl
        have HSZ := hid hsz
        clear hsz
        go_upto_region 7 with (
          at_builtin
          refine wpList_append_rd _ rfl (.tmp 35) (.tmp 38) 96 rfl 0 103 i0 _ 15 152 Try.underlying96 hi0 hz0 hz1 hz2 rfl (by omega) (a.row G i) (G.nd i).sl.length (rrow (G.nd i).sl (a.z i)) rfl (N3.out.1.alloc _) (fun b => b = wr.heap.size) (some ⟨wr.heap.size, 0, none⟩) 1 1 (rcells s sl0 rj0) rfl (Rd.new _ _ 15 1 (rcells s sl0 rj0).toArray _ rfl rfl) (rcells_one _ _ _) (by have := HN.out; simp only [maxLen]; omega) (by have := HN.out; omega) (Nat.zero_le _) ?_
          intro v2 w3 hown2 hg2 hat2
          obtain ⟨A2, c2, rfl, hc2, _⟩ := own_form hown2
          obtain ⟨b2, cur2, rfl, hb2⟩ := own_formS hown2 (by omega)
          have hu3 : Upd (fun k => (a.row G i).ownBlock = some k) wr w3 := ((Upd.refl _ wr).alloc _).grown hg2 fun k hk _ => hk
          have kn30 := N1.out.upd hu3 HSZ.out
          have qf3 := fun j => kn30.frozen j
          have x3 := kn30.cell 1
          simp only [List.getElem?_toArray, List.getElem?_cons_zero, List.getElem?_cons_succ] at x3
          have kn3 := hid kn30
          have HU3 := hid hu3
          have HW2 := hid hown2
          have HG2 := hid hat2
          clear hu3 hown2 hg2 hat2 hb2 kn30)
        have hE := hid (kn3.out.set_ 1 (.slice (some ⟨b2, 0, none⟩) ((G.nd i).sl.length + 1) c2))
        have y1 : (w3.setCell ⟨a.nb i, 1, none⟩ (.slice (some ⟨b2, 0, none⟩) ((G.nd i).sl.length + 1) c2)).cell? ⟨a.nb i, 1, none⟩ = some (.slice (some ⟨b2, 0, none⟩) ((G.nd i).sl.length + 1) c2) := hE.out.cell 1
        have hU : Hid (Upd (fun k => k = a.nb i ∨ (a.row G i).ownBlock = some k) wr (w3.setCell ⟨a.nb i, 1, none⟩ (.slice (some ⟨b2, 0, none⟩) ((G.nd i).sl.length + 1) c2))) := hid ((HU3.out.mono fun k _ h => .inr h).setCell (p := ⟨a.nb i, 1, none⟩) (fun _ => .inl rfl) _)
        have hz4 : (w3.setCell ⟨a.nb i, 1, none⟩ (.slice (some ⟨b2, 0, none⟩) ((G.nd i).sl.length + 1) c2)).heap.size = w3.heap.size := by simp
        have hR4 : Hid (OwnS (fun k => (a.row G i).ownBlock = some k ∨ wr.heap.size ≤ k ∧ k < w3.heap.size) (w3.setCell ⟨a.nb i, 1, none⟩ (.slice (some ⟨b2, 0, none⟩) ((G.nd i).sl.length + 1) c2)) 103 15 (.slice (some ⟨b2, 0, none⟩) ((G.nd i).sl.length + 1) c2) ((G.nd i).sl.length + 1) (rrow (G.nd i).sl (a.z i) ++ rcells s sl0 rj0)) := hid (by
          refine OwnS.keepT (w := w3) ⟨HW2.out, fun q hq => ?_⟩ fun q cs hq => Below.heap_setCell _ _ _ _ fun e => kn3.out.ne_ hq (by decide) e.symm
          have hlt := (HW2.out.lt q hq).2
          rcases HG2.out with e | e
          · rw [e] at hq; exact .inl hq
          · rw [e] at hq; injection hq with hq; exact .inr ⟨by simp at hq; omega, hlt⟩)
        generalize w3.setCell ⟨a.nb i, 1, none⟩ (.slice (some ⟨b2, 0, none⟩) ((G.nd i).sl.length + 1) c2) = w4 at *
        clear x3 qf3 kn3
        go_quiet (fail)
        go_wp2_with fail
        go_ret
        have hw34 : wr.heap.size ≤ w3.heap.size := HU3.out.size
        have hadd := HH.out.add (S' := fun k => S k ∨ wr.heap.size ≤ k ∧ k < w4.heap.size) hi HG.out hU.out (fun k h => h) (fun k h => .inl h) (fun k hk => by
          rcases hk with hk | hk
          · have := HH.out.lt k hk; omega
          · exact hk.2) hE.out (hR4.out.more' fun k hk => by
          rcases hk with hk | hk
          · exact .inl (own_blk N3.out hk).2
          · exact .inr ⟨hk.1, by omega⟩) fun q hq => by
          rcases HG2.out with e | e
          · rw [e] at hq; exact .inl hq
          · rw [e] at hq; injection hq with hq; exact .inr (by simp at hq; omega)
        rw [hG.out.1, hG.out.2.1, hG.out.2.2]
        refine ⟨b2, (G.nd i).sl.length, rfl, _, _, hadd.below (below_drewN (Below.refl _ _) _), fun k hk => hk.imp id (·.1), (hU.out.mono (M' := S) fun k _ h => ?_).trans (.of_below' (below_drewN (Below.refl _ _) _) (fun _ => False)) fun _ _ h => h.elim, by simp, rfl, by simp⟩
        rcases h with rfl | h
        · exact n2
        · exact (own_blk N3.out h).2
end

end Go.Proofs.Ytbgopicpdpkccaa

namespace Go.Proofs.Ytbgopicpdpkccaa
open Go.RowKit
set_option linter.unusedVariables false
set_option linter.unusedSimpArgs false

section
variable {S : Nat → Prop} {w w' : World} {r : Nat} {An Am : Option Addr} {cn cm : Nat} {G : Gr} {a : Ra}
/-- a cell of a slot is set -/
theorem own_seg {e : TypeId} {size n b c q k f : Nat} {A seg B : List Value} (h : OwnS S w e size (.slice (some ⟨b, 0, none⟩) n c) n (A ++ seg ++ B)) (hA : A.length = q * k) (hf : f < seg.length) (v : Value) : OwnS S (w.setCell ⟨b, q * k + f, none⟩ v) e size (.slice (some ⟨b, 0, none⟩) n c) n (A ++ seg.set f v ++ B) := by
  have h1 := h.set (q * k + f) v
  have e : (A ++ seg ++ B).set (q * k + f) v = A ++ seg.set f v ++ B := by
    rw [List.append_assoc, List.set_append_right _ _ (by omega), hA, Nat.add_sub_cancel_left, List.set_append_left _ _ hf, List.append_assoc]
  rwa [e] at h1
/-- the pointer's row, parted -/
theorem RIn.part (h : RIn S w r An cn Am cm G a) {i : Nat} (hi : i < G.nds.length) {q b : Nat} {s : Int} {x : Sl} (hq : (G.nd i).sl[q]? = some (s, x)) (hb : a.lA i = some ⟨b, 0, none⟩) :
    ∃ A B, OwnS S w 103 15 (.slice (some ⟨b, 0, none⟩) (G.nd i).sl.length (a.lc i)) (G.nd i).sl.length (A ++ rcells s x (a.z i s) ++ B) ∧ A.length = q * 15 ∧ a.row G i = .slice (some ⟨b, 0, none⟩) (G.nd i).sl.length (a.lc i) ∧ ∀ x' z', rrow (setA s x' (G.nd i).sl) (fun t => if t = s then z' else a.z i t) = A ++ rcells s x' z' ++ B := by
  obtain ⟨_, _, n3, ho⟩ := h.nd i hi
  obtain ⟨A, B, h1, h2, h3⟩ := rrow_part (z := a.z i) ho hq
  have hr : a.row G i = .slice (some ⟨b, 0, none⟩) (G.nd i).sl.length (a.lc i) := by unfold Ra.row; rw [hb]
  rw [hr, h1] at n3
  exact ⟨A, B, n3, h2, hr, h3⟩
/-- one slot turned in place; what is beside it may be new -/
theorem RIn.put {i : Nat} {q b : Nat} {s : Int} {x x' : Sl} {z' : Rj} {M : Nat → Prop} {S' : Nat → Prop} (h : RIn S w r An cn Am cm G a) (hi : i < G.nds.length) (hq : (G.nd i).sl[q]? = some (s, x)) (hb : a.lA i = some ⟨b, 0, none⟩)
    (hu : Upd M w w') (hM : ∀ k, M k → k = b ∨ (x.bid.isSome ∧ (a.z i s).blk = some k)) (hS : ∀ k, S k → S' k) (hl : ∀ k, S' k → k < w'.heap.size)
    (hrow : ∀ A B, OwnS S w 103 15 (.slice (some ⟨b, 0, none⟩) (G.nd i).sl.length (a.lc i)) (G.nd i).sl.length (A ++ rcells s x (a.z i s) ++ B) → A.length = q * 15 → OwnS S' w' 103 15 (.slice (some ⟨b, 0, none⟩) (G.nd i).sl.length (a.lc i)) (G.nd i).sl.length (A ++ rcells s x' z' ++ B))
    (hz : RjOk S' w' x' z') (hf : x'.bid.isSome → ∀ k, z'.blk = some k → (x.bid.isSome ∧ (a.z i s).blk = some k) ∨ w.heap.size ≤ k) : RIn S' w' r An cn Am cm (G.setSl i s x') (a.setZ i s z') := by
  obtain ⟨_, _, _, ho⟩ := h.nd i hi
  obtain ⟨A, B, h1, h2, h3, h4⟩ := h.part hi hq hb
  have hx0 : getA s (G.nd i).sl = some x := ho.get (List.mem_of_getElem? hq)
  refine h.slot hi hx0 hu (fun k hk => ?_) hS hl ?_ hz hf
  · rcases hM k hk with rfl | hk
    · exact .inl (by rw [h3]; rfl)
    · exact .inr hk
  · rw [h3, h4]
    exact hrow A B h1 h2
theorem rpropose_far (n s : Int) (t : ByteArray) (h : RAt S w r G) (hn : n < 0 ∨ (G.nds.length : Int) ≤ n) : Calls Try.prog 44 #[.pointer (some ⟨r, 0, none⟩), .int .i64 n, .int .i64 s, .string t] w fun e w' => e = .returned (.int .i64 271) ∧ w' = w := by
  obtain ⟨An, cn, Am, cm, a, q⟩ := h
  have hth0 := there_any n q
  rw [decide_eq_false (by omega)] at hth0
  have hth := hid hth0
  clear q hth0
  go_enter Try.func44, Try.ntmps44
  go_wp2_with fail
  refine hth.out.mono ?_
  rintro e w2 ⟨rfl, rfl⟩
  go_wp2_with fail
  go_ret
  exact ⟨rfl, rfl⟩
set_option maxRecDepth 100000 in
set_option maxHeartbeats 1000000 in
theorem rpropose_down (i : Nat) (s : Int) (t : ByteArray) (h : RAt S w r G) (hi : i < G.nds.length) (hu : (G.nd i).up = false) : Calls Try.prog 44 #[.pointer (some ⟨r, 0, none⟩), .int .i64 i, .int .i64 s, .string t] w fun e w' => e = .returned (.int .i64 271) ∧ Below w.heap.size w w' := by
  obtain ⟨An, cn, Am, cm, a, q⟩ := h
  have hth0 := there_any (i : Int) q
  rw [decide_eq_true (by omega)] at hth0
  have hth := hid hth0
  obtain ⟨n1, _⟩ := q.nd i hi
  have xu : w.cell? ⟨a.nb i, 0, none⟩ = some (.bool false) := by have := n1.cell 0; rwa [hu] at this
  obtain ⟨pb, po, rfl, hpl, p0⟩ := q.ptr hi
  obtain ⟨c0, c1⟩ := q.cells
  have i1 : (i : Int) < (G.nds.length : Int) := by omega
  clear q hth0 n1 hu
  go_enter Try.func44, Try.ntmps44
  go_wp2_with fail
  refine hth.out.mono ?_
  rintro e w2 ⟨rfl, rfl⟩
  go_wp2_with fail
  go_ret
  exact ⟨rfl, Below.refl _ _⟩
set_option maxRecDepth 100000 in
set_option maxHeartbeats 1000000 in
theorem rpropose_low (i : Nat) (s : Int) (t : ByteArray) (h : RAt S w r G) (hi : i < G.nds.length) (hu : (G.nd i).up = true) (hs : s < 0) : Calls Try.prog 44 #[.pointer (some ⟨r, 0, none⟩), .int .i64 i, .int .i64 s, .string t] w fun e w' => e = .returned (.int .i64 270) ∧ Below w.heap.size w w' := by
  obtain ⟨An, cn, Am, cm, a, q⟩ := h
  have hth0 := there_any (i : Int) q
  rw [decide_eq_true (by omega)] at hth0
  have hth := hid hth0
  obtain ⟨n1, _⟩ := q.nd i hi
  have xu : w.cell? ⟨a.nb i, 0, none⟩ = some (.bool true) := by have := n1.cell 0; rwa [hu] at this
  obtain ⟨pb, po, rfl, hpl, p0⟩ := q.ptr hi
  obtain ⟨c0, c1⟩ := q.cells
  have i1 : (i : Int) < (G.nds.length : Int) := by omega
  have t1 : decide (s < 0) = true := decide_eq_true hs
  clear q hth0 n1 hu
  go_enter Try.func44, Try.ntmps44
  go_wp2_with fail
  refine hth.out.mono ?_
  rintro e w2 ⟨rfl, rfl⟩
  go_wp2_with fail
  go_ret
  exact ⟨rfl, Below.refl _ _⟩
set_option maxRecDepth 100000 in
set_option maxHeartbeats 1000000 in
theorem rpropose_high (i : Nat) (s : Int) (t : ByteArray) (h : RAt S w r G) (hi : i < G.nds.length) (hu : (G.nd i).up = true) (hs0 : 0 ≤ s) (hs : 256 ≤ s) : Calls Try.prog 44 #[.pointer (some ⟨r, 0, none⟩), .int .i64 i, .int .i64 s, .string t] w fun e w' => e = .returned (.int .i64 270) ∧ Below w.heap.size w w' := by
  obtain ⟨An, cn, Am, cm, a, q⟩ := h
  have hth0 := there_any (i : Int) q
  rw [decide_eq_true (by omega)] at hth0
  have hth := hid hth0
  obtain ⟨n1, _⟩ := q.nd i hi
  have xu : w.cell? ⟨a.nb i, 0, none⟩ = some (.bool true) := by have := n1.cell 0; rwa [hu] at this
  obtain ⟨pb, po, rfl, hpl, p0⟩ := q.ptr hi
  obtain ⟨c0, c1⟩ := q.cells
  have i1 : (i : Int) < (G.nds.length : Int) := by omega
  have t1 : decide (s < 0) = false := decide_eq_false (by omega)
  have t2 : decide (256 ≤ s) = true := decide_eq_true hs
  clear q hth0 n1 hu
  go_enter Try.func44, Try.ntmps44
  go_wp2_with fail
  refine hth.out.mono ?_
  rintro e w2 ⟨rfl, rfl⟩
  go_wp2_with fail
  go_ret
  exact ⟨rfl, Below.refl _ _⟩
set_option maxRecDepth 100000 in
set_option maxHeartbeats 1000000 in
theorem rpropose_long (i : Nat) (s : Int) (t : ByteArray) (h : RAt S w r G) (hi : i < G.nds.length) (hu : (G.nd i).up = true) (hs : 0 ≤ s ∧ s < 256) (ht : 4096 < t.size) : Calls Try.prog 44 #[.pointer (some ⟨r, 0, none⟩), .int .i64 i, .int .i64 s, .string t] w fun e w' => e = .returned (.int .i64 272) ∧ Below w.heap.size w w' := by
  obtain ⟨An, cn, Am, cm, a, q⟩ := h
  have hth0 := there_any (i : Int) q
  rw [decide_eq_true (by omega)] at hth0
  have hth := hid hth0
  obtain ⟨n1, _⟩ := q.nd i hi
  have xu : w.cell? ⟨a.nb i, 0, none⟩ = some (.bool true) := by have := n1.cell 0; rwa [hu] at this
  obtain ⟨pb, po, rfl, hpl, p0⟩ := q.ptr hi
  obtain ⟨c0, c1⟩ := q.cells
  have i1 : (i : Int) < (G.nds.length : Int) := by omega
  have t1 : decide (s < 0) = false := decide_eq_false (by omega)
  have t2 : decide (256 ≤ s) = false := decide_eq_false (by omega)
  have t3 : decide (4096 < (t.size : Int)) = true := decide_eq_true (by omega)
  clear q hth0 n1 hu hs ht
  go_enter Try.func44, Try.ntmps44
  go_wp2_with fail
  refine hth.out.mono ?_
  rintro e w2 ⟨rfl, rfl⟩
  go_wp2_with fail
  go_ret
  exact ⟨rfl, Below.refl _ _⟩
set_option maxRecDepth 100000 in
set_option maxHeartbeats 1000000 in
theorem rpropose_full (i : Nat) (s : Int) (t : ByteArray) (h : RAt S w r G) (hi : i < G.nds.length) (hu : (G.nd i).up = true) (hs : 0 ≤ s ∧ s < 256) (ht : t.size ≤ 4096) (hf : 4096 < G.mail.length + G.nds.length) (hl : G.mail.length ≤ 1000000 ∧ G.nds.length ≤ 1000) : Calls Try.prog 44 #[.pointer (some ⟨r, 0, none⟩), .int .i64 i, .int .i64 s, .string t] w fun e w' => e = .returned (.int .i64 5) ∧ Below w.heap.size w w' := by
  obtain ⟨An, cn, Am, cm, a, q⟩ := h
  have hth0 := there_any (i : Int) q
  rw [decide_eq_true (by omega)] at hth0
  have hth := hid hth0
  obtain ⟨n1, _⟩ := q.nd i hi
  have xu : w.cell? ⟨a.nb i, 0, none⟩ = some (.bool true) := by have := n1.cell 0; rwa [hu] at this
  obtain ⟨pb, po, rfl, hpl, p0⟩ := q.ptr hi
  obtain ⟨c0, c1⟩ := q.cells
  have i1 : (i : Int) < (G.nds.length : Int) := by omega
  have t1 : decide (s < 0) = false := decide_eq_false (by omega)
  have t2 : decide (256 ≤ s) = false := decide_eq_false (by omega)
  have t3 : decide (4096 < (t.size : Int)) = false := decide_eq_false (by omega)
  have m1 : (G.mail.length : Int) + G.nds.length < 9223372036854775808 := by omega
  have t4 : decide (4096 < (G.mail.length : Int) + G.nds.length) = true := decide_eq_true (by omega)
  clear q hth0 n1 hu hs ht hf hl
  go_enter Try.func44, Try.ntmps44
  go_wp2_with fail
  refine hth.out.mono ?_
  rintro e w2 ⟨rfl, rfl⟩
  go_upto_region 7 with fail
  go_quiet (fail)
  go_wp2_with fail
  go_ret
  exact ⟨rfl, below_drewN (Below.refl _ _) _⟩
set_option maxRecDepth 100000 in
set_option maxHeartbeats 4000000 in
theorem rpropose_ok (i : Nat) (s : Int) (t : ByteArray) (h : RAt S w r G) (hi : i < G.nds.length) (hu : (G.nd i).up = true) (hs : 0 ≤ s ∧ s < 256) (ht : t.size ≤ 4096) (hf : G.mail.length + G.nds.length ≤ 4096) (hl : G.nds.length ≤ 1000) (hsl : (G.nd i).sl.length ≤ 1000) (hr : -9223372036854775808 ≤ (G.at_ i s).rd + 1 ∧ (G.at_ i s).rd + 1 < 9223372036854775808) : Calls Try.prog 44 #[.pointer (some ⟨r, 0, none⟩), .int .i64 i, .int .i64 s, .string t] w fun e w' => e = .returned (.int .i64 0) ∧ RGo S w r (G.bid i s t) w' := by
  obtain ⟨An, cn, Am, cm, a, q⟩ := h
  have hth0 := there_any (i : Int) q
  rw [decide_eq_true (by omega)] at hth0
  have hth := hid hth0
  obtain ⟨n1, _⟩ := q.nd i hi
  have xu : w.cell? ⟨a.nb i, 0, none⟩ = some (.bool true) := by have := n1.cell 0; rwa [hu] at this
  obtain ⟨pb, po, rfl, hpl, p0⟩ := q.ptr hi
  obtain ⟨c0, c1⟩ := q.cells
  have i1 : (i : Int) < (G.nds.length : Int) := by omega
  have t1 : decide (s < 0) = false := decide_eq_false (by omega)
  have t2 : decide (256 ≤ s) = false := decide_eq_false (by omega)
  have t3 : decide (4096 < (t.size : Int)) = false := decide_eq_false (by omega)
  have m1 : (G.mail.length : Int) + G.nds.length < 9223372036854775808 := by omega
  have t4 : decide (4096 < (G.mail.length : Int) + G.nds.length) = false := decide_eq_false (by omega)
  have hsl0 := fun (W' : World) (hb : Below w.heap.size w W') => rslot_any i s (q.below hb) hi hsl
  have hslo := hid hsl0
  have HL := hid hl
  have HSL := q.lt
  have hSlt := hid HSL
  have HR := hid hr
  clear HSL
  have c0' := c0
  have p0' := hid p0
  have c0h := hid c0
  clear q hth0 n1 hu hs ht hf hl hsl hsl0 hr c0'
  go_enter Try.func44, Try.ntmps44
  go_wp2_with fail
  refine hth.out.mono ?_
  rintro e w2 ⟨rfl, rfl⟩
  go_upto_region 7 with fail
  go_quiet (fail)
  have hb3 : Below w2.heap.size w2 (w2.drewN nq) := below_drewN (Below.refl _ _) nq
  have d0 : (w2.drewN nq).cell? ⟨r, 0, none⟩ = some (.slice (some ⟨pb, po, none⟩) G.nds.length cn) := c0h.out
  have d1 : (w2.drewN nq).cell? ⟨pb, po + i, none⟩ = some (.pointer (some ⟨a.nb i, 0, none⟩)) := p0'.out
  generalize w2.drewN nq = w3 at *
  clear xu p0 c0 c1
  go_wp2_with fail
  refine (hslo.out w3 hb3).mono ?_
  rintro e w4 ⟨b, q, rfl, S4, a4, q4, hS4, hu4, hA4, hnb4, hsq⟩
  have hi4 : i < (G.touch i s).nds.length := by rw [Gr.touch_len]; exact hi
  obtain ⟨b', hA', hbl, hSb, hbk, hc⟩ := q4.seg hi4 hsq
  rw [hA4] at hA'
  injection hA' with hA'
  injection hA' with hA'
  subst hA'
  obtain ⟨cs, hbk⟩ := hbk
  have hat : (G.touch i s).at_ i s = G.at_ i s := Gr.at_touch _ _ _ _ _ hi
  rw [hat] at hc hsq
  have s1 : w4.cell? ⟨b, q * 15 + 1, none⟩ = some (.int .i64 (G.at_ i s).rd) := hc 1 (by omega)
  have s9 : w4.cell? ⟨b, q * 15 + 9, none⟩ = some (.bool (G.at_ i s).bid.isSome) := hc 9 (by omega)
  have s10 : w4.cell? ⟨b, q * 15 + 10, none⟩ = some (.bool (a4.z i s).asks) := hc 10 (by omega)
  have s11 : w4.cell? ⟨b, q * 15 + 11, none⟩ = some (.int .i64 (a4.z i s).bal.rd) := hc 11 (by omega)
  have s12 : w4.cell? ⟨b, q * 15 + 12, none⟩ = some (.int .i64 (a4.z i s).bal.nd) := hc 12 (by omega)
  have s13 : w4.cell? ⟨b, q * 15 + 13, none⟩ = some (.string (a4.z i s).own) := hc 13 (by omega)
  have s14 : w4.cell? ⟨b, q * 15 + 14, none⟩ = some (.slice (a4.z i s).A (a4.z i s).n (a4.z i s).c) := hc 14 (by omega)
  have qf := fun j => hbk.frozen j
  have hr1 := HR.out.1
  have hr2 := HR.out.2
  have hw5 : Hid (Upd (fun k => k = b) w4 (((((((w4.setCell ⟨b, q * 15 + 1, none⟩ (.int .i64 ((G.at_ i s).rd + 1))).setCell ⟨b, q * 15 + 9, none⟩ (.bool true)).setCell ⟨b, q * 15 + 10, none⟩ (.bool false)).setCell ⟨b, q * 15 + 11, none⟩ (.int .i64 ((G.at_ i s).rd + 1))).setCell ⟨b, q * 15 + 12, none⟩ (.int .i64 i)).setCell ⟨b, q * 15 + 13, none⟩ (.string t)).setCell ⟨b, q * 15 + 14, none⟩ (.slice none 0 0))) := hid ((((((((Upd.refl (fun k => k = b) w4).setCell (p := ⟨b, q * 15 + 1, none⟩) (fun _ => rfl) _).setCell (p := ⟨b, q * 15 + 9, none⟩) (fun _ => rfl) _).setCell (p := ⟨b, q * 15 + 10, none⟩) (fun _ => rfl) _).setCell (p := ⟨b, q * 15 + 11, none⟩) (fun _ => rfl) _).setCell (p := ⟨b, q * 15 + 12, none⟩) (fun _ => rfl) _).setCell (p := ⟨b, q * 15 + 13, none⟩) (fun _ => rfl) _).setCell (p := ⟨b, q * 15 + 14, none⟩) (fun _ => rfl) _)
  have hz5 : (((((((w4.setCell ⟨b, q * 15 + 1, none⟩ (.int .i64 ((G.at_ i s).rd + 1))).setCell ⟨b, q * 15 + 9, none⟩ (.bool true)).setCell ⟨b, q * 15 + 10, none⟩ (.bool false)).setCell ⟨b, q * 15 + 11, none⟩ (.int .i64 ((G.at_ i s).rd + 1))).setCell ⟨b, q * 15 + 12, none⟩ (.int .i64 i)).setCell ⟨b, q * 15 + 13, none⟩ (.string t)).setCell ⟨b, q * 15 + 14, none⟩ (.slice none 0 0)).heap.size = w4.heap.size := by simp
  have hin : Hid (RIn S4 (((((((w4.setCell ⟨b, q * 15 + 1, none⟩ (.int .i64 ((G.at_ i s).rd + 1))).setCell ⟨b, q * 15 + 9, none⟩ (.bool true)).setCell ⟨b, q * 15 + 10, none⟩ (.bool false)).setCell ⟨b, q * 15 + 11, none⟩ (.int .i64 ((G.at_ i s).rd + 1))).setCell ⟨b, q * 15 + 12, none⟩ (.int .i64 i)).setCell ⟨b, q * 15 + 13, none⟩ (.string t)).setCell ⟨b, q * 15 + 14, none⟩ (.slice none 0 0)) r (some ⟨pb, po, none⟩) cn Am cm ((G.touch i s).setSl i s { G.at_ i s with rd := (G.at_ i s).rd + 1, bid := some ⟨⟨(G.at_ i s).rd + 1, i⟩, t, false, []⟩ }) (a4.setZ i s ⟨false, ⟨(G.at_ i s).rd + 1, i⟩, t, none, 0, 0⟩)) := hid (q4.put hi4 hsq hA4 hw5.out (fun k hk => .inl hk) (fun _ h => h) (fun k hk => by rw [hz5]; exact q4.lt k hk) (fun A B hrow hA => by
    have h1 := own_seg (f := 14) (own_seg (f := 13) (own_seg (f := 12) (own_seg (f := 11) (own_seg (f := 10) (own_seg (f := 9) (own_seg (f := 1) hrow hA (by simp [rcells]) (.int .i64 ((G.at_ i s).rd + 1))) hA (by simp [rcells]) (.bool true)) hA (by simp [rcells]) (.bool false)) hA (by simp [rcells]) (.int .i64 ((G.at_ i s).rd + 1))) hA (by simp [rcells]) (.int .i64 i)) hA (by simp [rcells]) (.string t)) hA (by simp [rcells]) (.slice none 0 0)
    exact h1) (fun d hd => by
      simp only [Option.some.injEq] at hd
      subst hd
      exact ⟨rfl, rfl, rfl, rfl, ⟨World.ownsRow_nil _ _ _ _, fun b hb => by cases hb⟩⟩) (fun _ k hk => by cases hk))
  have hq4 := hid q4
  clear q4 hc hbk hat hsq
  go_wp2_with fail
  refine (rall_any ⟨1, i, 0, s, ⟨(G.at_ i s).rd + 1, i⟩, bal0, ⟨#[]⟩⟩ ⟨_, _, _, _, _, hin.out⟩ (by rw [show ((G.touch i s).setSl i s _).nds.length = (G.touch i s).nds.length from Gr.len_set _ _ _, Gr.touch_len]; exact HL.out)).mono ?_
  rintro e w6 ⟨rfl, S6, h6, hS6, hu6⟩
  have hfin : Hid (RGo S w2 r (G.bid i s t) w6) := hid ⟨S6, h6, fun k hk => by
    rcases hS6 k hk with h | h
    · rcases hS4 k h with h | h
      · exact .inl h
      · exact .inr (Nat.le_trans hb3.size h)
    · have h1 := hu4.size
      have h2 := hb3.size
      rw [hz5] at h
      exact .inr (by omega), by
    refine (((Upd.of_below' hb3 S).trans hu4 fun k _ h => h).trans (hw5.out.mono (M' := S4) fun k _ h => h ▸ hSb) fun k hk h => ?_).trans hu6 fun k hk h => ?_
    · rcases hS4 k h with h | h
      · exact h
      · have := hb3.size; omega
    · rcases hS4 k h with h | h
      · exact h
      · have := hb3.size; omega⟩
  clear h6 hS6 hu6 hin
  go_wp2_with fail
  go_ret
  exact ⟨rfl, hfin.out⟩
theorem rpropose_any (n s : Int) (t : ByteArray) (h : RAt S w r G) (hl : G.mail.length ≤ 1000000 ∧ G.nds.length ≤ 1000) (hsl : ∀ i, (G.nd i).sl.length ≤ 1000) (hr : -9223372036854775808 ≤ (G.at_ n.toNat s).rd + 1 ∧ (G.at_ n.toNat s).rd + 1 < 9223372036854775808) : Calls Try.prog 44 #[.pointer (some ⟨r, 0, none⟩), .int .i64 n, .int .i64 s, .string t] w fun e w' => e = .returned (.int .i64 (G.code n s t)) ∧ RGo S w r (G.propose n s t) w' := by
  unfold Gr.propose Gr.code
  by_cases h1 : 0 ≤ n ∧ n < G.nds.length
  · obtain ⟨i, rfl⟩ := Int.eq_ofNat_of_zero_le h1.1
    have hi : i < G.nds.length := by omega
    rw [Int.toNat_natCast] at hr ⊢
    cases hu : (G.nd i).up with
    | false =>
      rw [if_pos (fun h => by cases h.2.2)]
      rw [if_neg (by decide)]
      exact (rpropose_down i s t h hi hu).mono fun e w' ⟨he, hb⟩ => ⟨he, RGo.of_below h hb⟩
    | true =>
      rw [if_neg (fun hc => hc ⟨h1.1, h1.2, rfl⟩)]
      by_cases h2 : s < 0
      · rw [if_pos (.inl h2), if_neg (by decide)]
        exact (rpropose_low i s t h hi hu h2).mono fun e w' ⟨he, hb⟩ => ⟨he, RGo.of_below h hb⟩
      by_cases h3 : 256 ≤ s
      · rw [if_pos (.inr h3), if_neg (by decide)]
        exact (rpropose_high i s t h hi hu (by omega) h3).mono fun e w' ⟨he, hb⟩ => ⟨he, RGo.of_below h hb⟩
      rw [if_neg (by omega)]
      by_cases h4 : 4096 < t.size
      · rw [if_pos h4, if_neg (by decide)]
        exact (rpropose_long i s t h hi hu (by omega) h4).mono fun e w' ⟨he, hb⟩ => ⟨he, RGo.of_below h hb⟩
      rw [if_neg h4]
      by_cases h5 : 4096 < G.mail.length + G.nds.length
      · rw [if_pos h5, if_neg (by decide)]
        exact (rpropose_full i s t h hi hu (by omega) (by omega) h5 hl).mono fun e w' ⟨he, hb⟩ => ⟨he, RGo.of_below h hb⟩
      · rw [if_neg h5, if_pos rfl]
        exact rpropose_ok i s t h hi hu (by omega) (by omega) (by omega) hl.2 (hsl i) hr
  · rw [if_pos (fun h => h1 ⟨h.1, h.2.1⟩), if_neg (by decide)]
    exact (rpropose_far n s t h (by omega)).mono fun e w' ⟨he, hb⟩ => ⟨he, by subst hb; exact RGo.stay h⟩
end

end Go.Proofs.Ytbgopicpdpkccaa

namespace Go.Proofs.Ytbgopicpdpkccaa
open Go.RowKit
set_option linter.unusedVariables false
set_option linter.unusedSimpArgs false

theorem node_nil (n : Int) (w : World) : Calls Try.prog 35 #[.pointer none, .int .i64 n] w fun e w' => e = .returned (.tuple #[.pointer none, .bool false]) ∧ w' = w := by
  go_enter Try.func35, Try.ntmps35
  go_wp2_with fail
  go_ret2
  exact ⟨rfl, rfl⟩
theorem deliver_nil (n : Int) (w : World) : Calls Try.prog 19 #[.pointer none, .int .i64 n] w fun e w' => e = .returned (.bool false) ∧ w' = w := by
  go_enter Try.func19, Try.ntmps19
  go_wp2_with fail
  go_ret
  exact ⟨rfl, rfl⟩
theorem drop_nil (n : Int) (w : World) : Calls Try.prog 17 #[.pointer none, .int .i64 n] w fun e w' => e = .returned (.bool false) ∧ w' = w := by
  go_enter Try.func17, Try.ntmps17
  go_wp2_with fail
  go_ret
  exact ⟨rfl, rfl⟩
theorem double_nil (n : Int) (w : World) : Calls Try.prog 31 #[.pointer none, .int .i64 n] w fun e w' => e = .returned (.bool false) ∧ w' = w := by
  go_enter Try.func31, Try.ntmps31
  go_wp2_with fail
  go_ret
  exact ⟨rfl, rfl⟩
theorem propose_nil (n s : Int) (t : ByteArray) (w : World) : Calls Try.prog 18 #[.pointer none, .int .i64 n, .int .i64 s, .string t] w fun e w' => e = .returned (.int .i64 0) ∧ w' = w := by
  go_enter Try.func18, Try.ntmps18
  go_wp2_with fail
  go_ret
  exact ⟨rfl, rfl⟩
theorem mail_nil  (w : World) : Calls Try.prog 34 #[.pointer none] w fun e w' => e = .returned (.slice none 0 0) ∧ w' = w := by
  go_enter Try.func34, Try.ntmps34
  go_wp2_with fail
  go_ret
  exact ⟨rfl, rfl⟩
theorem chosen_nil (s : Int) (w : World) : Calls Try.prog 23 #[.pointer none, .int .i64 s] w fun e w' => e = .returned (.tuple #[.string ⟨#[]⟩, .bool false]) ∧ w' = w := by
  go_enter Try.func23, Try.ntmps23
  go_wp2_with fail
  go_ret2
  exact ⟨rfl, rfl⟩
theorem crash_nil (n : Int) (w : World) : Calls Try.prog 32 #[.pointer none, .int .i64 n] w fun e w' => e = .returned (.bool false) ∧ w' = w := by
  go_enter Try.func32, Try.ntmps32
  go_wp2_with (go_at_call 35; refine (node_nil _ _).mono ?_; rintro e w2 ⟨rfl, rfl⟩)
  go_ret
  exact ⟨rfl, rfl⟩
theorem restart_nil (n : Int) (w : World) : Calls Try.prog 33 #[.pointer none, .int .i64 n] w fun e w' => e = .returned (.bool false) ∧ w' = w := by
  go_enter Try.func33, Try.ntmps33
  go_wp2_with (go_at_call 35; refine (node_nil _ _).mono ?_; rintro e w2 ⟨rfl, rfl⟩)
  go_ret
  exact ⟨rfl, rfl⟩
theorem up_nil (n : Int) (w : World) : Calls Try.prog 15 #[.pointer none, .int .i64 n] w fun e w' => e = .returned (.bool false) ∧ w' = w := by
  go_enter Try.func15, Try.ntmps15
  go_wp2_with (go_at_call 35; refine (node_nil _ _).mono ?_; rintro e w2 ⟨rfl, rfl⟩)
  go_ret
  exact ⟨rfl, rfl⟩
theorem catch_nil (n : Int) (w : World) : Calls Try.prog 26 #[.pointer none, .int .i64 n] w fun e w' => e = .returned (.bool false) ∧ Below w.heap.size w w' := by
  go_enter Try.func26, Try.ntmps26
  go_wp2_with (go_at_call 35; refine (node_nil _ _).mono ?_; rintro e w2 ⟨rfl, rfl⟩)
  go_quiet (fail)
  go_wp2_with fail
  go_ret
  exact ⟨rfl, below_drewN (Below.refl _ _) _⟩
set_option maxRecDepth 100000 in
theorem state_nil (n s : Int) (w : World) : Calls Try.prog 36 #[.pointer none, .int .i64 n, .int .i64 s] w fun e w' => e = .returned (.agg #[.int .i64 0, .int .i64 0, .int .i64 0, .int .i64 0, .int .i64 0, .string ⟨#[]⟩, .bool false, .string ⟨#[]⟩, .pointer none]) ∧ Below w.heap.size w w' := by
  go_enter Try.func36, Try.ntmps36
  go_wp2_with (go_at_call 35; refine (node_nil _ _).mono ?_; rintro e w2 ⟨rfl, rfl⟩)
  refine bodyPost_ret (v := (.agg #[.int .i64 0, .int .i64 0, .int .i64 0, .int .i64 0, .int .i64 0, .string ⟨#[]⟩, .bool false, .string ⟨#[]⟩, .pointer none])) (by simp [results, Try.results36, go_sem]) rfl ⟨rfl, ?_⟩
  exact (Below.refl _ _).alloc (Nat.le_refl _) _
set_option maxRecDepth 100000 in
theorem learned_of (o : Option Addr) (x : Sl) (n s : Int) (w : World) (hs0 : ∀ w1, Below w.heap.size w w1 → Calls Try.prog 36 #[.pointer o, .int .i64 n, .int .i64 s] w1 fun e w' => ∃ bp, e = .returned (.agg #[.int .i64 x.rd, .int .i64 x.prom.rd, .int .i64 x.prom.nd, .int .i64 x.accd.bal.rd, .int .i64 x.accd.bal.nd, .string x.accd.text, .bool x.is, .string x.text, .pointer bp]) ∧ Below w1.heap.size w1 w') : Calls Try.prog 20 #[.pointer o, .int .i64 n, .int .i64 s] w fun e w' => e = .returned (.tuple #[.string x.text, .bool x.is]) ∧ Below w.heap.size w w' := by
  have hs := hid hs0
  clear hs0
  go_enter Try.func20, Try.ntmps20
  go_wp2_with fail
  refine (hs.out _ (Below.refl _ _)).mono ?_
  rintro e w1 ⟨bp, rfl, hb10⟩
  have hb1 : Below w.heap.size w w1 := hb10
  go_upto_region 2 with fail
  have hY : Below w1.heap.size w1 (w1.alloc (.cells #[.int .i64 x.rd, .int .i64 x.prom.rd, .int .i64 x.prom.nd, .int .i64 x.accd.bal.rd, .int .i64 x.accd.bal.nd, .string x.accd.text, .bool x.is, .string x.text, .pointer bp] 74)) := (Below.refl _ _).alloc (Nat.le_refl _) _
  have kb := Blk.new w1 74 #[.int .i64 x.rd, .int .i64 x.prom.rd, .int .i64 x.prom.nd, .int .i64 x.accd.bal.rd, .int .i64 x.accd.bal.nd, .string x.accd.text, .bool x.is, .string x.text, .pointer bp]
  generalize w1.alloc (.cells #[.int .i64 x.rd, .int .i64 x.prom.rd, .int .i64 x.prom.nd, .int .i64 x.accd.bal.rd, .int .i64 x.accd.bal.nd, .string x.accd.text, .bool x.is, .string x.text, .pointer bp] 74) = w2 at *
  have s6 : w2.cell? ⟨w1.heap.size, 6, none⟩ = some (.bool x.is) := kb.cell 6
  have s7 : w2.cell? ⟨w1.heap.size, 7, none⟩ = some (.string x.text) := kb.cell 7
  have hB2 := hb1.trans (hY.mono hb1.size)
  clear hb1 hY kb hb10
  go_quiet (fail)
  go_wp2_with fail
  go_ret2
  exact ⟨rfl, below_drewN hB2 _⟩
set_option maxRecDepth 100000 in
theorem promised_of (o : Option Addr) (x : Sl) (n s : Int) (w : World) (hs0 : ∀ w1, Below w.heap.size w w1 → Calls Try.prog 36 #[.pointer o, .int .i64 n, .int .i64 s] w1 fun e w' => ∃ bp, e = .returned (.agg #[.int .i64 x.rd, .int .i64 x.prom.rd, .int .i64 x.prom.nd, .int .i64 x.accd.bal.rd, .int .i64 x.accd.bal.nd, .string x.accd.text, .bool x.is, .string x.text, .pointer bp]) ∧ Below w1.heap.size w1 w') : Calls Try.prog 16 #[.pointer o, .int .i64 n, .int .i64 s] w fun e w' => e = .returned (.agg #[.int .i64 x.prom.rd, .int .i64 x.prom.nd]) ∧ Below w.heap.size w w' := by
  have hfd : ∀ (bp : Option Addr) w', (Instr.field 74 (.agg #[.int .i64 x.rd, .int .i64 x.prom.rd, .int .i64 x.prom.nd, .int .i64 x.accd.bal.rd, .int .i64 x.accd.bal.nd, .string x.accd.text, .bool x.is, .string x.text, .pointer bp]) 1).run Try.prog w' = .ok (.agg #[.int .i64 x.prom.rd, .int .i64 x.prom.nd]) w' := fun _ _ => by kernel_rfl
  have hs := hid hs0
  clear hs0
  go_enter Try.func16, Try.ntmps16
  go_wp2_with fail
  refine (hs.out _ ((Below.refl _ _).alloc (Nat.le_refl _) _)).mono ?_
  rintro e w1 ⟨bp, rfl, hb10⟩
  have hb1 : Below w.heap.size w w1 := ((Below.refl _ _).alloc (Nat.le_refl _) _).trans (hb10.mono (by simp))
  have kb1 : Blk w1 w.heap.size 35 #[.int .i64 0, .int .i64 0] := (Blk.new _ _ _).below_all hb10
  have y0 : w1.cell? ⟨w.heap.size, 0, none⟩ = some (.int .i64 0) := kb1.cell 0
  have y1 : w1.cell? ⟨w.heap.size, 1, none⟩ = some (.int .i64 0) := kb1.cell 1
  have yf := fun j => kb1.frozen j
  have hzz := kb1.lt
  clear hb10
  go_wp2_with fail
  have k2 := (kb1.set_ 0 (.int .i64 x.prom.rd)).set_ 1 (.int .i64 x.prom.nd)
  have z0 := k2.cell 0
  have z1 := k2.cell 1
  simp at z0 z1
  refine bodyPost_ret (v := .agg #[.int .i64 x.prom.rd, .int .i64 x.prom.nd]) (by simp [results, Try.results16, go_sem, z0, z1]) rfl ⟨rfl, ?_⟩
  exact (hb1.setCell (p := ⟨w.heap.size, 0, none⟩) (Nat.le_refl _) _).setCell (p := ⟨w.heap.size, 1, none⟩) (Nat.le_refl _) _
set_option maxRecDepth 100000 in
theorem accepted_of (o : Option Addr) (x : Sl) (n s : Int) (w : World) (hs0 : ∀ w1, Below w.heap.size w w1 → Calls Try.prog 36 #[.pointer o, .int .i64 n, .int .i64 s] w1 fun e w' => ∃ bp, e = .returned (.agg #[.int .i64 x.rd, .int .i64 x.prom.rd, .int .i64 x.prom.nd, .int .i64 x.accd.bal.rd, .int .i64 x.accd.bal.nd, .string x.accd.text, .bool x.is, .string x.text, .pointer bp]) ∧ Below w1.heap.size w1 w') : Calls Try.prog 21 #[.pointer o, .int .i64 n, .int .i64 s] w fun e w' => e = .returned (.tuple #[.agg #[.int .i64 x.accd.bal.rd, .int .i64 x.accd.bal.nd], .string x.accd.text]) ∧ Below w.heap.size w w' := by
  have hs := hid hs0
  clear hs0
  go_enter Try.func21, Try.ntmps21
  go_wp2_with fail
  refine (hs.out _ ((Below.refl _ _).alloc (Nat.le_refl _) _)).mono ?_
  rintro e w1 ⟨bp, rfl, hb10⟩
  have hb1 : Below w.heap.size w w1 := ((Below.refl _ _).alloc (Nat.le_refl _) _).trans (hb10.mono (by simp))
  have kb1 : Blk w1 w.heap.size 35 #[.int .i64 0, .int .i64 0] := (Blk.new _ _ _).below_all hb10
  have y0 : w1.cell? ⟨w.heap.size, 0, none⟩ = some (.int .i64 0) := kb1.cell 0
  have y1 : w1.cell? ⟨w.heap.size, 1, none⟩ = some (.int .i64 0) := kb1.cell 1
  have yf := fun j => kb1.frozen j
  have hzz := kb1.lt
  go_upto_region 2 with fail
  have hY : Below w1.heap.size w1 (w1.alloc (.cells #[.int .i64 x.rd, .int .i64 x.prom.rd, .int .i64 x.prom.nd, .int .i64 x.accd.bal.rd, .int .i64 x.accd.bal.nd, .string x.accd.text, .bool x.is, .string x.text, .pointer bp] 74)) := (Below.refl _ _).alloc (Nat.le_refl _) _
  have kb := Blk.new w1 74 #[.int .i64 x.rd, .int .i64 x.prom.rd, .int .i64 x.prom.nd, .int .i64 x.accd.bal.rd, .int .i64 x.accd.bal.nd, .string x.accd.text, .bool x.is, .string x.text, .pointer bp]
  have kb3 := kb1.below_all hY
  generalize w1.alloc (.cells #[.int .i64 x.rd, .int .i64 x.prom.rd, .int .i64 x.prom.nd, .int .i64 x.accd.bal.rd, .int .i64 x.accd.bal.nd, .string x.accd.text, .bool x.is, .string x.text, .pointer bp] 74) = w2 at *
  clear y0 y1 yf kb1 hb10
  have y0 : w2.cell? ⟨w.heap.size, 0, none⟩ = some (.int .i64 0) := kb3.cell 0
  have y1 : w2.cell? ⟨w.heap.size, 1, none⟩ = some (.int .i64 0) := kb3.cell 1
  have yf := fun j => kb3.frozen j
  have s3 : w2.cell? ⟨w1.heap.size, 3, none⟩ = some (.int .i64 x.accd.bal.rd) := kb.cell 3
  have s4 : w2.cell? ⟨w1.heap.size, 4, none⟩ = some (.int .i64 x.accd.bal.nd) := kb.cell 4
  have s5 : w2.cell? ⟨w1.heap.size, 5, none⟩ = some (.string x.accd.text) := kb.cell 5
  have hB2 := hb1.trans (hY.mono hb1.size)
  have Kb3 := hid kb3; have HB2 := hid hB2
  clear hb1 hY kb kb3 hB2
  go_region
  all_goals
    go_wp2_with fail
    have k2 := (Kb3.out.set_ 0 (.int .i64 x.accd.bal.rd)).set_ 1 (.int .i64 x.accd.bal.nd)
    have z0 := k2.cell 0
    have z1 := k2.cell 1
    simp at z0 z1
    refine bodyPost_ret (v := .tuple #[.agg #[.int .i64 x.accd.bal.rd, .int .i64 x.accd.bal.nd], .string x.accd.text]) (by simp [results, Try.results21, go_sem, z0, z1]) rfl ⟨rfl, ?_⟩
    have hbe : Below w.heap.size w ((w2.setCell ⟨w.heap.size, 0, none⟩ (.int .i64 x.accd.bal.rd)).setCell ⟨w.heap.size, 1, none⟩ (.int .i64 x.accd.bal.nd)) := (HB2.out.setCell (p := ⟨w.heap.size, 0, none⟩) (Nat.le_refl _) _).setCell (p := ⟨w.heap.size, 1, none⟩) (Nat.le_refl _) _
    first | exact hbe | exact hbe.drew | exact below_drewN hbe _
theorem takeWhile_range {p : Nat → Bool} {k n : Nat} (hk : k ≤ n) (h : ∀ j, j < k → p j = true) (hs : k = n ∨ p k = false) : (List.range n).takeWhile p = List.range k := by
  have e : List.range n = List.range k ++ (List.range (n - k)).map (k + ·) := by
    rw [← List.range_add]; congr 1; omega
  rw [e, List.takeWhile_append_of_pos (fun j hj => h j (List.mem_range.1 hj))]
  rcases hs with rfl | hs
  · simp
  · cases hn : n - k with
    | zero => simp
    | succ m => rw [List.range_succ_eq_map]; simp [hs]
/-- what is learned, without a gap -/
def logOf (st : Int → Sl) : List ByteArray := ((List.range 256).takeWhile fun (k : Nat) => (st (k : Int)).is).map fun (k : Nat) => (st (k : Int)).text
theorem info_str : (Try.prog.info? 9).map (fun i => (i.zero, i.size, i.bytes)) = some (some (.string ⟨#[]⟩), 1, 16) := by kernel_rfl
set_option maxRecDepth 100000 in
set_option maxHeartbeats 2000000 in
theorem log_of (o : Option Addr) (st : Int → Sl) (n : Int) (w : World) (hs0 : ∀ s w1, Below w.heap.size w w1 → Calls Try.prog 36 #[.pointer o, .int .i64 n, .int .i64 s] w1 fun e w' => ∃ bp, e = .returned (.agg #[.int .i64 (st s).rd, .int .i64 (st s).prom.rd, .int .i64 (st s).prom.nd, .int .i64 (st s).accd.bal.rd, .int .i64 (st s).accd.bal.nd, .string (st s).accd.text, .bool (st s).is, .string (st s).text, .pointer bp]) ∧ Below w1.heap.size w1 w') : Calls Try.prog 25 #[.pointer o, .int .i64 n] w fun e w' => ∃ v, e = .returned v ∧ Cloned 9 1 ((logOf st).map Value.string) (logOf st).length w v w' := by
  have hs := hid hs0
  clear hs0
  obtain ⟨i0, hi0, hz0, hz1, hz2⟩ := info_parts info_str
  go_enter Try.func25, Try.ntmps25
  go_wp2_with fail
  go_loopw [5, 9] (fun l v wr => ∃ (k : Nat) (A : Option Addr) (c : Nat), v = .int .i64 k ∧ l = .slice A k c ∧ k ≤ 256 ∧ (∀ j : Nat, j < k → (st (j : Int)).is = true) ∧ wr.ownsRow w.heap.size 9 1 (.slice A k c) k ((List.range k).map fun (j : Nat) => .string (st (j : Int)).text) ∧ Below w.heap.size w wr) (fun _ v _ => 256 - (intOf v).toNat)
  case atStart => exact ⟨0, none, 0, rfl, rfl, by omega, fun j hj => by omega, World.ownsRow_nil _ _ _ _, Below.refl _ _⟩
  case round =>
    obtain ⟨k, A, c, rfl, rfl, hk, hall0, hrow0, hB0⟩ := hrel
    have hall := hid hall0; have hrow := hid hrow0; have hB := hid hB0
    clear hall0 hrow0 hB0
    by_cases hlt : k < 256
    · have i1 : (k : Int) < 256 := by omega
      go_wp2_with fail
      refine (learned_of o (st k) n k wr fun w1 hb1 => hs.out k w1 (hB.out.trans (hb1.mono hB.out.size))).mono ?_
      rintro e w1 ⟨rfl, hb10⟩
      have hb1 := hid hb10
      clear hb10
      cases his0 : (st k).is with
      | false =>
        have his := hid his0
        clear his0
        go_wp2_with fail
        go_ret
        have hlog : logOf st = (List.range k).map fun (j : Nat) => (st (j : Int)).text := by
          unfold logOf
          rw [takeWhile_range hk hall.out (.inr his.out)]
        refine ⟨_, rfl, ?_, hB.out.trans (hb1.out.mono hB.out.size)⟩
        rw [hlog]
        have := own_below hrow.out hb1.out
        simpa [Function.comp_def] using this
      | true =>
        have his := hid his0
        clear his0
        have hown1 := hid (own_below hrow.out hb1.out)
        go_wp2_with (
          at_builtin
          refine wpList_append_rd _ rfl (.tmp 21) (.tmp 23) 46 rfl w.heap.size 9 i0 _ 1 16 Try.underlying46 hi0 hz0 hz1 hz2 rfl (by omega) (.slice A k c) k ((List.range k).map fun (j : Nat) => .string (st (j : Int)).text) rfl (hown1.out.alloc _) (fun b => b = w1.heap.size) (some ⟨w1.heap.size, 0, none⟩) 1 1 [.string (st (k : Int)).text] rfl (Rd.new _ _ 1 1 #[.string (st (k : Int)).text] _ rfl rfl) (by simp [Value.oneCell']) (by simp only [maxLen]; omega) (by omega) (by have h1 := hB.out.size; have h2 := hb1.out.size; simp; omega) ?_
          intro v2 w3 hown2 hg2 hat2
          obtain ⟨A2, c2, rfl, hc2, _⟩ := own_form hown2)
        go_roundw
        case rel =>
          refine ⟨k + 1, A2, c2, by go_num, rfl, by omega, fun j hj => ?_, ?_, ?_⟩
          · rcases Nat.lt_succ_iff_lt_or_eq.1 hj with h | rfl
            · exact hall.out j h
            · exact his.out
          · rw [List.range_succ, List.map_append]
            exact hown2
          · have h0 : Below w.heap.size w (w1.alloc (.cells #[.string (st (k : Int)).text] 9)) := (hB.out.trans (hb1.out.mono hB.out.size)).alloc (by have h1 := hB.out.size; have h2 := hb1.out.size; omega) _
            refine h0.grown hg2 (by have h1 := hB.out.size; have h2 := hb1.out.size; simp; omega) fun q hq => ?_
            exact (hown1.out.lt q hq).1
        case measure => simp [intOf]; omega
    · obtain rfl : k = 256 := by omega
      go_wp2_with fail
      go_ret
      have hlog : logOf st = (List.range 256).map fun (j : Nat) => (st (j : Int)).text := by
        unfold logOf
        rw [takeWhile_range (Nat.le_refl _) hall.out (.inl rfl)]
      refine ⟨_, rfl, ?_, hB.out⟩
      rw [hlog]
      have := hrow.out
      simpa [Function.comp_def] using this

end Go.Proofs.Ytbgopicpdpkccaa

