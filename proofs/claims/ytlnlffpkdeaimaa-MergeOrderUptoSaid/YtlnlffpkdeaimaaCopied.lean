/- merge.copied: plans in lists of their own. -/
import Derived.Test.YtlnlffpkdeaimaaOwn
namespace Go.Proofs.Ytlnlffpkdeaimaa
open Go.RowKit

theorem pcells_set (l t : List RP) (r r' : RP) (j : Nat) (v : Value) (h : r.cells.set j v = r'.cells) (hj : j < 7) : (pcells (l ++ r :: t)).set (l.length * 7 + j) v = pcells (l ++ r' :: t) := by
  rw [pcells_app, pcells_app, pcells_cons, pcells_cons, List.set_append_right _ _ (by rw [pcells_len]; omega), pcells_len, Nat.add_sub_cancel_left, List.set_append_left _ _ (by show j < r.cells.length; exact hj), h]
theorem pcells_mid (l t : List RP) (r : RP) (j : Nat) (hj : j < 7) : (pcells (l ++ r :: t))[l.length * 7 + j]? = r.cells[j]? := by
  have := pcells_at (l ++ r :: t) l.length j (by simp) hj
  simpa using this
/-- the row of plans at work: l are done, r is at work, t is to come -/
theorem row_cell {w : World} {base g n c : Nat} {l t : List RP} {r : RP} (h : w.ownsRow base 71 7 (.slice (some ⟨g, 0, none⟩) n c) n (pcells (l ++ r :: t))) (hn : n = (l ++ r :: t).length) (j : Nat) (hj : j < 7) : w.cell? ⟨g, l.length * 7 + j, none⟩ = r.cells[j]? := by
  rw [h.cellAt _ (by subst hn; simp; omega), pcells_mid l t r j hj]
theorem row_set {w : World} {base g n c : Nat} {l t : List RP} {r r' : RP} (h : w.ownsRow base 71 7 (.slice (some ⟨g, 0, none⟩) n c) n (pcells (l ++ r :: t))) (j : Nat) (hj : j < 7) (v : Value) (hr : r.cells.set j v = r'.cells) :
    (w.setCell ⟨g, l.length * 7 + j, none⟩ v).ownsRow base 71 7 (.slice (some ⟨g, 0, none⟩) n c) n (pcells (l ++ r' :: t)) := by
  have := (h.stored (l.length * 7 + j) v).1
  rwa [pcells_set l t r r' j v hr hj] at this
/-- a store into a row of plans does not touch lists of other types -/
theorem own_set_ne {w : World} {base base' g n c : Nat} {xs : List Value} (h : w.ownsRow base 71 7 (.slice (some ⟨g, 0, none⟩) n c) n xs) {e : TypeId} {size m : Nat} {v : Value} {ys : List Value} (h' : w.ownsRow base' e size v m ys) (hne : e ≠ 71) (j : Nat) (u : Value) :
    (w.setCell ⟨g, j, none⟩ u).ownsRow base' e size v m ys :=
  h'.kept (h.stored j u).2 (own_type_ne h' h hne)
theorem RP.own.set_ne {w : World} {base base' g n c : Nat} {xs : List Value} {r : RP} (h : w.ownsRow base 71 7 (.slice (some ⟨g, 0, none⟩) n c) n xs) (h' : r.own base' w) (j : Nat) (u : Value) : r.own base' (w.setCell ⟨g, j, none⟩ u) :=
  ⟨own_set_ne h h'.args (by decide) j u, own_set_ne h h'.rd (by decide) j u, own_set_ne h h'.wr (by decide) j u⟩

set_option maxRecDepth 100000 in
set_option maxHeartbeats 1000000 in
theorem copied_any (S : Nat → Prop) (A : Option Addr) (c : Nat) (rs : List RP) (w : World) (ha : PlansOk S w A rs) (hl : rs.length ≤ 1000000000) (hf : ∀ r ∈ rs, r.p.fits) :
    Calls Try.prog 31 #[.slice A rs.length c] w
      fun e w' => ∃ A' c' rs', (plans rs' = plans rs ∧ e = .returned (.slice A' rs'.length c')) ∧ PlansOwn w.heap.size w' A' c' rs' ∧ Below w.heap.size w w' := by
  go_enter Try.func31, Try.ntmps31
  go_wp2_with fail
  refine (cloneP_any S A rs.length c (pcells rs) w ha.row (pcells_one rs) hl).mono ?_
  rintro e w0 ⟨v, rfl, hown0, hb0⟩
  obtain ⟨A', c', rfl, _, _⟩ := own_form hown0
  go_wp2_with fail
  go_loopw [9] (fun i wr => ∃ (k : Nat) (l : List RP), i = .int .i64 k ∧ (k ≤ rs.length ∧ l.length = k ∧ plans l = plans (rs.take k)) ∧ wr.ownsRow w.heap.size 71 7 (.slice A' rs.length c') rs.length (pcells (l ++ rs.drop k)) ∧ (∀ r ∈ l, r.own w.heap.size wr) ∧ Below w.heap.size w wr) (fun i _ => rs.length - (intOf i).toNat)
  case atStart => exact ⟨0, [], rfl, ⟨by omega, rfl, rfl⟩, by simpa using hown0, by simp, hb0⟩
  case round =>
    obtain ⟨k, l, rfl, ⟨hk, hlen, hpl⟩, hrow, hown, hB⟩ := hrel
    have hpl := hid hpl
    by_cases hlt : k < rs.length
    · obtain ⟨g, cap, hv, hg, hgs⟩ := hrow.form (by omega)
      simp only [Value.slice.injEq, true_and] at hv
      obtain ⟨rfl, rfl⟩ := hv
      rw [List.drop_eq_getElem_cons hlt] at hrow
      generalize hr : rs[k] = r at hrow
      have hro := ((ha.ok r (hr ▸ List.getElem_mem hlt)).all).below hB
      have hrf := hf r (hr ▸ List.getElem_mem hlt)
      have l1 := hrf.args
      have l2 := hrf.rd
      have l3 := hrf.wr
      obtain rfl : l.length = k := hlen
      have hnn : ∀ q : RP, rs.length = (l ++ q :: rs.drop (l.length + 1)).length := fun q => by simp; omega
      have x3 : wr.cell? ⟨g, l.length * 7 + 3, none⟩ = some (.slice r.A1 r.p.args.length r.c1) := row_cell hrow (hnn _) 3 (by omega)
      have i1 : (l.length : Int) < (rs.length : Int) := by omega
      have Hr := hid hr
      have Hnn := hid hnn
      clear hr hnn hf ha
      go_wp2_with fail
      refine (cloneV_any _ _ _ _ _ _ hro.args (vcells_one _) l1).mono ?_
      rintro e w1 ⟨v1, rfl, hown1, hb1⟩
      obtain ⟨A1, c1, rfl, _, _⟩ := own_form hown1
      have hrow1 := own_below hrow hb1
      have y3 := row_cell hrow1 (Hnn.out _) 3 (by omega)
      have y5 := row_cell hrow1 (Hnn.out _) 5 (by omega)
      have y6 := row_cell hrow1 (Hnn.out _) 6 (by omega)
      simp only [RP.cells, List.getElem?_cons_succ, List.getElem?_cons_zero] at y3 y5 y6
      have q1 := fun j => hrow1.frozenAt j
      have hrow1' := row_set (r' := { r with A1 := A1, c1 := c1 }) hrow1 3 (by omega) (.slice A1 r.p.args.length c1) rfl
      have hro1 := hro.below hb1
      have hown1' := own_set_ne hrow1 hown1 (by decide) (l.length * 7 + 3) (.slice A1 r.p.args.length c1)
      have hl1 : ∀ q ∈ l, q.own w.heap.size (w1.setCell ⟨g, l.length * 7 + 3, none⟩ (.slice A1 r.p.args.length c1)) := fun q hq => RP.own.set_ne hrow1 ((hown q hq).below hb1) _ _
      have hro1' := hro1.setCell (p := ⟨g, l.length * 7 + 3, none⟩) (by simp; omega) (.slice A1 r.p.args.length c1)
      have hB1 : Below w.heap.size w (w1.setCell ⟨g, l.length * 7 + 3, none⟩ (.slice A1 r.p.args.length c1)) := (hB.trans (hb1.mono hB.size)).setCell (by simpa using hg) _
      have hz1 := hB.size
      have hz2 := hb1.size
      clear hrow hown hro hB x3 hb1 hown1 hrow1 hro1
      go_wp2_with fail
      refine (cloneS_any _ _ _ _ _ _ hro1'.rd (str_one _) l2).mono ?_
      rintro e w2 ⟨v2, rfl, hown2, hb2⟩
      obtain ⟨A2, c2, rfl, _, _⟩ := own_form hown2
      clear y3 y5 y6 q1
      have hrow2 := own_below hrow1' hb2
      have y5 := row_cell hrow2 (Hnn.out _) 5 (by omega)
      have y6 := row_cell hrow2 (Hnn.out _) 6 (by omega)
      simp only [RP.cells, List.getElem?_cons_succ, List.getElem?_cons_zero] at y5 y6
      have q1 := fun j => hrow2.frozenAt j
      have hrow2' := row_set (r' := ({ r with A1 := A1, c1 := c1, A2 := A2, c2 := c2 } : RP)) hrow2 5 (by omega) (.slice A2 r.p.rd.length c2) rfl
      have hro2' := (hro1'.below hb2).setCell (p := ⟨g, l.length * 7 + 5, none⟩) (by simp; omega) (.slice A2 r.p.rd.length c2)
      have hown12 := own_set_ne hrow2 (own_below hown1' hb2) (by decide) (l.length * 7 + 5) (.slice A2 r.p.rd.length c2)
      have hown2' := own_set_ne hrow2 hown2 (by decide) (l.length * 7 + 5) (.slice A2 r.p.rd.length c2)
      have hl2 : ∀ q ∈ l, q.own w.heap.size (w2.setCell ⟨g, l.length * 7 + 5, none⟩ (.slice A2 r.p.rd.length c2)) := fun q hq => RP.own.set_ne hrow2 ((hl1 q hq).below hb2) _ _
      have hB2 : Below w.heap.size w (w2.setCell ⟨g, l.length * 7 + 5, none⟩ (.slice A2 r.p.rd.length c2)) := (hB1.trans (hb2.mono hB1.size)).setCell (by simpa using hg) _
      have hz3 := hb2.size
      simp at hz3
      clear hrow1' hro1' hown1' hl1 hb2 hown2 hrow2
      go_wp2_with fail
      refine (cloneS_any _ _ _ _ _ _ hro2'.wr (str_one _) l3).mono ?_
      rintro e w3 ⟨v3, rfl, hown3, hb3⟩
      obtain ⟨A3, c3, rfl, _, _⟩ := own_form hown3
      clear y5 y6 q1
      have hrow3 := own_below hrow2' hb3
      have y6 := row_cell hrow3 (Hnn.out _) 6 (by omega)
      simp only [RP.cells, List.getElem?_cons_succ, List.getElem?_cons_zero] at y6
      have q1 := fun j => hrow3.frozenAt j
      have hrow3' := row_set (r' := ({ r with A1 := A1, c1 := c1, A2 := A2, c2 := c2, A3 := A3, c3 := c3 } : RP)) hrow3 6 (by omega) (.slice A3 r.p.wr.length c3) rfl
      have hown13 := own_set_ne hrow3 (own_below hown12 hb3) (by decide) (l.length * 7 + 6) (.slice A3 r.p.wr.length c3)
      have hown23 := own_set_ne hrow3 (own_below hown2' hb3) (by decide) (l.length * 7 + 6) (.slice A3 r.p.wr.length c3)
      have hown3' := own_set_ne hrow3 hown3 (by decide) (l.length * 7 + 6) (.slice A3 r.p.wr.length c3)
      have hl3 : ∀ q ∈ l, q.own w.heap.size (w3.setCell ⟨g, l.length * 7 + 6, none⟩ (.slice A3 r.p.wr.length c3)) := fun q hq => RP.own.set_ne hrow3 ((hl2 q hq).below hb3) _ _
      have hB3 : Below w.heap.size w (w3.setCell ⟨g, l.length * 7 + 6, none⟩ (.slice A3 r.p.wr.length c3)) := (hB2.trans (hb3.mono hB2.size)).setCell (by simpa using hg) _
      go_wp2_with fail
      go_roundw
      case rel =>
        refine ⟨l.length + 1, l ++ [({ r with A1 := A1, c1 := c1, A2 := A2, c2 := c2, A3 := A3, c3 := c3 } : RP)], by go_num, ⟨by omega, by simp, ?_⟩, ?_, ?_, hB3⟩
        · rw [List.take_succ_eq_append_getElem hlt]
          have h1 := hpl.out
          simp only [plans, List.map_append, List.map_cons, List.map_nil] at h1 ⊢
          rw [h1, Hr.out]
        · simpa using hrow3'
        · intro x hx
          rcases List.mem_append.1 hx with hx | hx
          · exact hl3 x hx
          · obtain rfl := List.mem_singleton.1 hx
            exact ⟨own_base (by omega) hown13, own_base (by simp; omega) hown23, own_base (by simp; omega) hown3'⟩
      case measure => simp [intOf]; omega
    · obtain rfl : k = rs.length := by omega
      go_wp2_with fail
      go_ret
      refine ⟨A', c', l, ⟨by rw [hpl.out, List.take_length], by rw [hlen]; rfl⟩, ⟨?_, hown⟩, hB⟩
      rw [hlen]
      simpa using hrow

end Go.Proofs.Ytlnlffpkdeaimaa
