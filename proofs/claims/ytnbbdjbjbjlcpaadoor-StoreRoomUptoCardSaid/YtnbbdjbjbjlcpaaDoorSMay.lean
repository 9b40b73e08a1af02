/- store: may. -/
import Derived.Test.YtnbbdjbjbjlcpaaDoorSClaim
import Derived.Test.YtnbbdjbjbjlcpaaDoorKValid
namespace Go.Proofs.YtnbbdjbjbjlcpaaDoor
open Go.RowKit
set_option linter.unusedVariables false
set_option linter.unusedSimpArgs false

def wr0 : Wr := ⟨⟨#[]⟩, false, vl0⟩
def wrCells (ws : List Wr) : List Value := ws.flatMap fun x => [.string x.key, .bool x.gone, .int .i64 x.v.k, .int .i64 x.v.n, .string x.v.s]
theorem wrCells_at : ∀ {L : List Wr} {i : Nat} {x : Wr}, L[i]? = some x → (wrCells L)[i * 5]? = some (.string x.key) ∧ (wrCells L)[i * 5 + 1]? = some (.bool x.gone) ∧ (wrCells L)[i * 5 + 2]? = some (.int .i64 x.v.k) ∧ (wrCells L)[i * 5 + 3]? = some (.int .i64 x.v.n) ∧ (wrCells L)[i * 5 + 4]? = some (.string x.v.s) := by
  intro L
  induction L with
  | nil => intro i x h; simp at h
  | cons y l ih =>
    intro i x h
    have e : wrCells (y :: l) = .string y.key :: .bool y.gone :: .int .i64 y.v.k :: .int .i64 y.v.n :: .string y.v.s :: wrCells l := rfl
    rw [e]
    cases i with
    | zero => simp at h; subst h; exact ⟨rfl, rfl, rfl, rfl, rfl⟩
    | succ i =>
      simp only [List.getElem?_cons_succ] at h
      obtain ⟨h1, h2, h3, h4, h5⟩ := ih h
      rw [show (i + 1) * 5 = i * 5 + 1 + 1 + 1 + 1 + 1 by omega]
      simp only [List.getElem?_cons_succ]
      exact ⟨h1, h2, h3, h4, h5⟩
/-- a row of writes, cell by cell -/
theorem rd_wr {S : Nat → Prop} {w : World} {A : Option Addr} {L : List Wr} (h : Rd S w 5 A L.length (wrCells L)) {i : Nat} (hi : i < L.length) : ∃ b o, A = some ⟨b, o, none⟩ ∧ S b ∧ b < w.heap.size ∧ w.cell? ⟨b, o + i * 5, none⟩ = some (.string (L[i]).key) ∧ w.cell? ⟨b, o + i * 5 + 1, none⟩ = some (.bool (L[i]).gone) ∧ w.cell? ⟨b, o + i * 5 + 2, none⟩ = some (.int .i64 (L[i]).v.k) ∧ w.cell? ⟨b, o + i * 5 + 3, none⟩ = some (.int .i64 (L[i]).v.n) ∧ w.cell? ⟨b, o + i * 5 + 4, none⟩ = some (.string (L[i]).v.s) := by
  obtain ⟨b, o, rfl, hS, hl, hc⟩ := h.at_ hi
  obtain ⟨h1, h2, h3, h4, h5⟩ := wrCells_at (L := L) (i := i) (x := L[i]) (by simp [hi])
  exact ⟨b, o, rfl, hS, hl, hc _ _ h1, by rw [Nat.add_assoc]; exact hc _ _ h2, by rw [Nat.add_assoc]; exact hc _ _ h3, by rw [Nat.add_assoc]; exact hc _ _ h4, by rw [Nat.add_assoc]; exact hc _ _ h5⟩
section
variable {s : St} {ws : List Wr}
theorem wrE_at {k : Nat} {x y : Wr} (hx : ws.getD k wr0 = x) (hy : ws.getD (k - 1) wr0 = y) : wrE s ws k = if validK x.key = false then 30 else if 0 < k ∧ ltB y.key x.key = false then 40 else if hasK x.key s.L = false then 41 else if x.v.ok = false then 20 else if x.gone = true ∧ x.v ≠ vl0 then 2 else 0 := by
  unfold wr0 at hx hy
  unfold wrE
  simp only [hx, hy]
theorem scan_first {f : Nat → Int} {e : Int} (he : e ≠ 0) : ∀ {n i k : Nat}, (∀ j, i ≤ j → j < k → f j = 0) → f k = e → i ≤ k → k < i + n → (scan f n i).1 = e := by
  intro n
  induction n with
  | zero => intro i k _ _ h1 h2; omega
  | succ n ih =>
    intro i k h1 h2 h3 h4
    unfold scan
    by_cases e2 : i = k
    · subst e2
      rw [if_neg (by rw [h2]; exact he)]; exact h2
    · rw [if_pos (h1 i (Nat.le_refl _) (by omega))]
      exact ih (fun j hj => h1 j (by omega)) h2 (by omega) (by omega)
theorem applyE_first {e : Int} (he : e ≠ 0) {k : Nat} (h1 : ∀ j, j < k → wrE s ws j = 0) (h2 : wrE s ws k = e) (hk : k < ws.length) : applyE s ws = e := scan_first he (fun j _ h => h1 j h) h2 (Nat.zero_le _) (by omega)
theorem applyE_zero (h1 : ∀ j, j < ws.length → wrE s ws j = 0) : applyE s ws = 0 := (scan_zero _ _ _).2 fun j _ h => h1 j (by omega)
end
section
variable {S : Nat → Prop} {w w' : World} {g : Nat} {s : St}
set_option maxRecDepth 100000 in
set_option maxHeartbeats 4000000 in
theorem may_any {Sk : Nat → Prop} {A : Option Addr} {c : Nat} (ws : List Wr) (h : PAt S w g s) (hr : Rd Sk w 5 A ws.length (wrCells ws)) (hs : ∀ x ∈ ws, x.key.size ≤ 9223372036854775806 ∧ x.v.s.size ≤ 9223372036854775806) (hn : ws.length ≤ 1000000) :
    Calls Tryd.prog 34 #[.pointer (some ⟨g, 0, none⟩), .slice A ws.length c] w fun e w' => e = .returned (.int .i64 (applyE s ws)) ∧ Below w.heap.size w w' := by
  have HH := hid h
  have HR := hid hr
  have HS := hid hs
  have hgd := guardVal
  have hN : (ws.length : Int) ≤ 1000000 := by omega
  clear h hr hs hn
  go_enter Tryd.func34, Tryd.ntmps34
  go_wp2_with fail
  go_loopw [9] (fun v wr => ∃ (k : Nat), v = .int .i64 k ∧ k ≤ ws.length ∧ Below w.heap.size w wr ∧ ∀ j, j < k → wrE s ws j = 0) (fun v _ => ws.length - (intOf v).toNat)
  case atStart => exact ⟨0, rfl, Nat.zero_le _, Below.refl _ _, fun j h => by omega⟩
  case round =>
    obtain ⟨k, rfl, hk, hB0, ha0⟩ := hrel
    have hB := hid hB0
    have ha := hid ha0
    clear hB0 ha0
    by_cases hlt : k < ws.length
    · have i1 : (k : Int) < (ws.length : Int) := by omega
      obtain ⟨b, o, rfl, _, hbl, c0, c1, c2, c3, c4⟩ := rd_wr (HR.out.below_all hB.out) hlt
      obtain ⟨hks, hvs⟩ := HS.out _ (List.getElem_mem hlt)
      obtain ⟨x, hx⟩ : ∃ x, x = ws[k] := ⟨_, rfl⟩
      rw [← hx] at c0 c1 c2 c3 c4 hks hvs
      obtain ⟨y, hy⟩ : ∃ y, ws.getD (k - 1) wr0 = y := ⟨_, rfl⟩
      have hxe : Hid (ws.getD k wr0 = x) := hid (by rw [hx]; simp [List.getD_eq_getElem?_getD, hlt])
      have hye := hid hy
      have hE := hid (wrE_at (s := s) hxe.out hy)
      clear hx hy
      go_upto_region 4 with fail
      have kB0 := Blk.new wr 62 #[.string x.key, .bool x.gone, .int .i64 x.v.k, .int .i64 x.v.n, .string x.v.s]
      have hB2 : Below wr.heap.size wr (wr.alloc (.cells #[.string x.key, .bool x.gone, .int .i64 x.v.k, .int .i64 x.v.n, .string x.v.s] 62)) := (Below.refl _ _).alloc (Nat.le_refl _) _
      have HB2 := hid (hB.out.trans (hB2.mono hB.out.size))
      generalize wr.alloc (.cells #[.string x.key, .bool x.gone, .int .i64 x.v.k, .int .i64 x.v.n, .string x.v.s] 62) = w2 at *
      have KB := hid kB0
      have Bc := hid hbl
      generalize wr.heap.size = m at *
      clear kB0 hB2 c0 c1 c2 c3 c4 hbl hB
      have x0 : w2.cell? ⟨m, 0, none⟩ = some (.string x.key) := KB.out.cell 0
      have hvk := hid (validk_any x.key w2 hks)
      go_wp2_with fail
      refine hvk.out.mono ?_
      rintro e w3 ⟨rfl, rfl⟩
      clear hvk
      cases hv0 : validK x.key with
      | false =>
        have hfin : Hid (applyE s ws = 30) := hid (applyE_first (by decide) (fun j hj => ha.out j hj) (by rw [hE.out, if_pos hv0]) hlt)
        clear hv0 hE
        go_wp2_with fail
        go_ret
        exact ⟨by rw [hfin.out]; rfl, HB2.out⟩
      | true =>
      have hv := hid hv0
      clear hv0
      have x0 : w3.cell? ⟨m, 0, none⟩ = some (.string x.key) := KB.out.cell 0
      go_upto_region 6 with fail
      by_cases hbad : 0 < k ∧ ltB y.key x.key = false
      · obtain ⟨hk0, hl0⟩ := hbad
        have hfin : Hid (applyE s ws = 40) := hid (applyE_first (by decide) (fun j hj => ha.out j hj) (by rw [hE.out, if_neg (by simp [hv.out]), if_pos ⟨hk0, hl0⟩]) hlt)
        obtain ⟨j, hjk⟩ : ∃ j, j + 1 = k := ⟨k - 1, by omega⟩
        have hj : j < ws.length := by omega
        obtain ⟨b', o', e, _, _, d0, _⟩ := rd_wr (HR.out.below_all HB2.out) hj
        injection e with e; injection e with e1 e2; subst e1; subst e2
        have hyj : ws[j] = y := by
          have := hye.out
          rw [show k - 1 = j by omega] at this
          rw [← this]; simp [List.getD_eq_getElem?_getD, hj]
        rw [hyj] at d0
        have i0 : (j : Int) < (ws.length : Int) := by omega
        have t1 : decide ((0 : Int) < (k : Int)) = true := decide_eq_true (by omega)
        have t1n : decide (0 < k) = true := decide_eq_true hk0
        have x1 : IntKind.i64.wrap ((k : Int) - 1) = (j : Int) := by rw [IntKind.wrap_i64]; omega
        have hl : Op.bytesLess y.key.toList x.key.toList = false := hl0
        clear hl0 hk0 hjk hyj hE
        go_quiet (fail)
        go_wp2_with fail
        go_ret
        exact ⟨by rw [hfin.out]; rfl, below_drewN HB2.out _⟩
      have hnr := hid hbad
      clear hbad
      go_cut [19] (fun v wx => v = .bool false ∧ ∃ q, wx = w3.drewN q)
      case first =>
        by_cases hk0 : 0 < k
        · obtain ⟨j, hjk⟩ : ∃ j, j + 1 = k := ⟨k - 1, by omega⟩
          have hj : j < ws.length := by omega
          obtain ⟨b', o', e, _, _, d0, _⟩ := rd_wr (HR.out.below_all HB2.out) hj
          injection e with e; injection e with e1 e2; subst e1; subst e2
          have hyj : ws[j] = y := by
            have := hye.out
            rw [show k - 1 = j by omega] at this
            rw [← this]; simp [List.getD_eq_getElem?_getD, hj]
          rw [hyj] at d0
          have i0 : (j : Int) < (ws.length : Int) := by omega
          have t1 : decide ((0 : Int) < (k : Int)) = true := decide_eq_true (by omega)
          have t1n : decide (0 < k) = true := decide_eq_true hk0
          have x1 : IntKind.i64.wrap ((k : Int) - 1) = (j : Int) := by rw [IntKind.wrap_i64]; omega
          have hl : Op.bytesLess y.key.toList x.key.toList = true := by
            have := hnr.out
            cases h : ltB y.key x.key with
            | true => exact h
            | false => exact absurd ⟨hk0, h⟩ this
          clear hk0 hjk hyj hE hnr
          go_quiet (fail)
          go_wp2_with fail
          go_meet
          exact ⟨rfl, _, rfl⟩
        · have t1 : decide ((0 : Int) < (k : Int)) = false := decide_eq_false (by omega)
          have t1n : decide (0 < k) = false := decide_eq_false hk0
          clear hk0 hE hnr
          go_quiet (fail)
          go_wp2_with fail
          go_meet
          exact ⟨rfl, _, rfl⟩
      case rest =>
        obtain ⟨rfl, q, hq⟩ := hcut
        have KB3 : Hid (Blk wc m 62 #[.string x.key, .bool x.gone, .int .i64 x.v.k, .int .i64 x.v.n, .string x.v.s]) := hid (by rw [hq]; exact KB.out)
        have HB3 : Hid (Below w.heap.size w wc) := hid (by rw [hq]; exact below_drewN HB2.out q)
        clear hq x0 KB HB2
        have x0 : wc.cell? ⟨m, 0, none⟩ = some (.string x.key) := KB3.out.cell 0
        have hcl := hid (claimed_b x.key (HH.out.below HB3.out) hks)
        go_wp2_with fail
        refine hcl.out.mono ?_
        rintro e w4 ⟨rfl, hb40⟩
        have KB4 := hid (KB3.out.below_all hb40)
        have HB4 := hid (HB3.out.trans (hb40.mono HB3.out.size))
        clear hb40 hcl x0 KB3 HB3
        cases hc0 : hasK x.key s.L with
        | false =>
          have hfin : Hid (applyE s ws = 41) := hid (applyE_first (by decide) (fun j hj => ha.out j hj) (by rw [hE.out, if_neg (by simp [hv.out]), if_neg hnr.out, if_pos hc0]) hlt)
          clear hE hc0
          go_wp2_with fail
          go_ret
          exact ⟨by rw [hfin.out]; rfl, HB4.out⟩
        | true =>
        have hc := hid hc0
        clear hc0
        have x2 : w4.cell? ⟨m, 2, none⟩ = some (.int .i64 x.v.k) := KB4.out.cell 2
        have x3 : w4.cell? ⟨m, 3, none⟩ = some (.int .i64 x.v.n) := KB4.out.cell 3
        have x4 : w4.cell? ⟨m, 4, none⟩ = some (.string x.v.s) := KB4.out.cell 4
        have hva := hid (valid_any x.v w4 hvs)
        go_wp2_with fail
        refine hva.out.mono ?_
        rintro e w5 ⟨rfl, hb50⟩
        have KB5 := hid (KB4.out.below_all hb50)
        have HB5 := hid (HB4.out.trans (hb50.mono HB4.out.size))
        clear hb50 hva x2 x3 x4 KB4 HB4
        cases ho0 : x.v.ok with
        | false =>
          have hfin : Hid (applyE s ws = 20) := hid (applyE_first (by decide) (fun j hj => ha.out j hj) (by rw [hE.out, if_neg (by simp [hv.out]), if_neg hnr.out, if_neg (by simp [hc.out]), if_pos ho0]) hlt)
          clear hE ho0
          go_wp2_with fail
          go_ret
          exact ⟨by rw [hfin.out]; rfl, HB5.out⟩
        | true =>
        have ho := hid ho0
        clear ho0
        have x1 : w5.cell? ⟨m, 1, none⟩ = some (.bool x.gone) := KB5.out.cell 1
        have x2 : w5.cell? ⟨m, 2, none⟩ = some (.int .i64 x.v.k) := KB5.out.cell 2
        have x3 : w5.cell? ⟨m, 3, none⟩ = some (.int .i64 x.v.n) := KB5.out.cell 3
        have x4 : w5.cell? ⟨m, 4, none⟩ = some (.string x.v.s) := KB5.out.cell 4
        have hnz0 : ∀ w', (binOp .neq 50 (.agg #[.int .i64 x.v.k, .int .i64 x.v.n, .string x.v.s]) (.agg #[.int .i64 0, .int .i64 0, .string ⟨#[]⟩])).run Tryd.prog w' = .ok (.bool (!decide (x.v = vl0))) w' := fun w' => by
          rw [run_neq_struct, show (⟨#[]⟩ : ByteArray) = vl0.s from rfl, show (Value.int .i64 0) = .int .i64 vl0.k from rfl]
          have := run_eqVal x.v vl0 w'
          rw [show (.int .i64 vl0.k : Value) = .int .i64 vl0.n from rfl] at this ⊢
          rw [this]; rfl
        cases hg0 : x.gone with
        | false =>
          have hz : Hid (wrE s ws k = 0) := hid (by rw [hE.out, if_neg (by simp [hv.out]), if_neg hnr.out, if_neg (by simp [hc.out]), if_neg (by simp [ho.out]), if_neg (by simp [hg0])])
          rw [hg0] at x1
          clear hE hnz0 hg0
          go_wp2_with fail
          go_roundw
          case rel => exact ⟨k + 1, by go_num, hlt, HB5.out, fun j hj => by
            by_cases e : j = k
            · subst e; exact hz.out
            · exact ha.out j (by omega)⟩
          case measure => simp [intOf]; omega
        | true =>
          rw [hg0] at x1
          cases hz0 : decide (x.v = vl0) with
          | true =>
            have hz : Hid (wrE s ws k = 0) := hid (by rw [hE.out, if_neg (by simp [hv.out]), if_neg hnr.out, if_neg (by simp [hc.out]), if_neg (by simp [ho.out]), if_neg (by simp [of_decide_eq_true hz0])])
            have hnz := hnz0
            rw [hz0] at hnz
            clear hE hnz0 hg0 hz0
            go_wp2_with fail
            go_roundw
            case rel => exact ⟨k + 1, by go_num, hlt, HB5.out, fun j hj => by
              by_cases e : j = k
              · subst e; exact hz.out
              · exact ha.out j (by omega)⟩
            case measure => simp [intOf]; omega
          | false =>
            have hfin : Hid (applyE s ws = 2) := hid (applyE_first (by decide) (fun j hj => ha.out j hj) (by rw [hE.out, if_neg (by simp [hv.out]), if_neg hnr.out, if_neg (by simp [hc.out]), if_neg (by simp [ho.out]), if_pos ⟨hg0, of_decide_eq_false hz0⟩]) hlt)
            have hnz := hnz0
            rw [hz0] at hnz
            clear hE hnz0 hg0 hz0
            go_wp2_with fail
            go_ret
            exact ⟨by rw [hfin.out]; rfl, HB5.out⟩
    · obtain rfl : k = ws.length := by omega
      have hfin : Hid (applyE s ws = 0) := hid (applyE_zero fun j hj => ha.out j hj)
      go_wp2_with fail
      go_ret
      exact ⟨by rw [hfin.out]; rfl, hB.out⟩
end
end Go.Proofs.YtnbbdjbjbjlcpaaDoor
