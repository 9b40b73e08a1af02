/- spoil: what a plan's lists hold is overwritten; nothing else. -/
import Derived.Test.YtlnlffpkdeaimaaMerge
namespace Go.Proofs.Ytlnlffpkdeaimaa
open Go.RowKit
set_option linter.unusedVariables false

/-- a row that can be written, whatever it holds -/
def WrRow (w : World) (e : TypeId) (size : Nat) (v : Value) (n : Nat) : Prop := ∃ ys, w.ownsRow 0 e size v n ys
theorem ownsRow_set_other {w : World} {base : Nat} {e : TypeId} {size n : Nat} {v : Value} {xs : List Value} (h : w.ownsRow base e size v n xs) {p : Addr} (hp : v.ownBlock ≠ some p.block) (u : Value) : (w.setCell p u).ownsRow base e size v n xs := by
  refine ⟨h.1, ?_⟩
  rcases h.2 with h2 | ⟨g, cap, cur, hv, hg, hh, r⟩
  · exact .inl h2
  · refine .inr ⟨g, cap, cur, hv, hg, ?_, r⟩
    rw [Below.heap_setCell w p u g (fun e => hp (by rw [hv, e]; rfl))]
    exact hh
theorem WrRow.set {w : World} {e : TypeId} {size n : Nat} {v : Value} (h : WrRow w e size v n) (b j : Nat) (u : Value) : WrRow (w.setCell ⟨b, j, none⟩ u) e size v n := by
  obtain ⟨ys, h⟩ := h
  by_cases hb : v.ownBlock = some b
  · rcases h.2 with ⟨rfl, _⟩ | ⟨g, cap, cur, rfl, _⟩
    · simp [Value.ownBlock] at hb
    · obtain rfl : g = b := by simpa [Value.ownBlock] using hb
      exact ⟨_, (h.stored j u).1⟩
  · exact ⟨ys, ownsRow_set_other h hb u⟩
structure RP.wr_ (w : World) (r : RP) : Prop where
  args : WrRow w 88 3 (.slice r.A1 r.p.args.length r.c1) r.p.args.length
  rd : WrRow w 9 1 (.slice r.A2 r.p.rd.length r.c2) r.p.rd.length
/-- the plans from i on stand as they stood; nothing beyond S is written -/
structure SpoilRel (S : Nat → Prop) (w : World) (A : Option Addr) (c : Nat) (rs : List RP) (i : Nat) (wr : World) : Prop where
  le : i ≤ rs.length
  upd : Upd S w wr
  row : ∃ xs, wr.ownsRow 0 71 7 (.slice A rs.length c) rs.length xs ∧ ∀ j, i * 7 ≤ j → xs[j]? = (pcells rs)[j]?
  rowS : ∀ b, (Value.slice A rs.length c).ownBlock = some b → S b
  wrs : ∀ r ∈ rs, r.wr_ wr
  inS : ∀ r ∈ rs, (∀ b, (Value.slice r.A1 r.p.args.length r.c1).ownBlock = some b → S b) ∧ (∀ b, (Value.slice r.A2 r.p.rd.length r.c2).ownBlock = some b → S b)
theorem SpoilRel.start {S : Nat → Prop} {w : World} {A : Option Addr} {c : Nat} {rs : List RP} (h : PlansS S w A c rs) : SpoilRel S w A c rs 0 w :=
  ⟨Nat.zero_le _, Upd.refl _ _, ⟨_, h.row.1, fun _ _ => rfl⟩, h.row.2, fun r hr => ⟨⟨_, (h.ok r hr).args.1⟩, ⟨_, (h.ok r hr).rd.1⟩⟩, fun r hr => ⟨(h.ok r hr).args.2, (h.ok r hr).rd.2⟩⟩
section
variable {S : Nat → Prop} {w wr : World} {c : Nat} {rs : List RP} {i g : Nat}
theorem SpoilRel.form {A : Option Addr} (h : SpoilRel S w A c rs i wr) (hi : i < rs.length) : ∃ g, A = some ⟨g, 0, none⟩ ∧ S g := by
  obtain ⟨xs, hr, _⟩ := h.row
  obtain ⟨g, cap, hv, _, _⟩ := hr.form (by omega)
  have hA : A = some ⟨g, 0, none⟩ := by injection hv
  subst hA
  exact ⟨g, rfl, h.rowS g rfl⟩
theorem SpoilRel.cell (h : SpoilRel S w (some ⟨g, 0, none⟩) c rs i wr) (hi : i < rs.length) (j : Nat) (hj : j < 7) : wr.cell? ⟨g, i * 7 + j, none⟩ = rs[i].cells[j]? := by
  obtain ⟨xs, hr, hx⟩ := h.row
  rw [hr.cellAt _ (by omega), hx _ (by omega), pcells_at rs i j hi hj]
theorem SpoilRel.some_ (h : SpoilRel S w (some ⟨g, 0, none⟩) c rs i wr) (hi : i < rs.length) (j : Nat) (hj : j < 7) : ∃ v, wr.cell? ⟨g, i * 7 + j, none⟩ = some v := by
  rw [h.cell hi j hj]
  exact ⟨rs[i].cells[j]'(by show j < 7; exact hj), List.getElem?_eq_getElem _⟩
theorem SpoilRel.frozen (h : SpoilRel S w (some ⟨g, 0, none⟩) c rs i wr) (j : Nat) : wr.frozen? ⟨g, j, none⟩ = false := by
  obtain ⟨xs, hr, _⟩ := h.row
  exact hr.frozenAt j
/-- a store into another block of S -/
theorem SpoilRel.set (h : SpoilRel S w (some ⟨g, 0, none⟩) c rs i wr) (b j : Nat) (u : Value) (hb : S b) (hg : g ≠ b) : SpoilRel S w (some ⟨g, 0, none⟩) c rs i (wr.setCell ⟨b, j, none⟩ u) where
  le := h.le
  upd := h.upd.setCell (fun _ => hb) u
  row := by
    obtain ⟨xs, hr, hx⟩ := h.row
    exact ⟨xs, ownsRow_set_other hr (by simpa [Value.ownBlock] using hg) u, hx⟩
  rowS := h.rowS
  wrs := fun r hr => ⟨(h.wrs r hr).args.set b j u, (h.wrs r hr).rd.set b j u⟩
  inS := h.inS
theorem SpoilRel.own (h : SpoilRel S w (some ⟨g, 0, none⟩) c rs i wr) (j : Nat) (u : Value) (hj : j < (i + 1) * 7) (hi : i + 1 ≤ rs.length) : SpoilRel S w (some ⟨g, 0, none⟩) c rs (i + 1) (wr.setCell ⟨g, j, none⟩ u) where
  le := hi
  upd := h.upd.setCell (fun _ => h.rowS g rfl) u
  row := by
    obtain ⟨xs, hr, hx⟩ := h.row
    refine ⟨_, (hr.stored j u).1, fun k hk => ?_⟩
    rw [List.getElem?_set_ne (by omega)]
    exact hx k (by omega)
  rowS := h.rowS
  wrs := fun r hr => ⟨(h.wrs r hr).args.set g j u, (h.wrs r hr).rd.set g j u⟩
  inS := h.inS
theorem SpoilRel.own' (h : SpoilRel S w (some ⟨g, 0, none⟩) c rs (i + 1) wr) (j : Nat) (u : Value) (hj : j < (i + 1) * 7) : SpoilRel S w (some ⟨g, 0, none⟩) c rs (i + 1) (wr.setCell ⟨g, j, none⟩ u) where
  le := h.le
  upd := h.upd.setCell (fun _ => h.rowS g rfl) u
  row := by
    obtain ⟨xs, hr, hx⟩ := h.row
    refine ⟨_, (hr.stored j u).1, fun k hk => ?_⟩
    rw [List.getElem?_set_ne (by omega)]
    exact hx k (by omega)
  rowS := h.rowS
  wrs := fun r hr => ⟨(h.wrs r hr).args.set g j u, (h.wrs r hr).rd.set g j u⟩
  inS := h.inS
/-- the list of arguments of the plan at work: its block, its cells -/
theorem WrRow.at_ {w : World} {e : TypeId} {size n c k : Nat} {A : Option Addr} (h : WrRow w e size (.slice A n c) n) (hk : k < n) : ∃ b, A = some ⟨b, 0, none⟩ ∧ (∀ j, j < size → ∃ v, w.cell? ⟨b, k * size + j, none⟩ = some v) ∧ ∀ j, w.frozen? ⟨b, j, none⟩ = false := by
  obtain ⟨ys, h⟩ := h
  obtain ⟨g, cap, hv, _, _⟩ := h.form (by omega)
  have hA : A = some ⟨g, 0, none⟩ := by injection hv
  have hc : c = cap := by injection hv
  subst hA
  refine ⟨g, rfl, fun j hj => ?_, fun j => h.frozenAt j⟩
  have hlt : k * size + j < n * size := by
    have : (k + 1) * size ≤ n * size := Nat.mul_le_mul_right _ hk
    rw [Nat.succ_mul] at this; omega
  rw [h.cellAt _ hlt]
  exact ⟨_, List.getElem?_eq_getElem (by rw [h.1]; exact hlt)⟩
theorem SpoilRel.ne_ (h : SpoilRel S w (some ⟨g, 0, none⟩) c rs i wr) (hi : i < rs.length) {e : TypeId} {size n c' : Nat} {b : Nat} (hb : WrRow wr e size (.slice (some ⟨b, 0, none⟩) n c') n) (hne : 71 ≠ e) : g ≠ b := by
  obtain ⟨xs, hr, _⟩ := h.row
  obtain ⟨ys, hb⟩ := hb
  rcases own_type_ne hr hb hne with h1 | h1
  · simp [Value.ownBlock] at h1
  · simpa [Value.ownBlock] using h1
end

set_option maxRecDepth 100000 in
set_option maxHeartbeats 2000000 in
theorem spoil_any (S : Nat → Prop) (A : Option Addr) (c : Nat) (rs : List RP) (w : World) (h : PlansS S w A c rs) (hl : rs.length ≤ 1000000000) (hf : ∀ r ∈ rs, r.p.fits) :
    Calls Try.prog 19 #[.slice A rs.length c] w fun e w' => e = .returned (.tuple #[]) ∧ Upd S w w' := by
  have hst := SpoilRel.start h
  clear h
  go_enter Try.func19, Try.ntmps19
  go_wp2_with fail
  go_loopw [2] (fun v wr => ∃ i : Nat, v = .int .i64 i ∧ SpoilRel S w A c rs i wr) (fun v _ => rs.length - (intOf v).toNat)
  case atStart => exact ⟨0, rfl, hst⟩
  case round =>
    obtain ⟨i, rfl, R⟩ := hrel
    have hi := R.le
    by_cases hlt : i < rs.length
    · obtain ⟨g, rfl, hgS⟩ := R.form hlt
      have i1 : (i : Int) < (rs.length : Int) := by omega
      have hfi := hf _ (List.getElem_mem hlt)
      have f1 := hfi.args
      have f2 := hfi.rd
      have hmem : rs[i] ∈ rs := List.getElem_mem hlt
      have hinS := R.inS _ hmem
      obtain ⟨wo, rfl⟩ : ∃ wo : World, wo = wr := ⟨_, rfl⟩
      go_wp2_with fail
      go_loopw [3] (fun v wr => ∃ k : Nat, v = .int .i64 k ∧ k ≤ rs[i].p.args.length ∧ SpoilRel S w (some ⟨g, 0, none⟩) c rs i wr) (fun v _ => rs[i].p.args.length - (intOf v).toNat)
      case atStart => exact ⟨0, rfl, Nat.zero_le _, R⟩
      case round =>
        obtain ⟨k, rfl, hk, R1⟩ := hrel
        have x3 : wr.cell? ⟨g, i * 7 + 3, none⟩ = some (.slice rs[i].A1 rs[i].p.args.length rs[i].c1) := R1.cell hlt 3 (by omega)
        by_cases hkl : k < rs[i].p.args.length
        · have k1 : (k : Int) < (rs[i].p.args.length : Int) := by omega
          obtain ⟨b, hA, hc, hz⟩ := (R1.wrs _ hmem).args.at_ hkl
          have hgb := R1.ne_ hlt (hA ▸ (R1.wrs _ hmem).args) (by decide)
          have hbS : S b := hinS.1 b (by rw [hA]; rfl)
          rw [hA] at x3
          obtain ⟨v0, y0⟩ := hc 0 (by omega)
          obtain ⟨v1, y1⟩ := hc 1 (by omega)
          obtain ⟨v2, y2⟩ := hc 2 (by omega)
          simp only [Nat.add_zero] at y0
          clear hc hA
          go_wp2_with fail
          go_roundw
          case rel => exact ⟨k + 1, by go_num, by omega, ((R1.set _ _ _ hbS hgb).set _ _ _ hbS hgb).set _ _ _ hbS hgb⟩
          case measure => simp [intOf]; omega
        · obtain rfl : k = rs[i].p.args.length := by omega
          obtain ⟨wo1, rfl⟩ : ∃ wo : World, wo = wr := ⟨_, rfl⟩
          go_wp2_with fail
          go_loopw [4] (fun v wr => ∃ k : Nat, v = .int .i64 k ∧ k ≤ rs[i].p.rd.length ∧ SpoilRel S w (some ⟨g, 0, none⟩) c rs i wr) (fun v _ => rs[i].p.rd.length - (intOf v).toNat)
          case atStart => exact ⟨0, rfl, Nat.zero_le _, R1⟩
          case round =>
            obtain ⟨k, rfl, hk2, R2⟩ := hrel
            have x5 : wr.cell? ⟨g, i * 7 + 5, none⟩ = some (.slice rs[i].A2 rs[i].p.rd.length rs[i].c2) := R2.cell hlt 5 (by omega)
            by_cases hkl2 : k < rs[i].p.rd.length
            · have k1 : (k : Int) < (rs[i].p.rd.length : Int) := by omega
              obtain ⟨b, hA, hc, hz⟩ := (R2.wrs _ hmem).rd.at_ hkl2
              have hgb := R2.ne_ hlt (hA ▸ (R2.wrs _ hmem).rd) (by decide)
              have hbS : S b := hinS.2 b (by rw [hA]; rfl)
              rw [hA] at x5
              obtain ⟨v0, y0⟩ := hc 0 (by omega)
              simp only [Nat.add_zero, Nat.mul_one] at y0
              clear hc hA
              go_wp2_with fail
              go_roundw
              case rel => exact ⟨k + 1, by go_num, by omega, R2.set _ _ _ hbS hgb⟩
              case measure => simp [intOf]; omega
            · obtain rfl : k = rs[i].p.rd.length := by omega
              obtain ⟨v0, y0⟩ := R2.some_ hlt 0 (by omega)
              obtain ⟨v1, y1⟩ := R2.some_ hlt 1 (by omega)
              obtain ⟨v2, y2⟩ := R2.some_ hlt 2 (by omega)
              obtain ⟨v3, y3⟩ := R2.some_ hlt 3 (by omega)
              obtain ⟨v4, y4⟩ := R2.some_ hlt 4 (by omega)
              obtain ⟨v5, y5⟩ := R2.some_ hlt 5 (by omega)
              obtain ⟨v6, y6⟩ := R2.some_ hlt 6 (by omega)
              simp only [Nat.add_zero] at y0
              have hz := fun j => R2.frozen j
              have hi1 : i + 1 ≤ rs.length := hlt
              go_wp2_with fail
              go_roundw
              case rel => exact ⟨i + 1, by go_num, ((((((R2.own (i * 7) _ (by omega) hi1).own' (i * 7 + 1) _ (by omega)).own' (i * 7 + 2) _ (by omega)).own' (i * 7 + 3) _ (by omega)).own' (i * 7 + 4) _ (by omega)).own' (i * 7 + 5) _ (by omega)).own' (i * 7 + 6) _ (by omega)⟩
              case measure => simp [intOf]; omega
    · obtain rfl : i = rs.length := by omega
      go_wp2_with fail
      go_end0
      exact ⟨rfl, R.upd⟩

end Go.Proofs.Ytlnlffpkdeaimaa
