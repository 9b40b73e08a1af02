/- What the queue's laws do with a plan that they were told: spoil, tokens, told. -/
import Derived.Test.YtppcjaljhahdnaaQEqual
namespace Go.Proofs.Ytppcjaljhahdnaa
open Go.RowKit
set_option linter.unusedVariables false
set_option linter.unusedSimpArgs false

/-- a row that can be written, whatever it holds -/
def WrRow (w : World) (e : TypeId) (size : Nat) (v : Value) (n : Nat) : Prop := ∃ ys, w.ownsRow 0 e size v n ys
theorem ownsRow_set_other {w : World} {base : Nat} {e : TypeId} {size n : Nat} {v : Value} {xs : List Value} (h : w.ownsRow base e size v n xs) {p : Addr} (hp : v.ownBlock ≠ some p.block) (u : Value) : (w.setCell p u).ownsRow base e size v n xs := by
  refine ⟨h.1, ?_⟩
  rcases h.2 with h2 | ⟨g, cap, cur, hv, hg, hh, r⟩
  · exact .inl h2
  · refine .inr ⟨g, cap, cur, hv, hg, ?_, r⟩
    rw [Below.heap_setCell w p u g (fun e => hp (by rw [hv, e]; rfl))]
    exact hh
theorem WrRow.set {w : World} {e : TypeId} {size n : Nat} {v : Value} (h : WrRow w e size v n) (b j : Nat) (u : Value) : WrRow (w.setCell ⟨b, j, none⟩ u) e size v n := by
  obtain ⟨ys, h⟩ := h
  by_cases hb : v.ownBlock = some b
  · rcases h.2 with ⟨rfl, _⟩ | ⟨g, cap, cur, rfl, _⟩
    · simp [Value.ownBlock] at hb
    · obtain rfl : g = b := by simpa [Value.ownBlock] using hb
      exact ⟨_, (h.stored j u).1⟩
  · exact ⟨ys, ownsRow_set_other h hb u⟩
/-- the list of arguments of the plan at work: its block, its cells -/
theorem WrRow.at_ {w : World} {e : TypeId} {size n c k : Nat} {A : Option Addr} (h : WrRow w e size (.slice A n c) n) (hk : k < n) : ∃ b, A = some ⟨b, 0, none⟩ ∧ (∀ j, j < size → ∃ v, w.cell? ⟨b, k * size + j, none⟩ = some v) ∧ ∀ j, w.frozen? ⟨b, j, none⟩ = false := by
  obtain ⟨ys, h⟩ := h
  obtain ⟨g, cap, hv, _, _⟩ := h.form (by omega)
  have hA : A = some ⟨g, 0, none⟩ := by injection hv
  have hc : c = cap := by injection hv
  subst hA
  refine ⟨g, rfl, fun j hj => ?_, fun j => h.frozenAt j⟩
  have hlt : k * size + j < n * size := by
    have : (k + 1) * size ≤ n * size := Nat.mul_le_mul_right _ hk
    rw [Nat.succ_mul] at this; omega
  rw [h.cellAt _ hlt]
  exact ⟨_, List.getElem?_eq_getElem (by rw [h.1]; exact hlt)⟩
/-- the blocks of a plan's lists -/
def RP.blks (r : RP) (k : Nat) : Prop := (Value.slice r.A1 r.p.args.length r.c1).ownBlock = some k ∨ (Value.slice r.A2 r.p.rd.length r.c2).ownBlock = some k ∨ (Value.slice r.A3 r.p.wr.length r.c3).ownBlock = some k
structure RP.wr_ (w : World) (r : RP) : Prop where
  args : WrRow w 86 3 (.slice r.A1 r.p.args.length r.c1) r.p.args.length
  rd : WrRow w 9 1 (.slice r.A2 r.p.rd.length r.c2) r.p.rd.length
  wr : WrRow w 9 1 (.slice r.A3 r.p.wr.length r.c3) r.p.wr.length
theorem RP.wr_.set {w : World} {r : RP} (h : r.wr_ w) (b j : Nat) (u : Value) : r.wr_ (w.setCell ⟨b, j, none⟩ u) := ⟨h.args.set b j u, h.rd.set b j u, h.wr.set b j u⟩
theorem RP.own.wr_ {base : Nat} {w : World} {r : RP} (h : r.own base w) : r.wr_ w := ⟨⟨_, own_base (Nat.zero_le _) h.args⟩, ⟨_, own_base (Nat.zero_le _) h.rd⟩, ⟨_, own_base (Nat.zero_le _) h.wr⟩⟩
theorem RP.own.blks {base : Nat} {w : World} {r : RP} (h : r.own base w) {k : Nat} (hk : r.blks k) : base ≤ k ∧ k < w.heap.size := by
  rcases hk with hk | hk | hk
  · exact h.args.lt k hk
  · exact h.rd.lt k hk
  · exact h.wr.lt k hk
structure Sp (W : World) (r : RP) (wr : World) : Prop where
  upd : Upd r.blks W wr
  wrs : r.wr_ wr
theorem Sp.set {W wr : World} {r : RP} (h : Sp W r wr) (b j : Nat) (u : Value) (hb : r.blks b) : Sp W r (wr.setCell ⟨b, j, none⟩ u) := ⟨h.upd.setCell (fun _ => hb) u, h.wrs.set b j u⟩

set_option maxRecDepth 100000 in
set_option maxHeartbeats 2000000 in
theorem spoil_any (base : Nat) (r : RP) (w : World) (h : r.own base w) (hf : r.p.fits) :
    Calls Try.prog 38 #[.agg #[.int .i64 r.p.cl, .int .u64 r.p.tok, .string r.p.nm, .slice r.A1 r.p.args.length r.c1, .int .i64 r.p.how, .slice r.A2 r.p.rd.length r.c2, .slice r.A3 r.p.wr.length r.c3]] w fun e w' => e = .returned (.tuple #[]) ∧ Upd r.blks w w' := by
  have hB : Below w.heap.size w (w.alloc (.cells #[.int .i64 r.p.cl, .int .u64 r.p.tok, .string r.p.nm, .slice r.A1 r.p.args.length r.c1, .int .i64 r.p.how, .slice r.A2 r.p.rd.length r.c2, .slice r.A3 r.p.wr.length r.c3] 40)) := (Below.refl _ _).alloc (Nat.le_refl _) _
  have kb := Blk.new w 40 #[.int .i64 r.p.cl, .int .u64 r.p.tok, .string r.p.nm, .slice r.A1 r.p.args.length r.c1, .int .i64 r.p.how, .slice r.A2 r.p.rd.length r.c2, .slice r.A3 r.p.wr.length r.c3]
  have hnb : ¬ r.blks w.heap.size := fun hk => by have := (h.blks hk).2; omega
  have R : Sp (w.alloc (.cells #[.int .i64 r.p.cl, .int .u64 r.p.tok, .string r.p.nm, .slice r.A1 r.p.args.length r.c1, .int .i64 r.p.how, .slice r.A2 r.p.rd.length r.c2, .slice r.A3 r.p.wr.length r.c3] 40)) r (w.alloc (.cells #[.int .i64 r.p.cl, .int .u64 r.p.tok, .string r.p.nm, .slice r.A1 r.p.args.length r.c1, .int .i64 r.p.how, .slice r.A2 r.p.rd.length r.c2, .slice r.A3 r.p.wr.length r.c3] 40)) := ⟨Upd.refl _ _, (h.below hB).wr_⟩
  have f1 := hf.args
  have f2 := hf.rd
  have f3 := hf.wr
  clear h hf
  go_enter Try.func38, Try.ntmps38
  go_wp2_with fail
  generalize w.alloc (.cells #[.int .i64 r.p.cl, .int .u64 r.p.tok, .string r.p.nm, .slice r.A1 r.p.args.length r.c1, .int .i64 r.p.how, .slice r.A2 r.p.rd.length r.c2, .slice r.A3 r.p.wr.length r.c3] 40) = W at *
  go_loopw [2] (fun v wr => ∃ k : Nat, v = .int .i64 k ∧ k ≤ r.p.args.length ∧ Sp W r wr) (fun v _ => r.p.args.length - (intOf v).toNat)
  case atStart => exact ⟨0, rfl, Nat.zero_le _, R⟩
  case round =>
    obtain ⟨k, rfl, hk, Q1⟩ := hrel
    have x3 : wr.cell? ⟨w.heap.size, 3, none⟩ = some (.slice r.A1 r.p.args.length r.c1) := (kb.upd Q1.upd hnb).cell 3
    by_cases hkl : k < r.p.args.length
    · have k1 : (k : Int) < (r.p.args.length : Int) := by omega
      obtain ⟨b, hA, hc, hz⟩ := Q1.wrs.args.at_ hkl
      have hbS : r.blks b := .inl (by rw [hA]; rfl)
      have hb0 : b ≠ w.heap.size := fun e => hnb (e ▸ hbS)
      rw [hA] at x3
      obtain ⟨v0, y0⟩ := hc 0 (by omega)
      obtain ⟨v1, y1⟩ := hc 1 (by omega)
      obtain ⟨v2, y2⟩ := hc 2 (by omega)
      simp only [Nat.add_zero] at y0
      clear hc hA
      go_wp2_with fail
      go_roundw
      case rel => exact ⟨k + 1, by go_num, by omega, (((Q1.set _ _ _ hbS).set _ _ _ hbS).set _ _ _ hbS)⟩
      case measure => simp [intOf]; omega
    · obtain rfl : k = r.p.args.length := by omega
      obtain ⟨wo, rfl⟩ : ∃ wo : World, wo = wr := ⟨_, rfl⟩
      clear hk
      go_wp2_with fail
      go_loopw [3] (fun v wr => ∃ k : Nat, v = .int .i64 k ∧ k ≤ r.p.rd.length ∧ Sp W r wr) (fun v _ => r.p.rd.length - (intOf v).toNat)
      case atStart => exact ⟨0, rfl, Nat.zero_le _, Q1⟩
      case round =>
        obtain ⟨k, rfl, hk, Q2⟩ := hrel
        have x5 : wr.cell? ⟨w.heap.size, 5, none⟩ = some (.slice r.A2 r.p.rd.length r.c2) := (kb.upd Q2.upd hnb).cell 5
        by_cases hkl : k < r.p.rd.length
        · have k1 : (k : Int) < (r.p.rd.length : Int) := by omega
          obtain ⟨b, hA, hc, hz⟩ := Q2.wrs.rd.at_ hkl
          have hbS : r.blks b := .inr (.inl (by rw [hA]; rfl))
          have hb0 : b ≠ w.heap.size := fun e => hnb (e ▸ hbS)
          rw [hA] at x5
          obtain ⟨v0, y0⟩ := hc 0 (by omega)
          simp only [Nat.add_zero, Nat.mul_one] at y0
          clear hc hA
          go_wp2_with fail
          go_roundw
          case rel => exact ⟨k + 1, by go_num, by omega, (Q2.set _ _ _ hbS)⟩
          case measure => simp [intOf]; omega
        · obtain rfl : k = r.p.rd.length := by omega
          obtain ⟨wo, rfl⟩ : ∃ wo : World, wo = wr := ⟨_, rfl⟩
          clear hk
          go_wp2_with fail
          go_loopw [4] (fun v wr => ∃ k : Nat, v = .int .i64 k ∧ k ≤ r.p.wr.length ∧ Sp W r wr) (fun v _ => r.p.wr.length - (intOf v).toNat)
          case atStart => exact ⟨0, rfl, Nat.zero_le _, Q2⟩
          case round =>
            obtain ⟨k, rfl, hk, Q3⟩ := hrel
            have x6 : wr.cell? ⟨w.heap.size, 6, none⟩ = some (.slice r.A3 r.p.wr.length r.c3) := (kb.upd Q3.upd hnb).cell 6
            by_cases hkl : k < r.p.wr.length
            · have k1 : (k : Int) < (r.p.wr.length : Int) := by omega
              obtain ⟨b, hA, hc, hz⟩ := Q3.wrs.wr.at_ hkl
              have hbS : r.blks b := .inr (.inr (by rw [hA]; rfl))
              have hb0 : b ≠ w.heap.size := fun e => hnb (e ▸ hbS)
              rw [hA] at x6
              obtain ⟨v0, y0⟩ := hc 0 (by omega)
              simp only [Nat.add_zero, Nat.mul_one] at y0
              clear hc hA
              go_wp2_with fail
              go_roundw
              case rel => exact ⟨k + 1, by go_num, by omega, (Q3.set _ _ _ hbS)⟩
              case measure => simp [intOf]; omega
            · obtain rfl : k = r.p.wr.length := by omega
              obtain ⟨wo, rfl⟩ : ∃ wo : World, wo = wr := ⟨_, rfl⟩
              clear hk
              go_wp2_with fail
              go_end0
              exact ⟨rfl, (Upd.of_below' hB _).trans Q3.upd fun _ _ h => h⟩

set_option maxHeartbeats 400000 in
theorem tokens_any (S S' : Nat → Prop) (A B : Option Addr) (l : List Int) (c d : Nat) (w : World) (ha : Rd S w 1 A l.length (l.map (.int .u64))) (hb : Rd S' w 1 B l.length (l.map (.int .u64))) (hl : l.length ≤ 1000000000) :
    Calls Try.prog 48 #[.slice A l.length c, .slice B l.length d] w fun e w' => e = .returned (.bool true) ∧ ∃ k, w' = w.drewN k := by
  go_enter Try.func48, Try.ntmps48
  go_wp2_with fail
  go_loopw [5] (fun i wr => ∃ k q : Nat, k ≤ l.length ∧ i = .int .i64 k ∧ wr = w.drewN q) (fun i _ => l.length - (intOf i).toNat)
  case atStart => exact ⟨0, 0, by omega, rfl, rfl⟩
  case round =>
    obtain ⟨k, q, hk, rfl, rfl⟩ := hrel
    by_cases hlt : k < l.length
    · obtain ⟨b1, o1, rfl, _, hb1, hc1⟩ := ha.at_ hlt
      obtain ⟨b2, o2, rfl, _, hb2, hc2⟩ := hb.at_ hlt
      have e1 := hc1 k (.int .u64 l[k]) (by simp [hlt])
      have e2 := hc2 k (.int .u64 l[k]) (by simp [hlt])
      have i1 : (k : Int) < (l.length : Int) := by omega
      clear hc1 hc2 ha hb
      go_wp2_with fail
      go_quiet (fail)
      go_wp2_with fail
      go_roundw
      case rel => exact ⟨k + 1, _, by omega, by go_num, rfl⟩
      case measure => simp [intOf]; omega
    · obtain rfl : k = l.length := by omega
      go_wp2_with fail
      go_ret
      exact ⟨rfl, q, rfl⟩

end Go.Proofs.Ytppcjaljhahdnaa
