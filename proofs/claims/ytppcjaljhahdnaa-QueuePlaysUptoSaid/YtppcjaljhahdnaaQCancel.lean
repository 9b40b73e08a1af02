/- queue: Clear, Cancel. -/
import Derived.Test.YtppcjaljhahdnaaQActs
namespace Go.Proofs.Ytppcjaljhahdnaa
open Go.RowKit
set_option linter.unusedVariables false
set_option linter.unusedSimpArgs false

theorem MapIs.clear {P : Program} {k : TypeId} {κ : Type} [DecidableEq κ] {E : KeyEnc P k κ} {w : World} {b : Nat} {l : List (κ × Value)} {t e : TypeId} (h : MapIs E w b l) (ht : P.underlying t = some (.map k e)) (ty : TypeId) :
    ∃ w', (Builtin.clear_ #[t] ty #[.map (some b)]).run P w = .ok (.tuple #[]) w' ∧ MapIs E w' b [] ∧ w.grownBy w' (some b) := by
  have hlt := h.lt
  obtain ⟨es, c, h, h2⟩ := h
  refine ⟨_, by simp only [Builtin.clear_, Sem.run_bind, run_underlying ht, Result.andThen_ok, MapKept.run_getObj_map h, MapKept.run_setObj_map _ h, Sem.run_pure, List.getElem?_toArray, List.getElem?_cons_zero]; rfl, ⟨_, _, heap_set_eq w b _ hlt, rfl⟩, grown_set w b _⟩

section
variable {S : Nat → Prop} {w : World} {g : Nat} {mt sh wn : Int} {L : List Pl} {T : Int → List Int}
set_option maxRecDepth 100000 in
theorem clear_any (h : QAt S w g mt sh wn L T) : Calls Try.prog 21 #[.pointer (some ⟨g, 0, none⟩)] w fun e w' => e = .returned (.int .i64 L.length) ∧ QAt S w' g mt sh wn [] T ∧ Upd S w w' := by
  obtain ⟨mo, ms, A, c, rs, of, tk, q, rfl, hT⟩ := h
  obtain ⟨c0, c1, c2, c3, c4, c5⟩ := q.cells
  have hl : (plans rs).length = rs.length := by simp [plans]
  rw [hl]
  have hg := q.blk.lt
  have qf := fun j => q.blk.frozen j
  have hmg : mo ≠ g := q.ofm.ne_blk q.blk
  have hu1 : Upd (fun k => k = mo ∨ k = g) w (w.setCell ⟨g, 3, none⟩ (.slice none 0 0)) := (Upd.refl _ w).setCell (p := ⟨g, 3, none⟩) (fun _ => .inr rfl) _
  obtain ⟨W2, hrun0, hm2, hg2⟩ := (q.ofm.setCell ⟨g, 3, none⟩ (.slice none 0 0) hmg).clear Try.underlying63 0
  have hrun : (Builtin.clear_ #[63] 0 #[.map (some mo)]).run Try.prog (w.setCell ⟨g, 3, none⟩ (.slice none 0 0)) = .ok (.tuple #[]) W2 := hrun0
  have hu2 : Upd (fun k => k = mo ∨ k = g) w W2 := hu1.grown hg2 fun k hk _ => by injection hk with hk; exact .inl hk.symm
  have hb2 : Blk W2 g _ _ := (q.blk.set_ 3 (.slice none 0 0)).grown hg2 (by simpa using hmg.symm)
  obtain ⟨r1, r2, r3⟩ := q.rest hu2 fun k hk => by
    rcases hk with h | h
    · exact .inl h
    · exact .inr (.inl h)
  have hfin : QAt S W2 g mt sh wn [] T ∧ Upd S w W2 := by
    refine ⟨⟨mo, ms, none, 0, [], [], tk, ⟨hb2, hm2, r1, ⟨⟨World.ownsRow_nil _ _ _ _, by simp [Value.ownBlock]⟩, by simp⟩, r3, q.apart, q.inS, q.ne, fun k hk => Nat.lt_of_lt_of_le (q.lt k hk) hu2.size, ⟨by simp [Once], q.once.2⟩, fun c => rfl, q.mt1, q.wn1, by have := q.mt1.1; simp; omega, q.tlen, by simp⟩, rfl, hT⟩, hu2.mono fun k _ h => ?_⟩
    rcases h with rfl | rfl
    · exact q.inS.2.1
    · exact q.inS.1
  have hfin := hid hfin
  clear q hT hrun0 hm2 hg2 hu1 hu2 hb2 r1 r2 r3
  go_enter Try.func21, Try.ntmps21
  go_wp2
  go_ret
  exact ⟨rfl, hfin.out⟩

/-- the plan of a client and token -/
def isP (c t : Int) (p : Pl) : Bool := p.cl == c && p.tok == t
theorem close_any (c t : Int) (b1 b2 : Nat) (r : RP) (w : World) (h1 : w.cell? ⟨b1, 0, none⟩ = some (.int .i64 c)) (h2 : w.cell? ⟨b2, 0, none⟩ = some (.int .u64 t)) :
    Calls Try.prog 37 #[.agg #[.int .i64 r.p.cl, .int .u64 r.p.tok, .string r.p.nm, .slice r.A1 r.p.args.length r.c1, .int .i64 r.p.how, .slice r.A2 r.p.rd.length r.c2, .slice r.A3 r.p.wr.length r.c3], .pointer (some ⟨b1, 0, none⟩), .pointer (some ⟨b2, 0, none⟩)] w
      fun e w' => e = .returned (.bool (isP c t r.p)) ∧ Below w.heap.size w w' := by
  have hb1 := World.block_lt_of_cell? w _ h1
  have hb2 := World.block_lt_of_cell? w _ h2
  simp at hb1 hb2
  by_cases e1 : r.p.cl = c
  · have d1 : (r.p.cl == c) = true := by simpa using e1
    have hv : isP c t r.p = (r.p.tok == t) := by unfold isP; rw [d1]; rfl
    rw [hv]
    clear hv e1
    go_enter Try.func37, Try.ntmps37
    go_wp2_with fail
    go_ret
    exact ⟨rfl, (Below.refl _ _).alloc (Nat.le_refl _) _⟩
  · have d1 : (r.p.cl == c) = false := by simpa using e1
    have hv : isP c t r.p = false := by unfold isP; rw [d1]; rfl
    rw [hv]
    clear hv e1
    go_enter Try.func37, Try.ntmps37
    go_wp2_with fail
    go_ret
    exact ⟨rfl, (Below.refl _ _).alloc (Nat.le_refl _) _⟩
/-- the first place of it; -1: there is none -/
def idxP (c t : Int) : List Pl → Nat → Int
  | [], _ => -1
  | p :: l, i => if isP c t p = true then (i : Int) else idxP c t l (i + 1)
theorem idxP_none {c t : Int} : ∀ {L : List Pl} {i : Nat}, (∀ j (h : j < L.length), isP c t L[j] = false) → idxP c t L i = -1 := by
  intro L
  induction L with
  | nil => intro i _; rfl
  | cons p l ih =>
    intro i h
    have h0 := h 0 (by simp)
    simp only [List.getElem_cons_zero] at h0
    unfold idxP
    rw [h0, if_neg (by simp)]
    exact ih fun j hj => by have := h (j + 1) (by simpa using hj); rwa [List.getElem_cons_succ] at this
theorem idxP_some {c t : Int} : ∀ {L : List Pl} {i m : Nat} (hm : m < L.length), (∀ j (h : j < L.length), j < m → isP c t L[j] = false) → isP c t L[m] = true → idxP c t L i = (i + m : Nat) := by
  intro L
  induction L with
  | nil => intro i m h; simp at h
  | cons p l ih =>
    intro i m hm h e
    cases m with
    | zero =>
      simp only [List.getElem_cons_zero] at e
      unfold idxP
      rw [if_pos e]; rfl
    | succ m =>
      have h0 := h 0 (by simp) (by omega)
      simp only [List.getElem_cons_zero] at h0
      unfold idxP
      rw [h0, if_neg (by simp), ih (m := m) (by simpa using hm) (fun j hj hjm => by have := h (j + 1) (by simpa using hj) (by omega); rwa [List.getElem_cons_succ] at this) (by simpa using e)]
      congr 1; omega
set_option maxRecDepth 100000 in
set_option maxHeartbeats 1000000 in
theorem indexFunc_any (Sp : Nat → Prop) (A : Option Addr) (cc : Nat) (rs : List RP) (c t : Int) (b1 b2 : Nat) (w : World) (ha : PlansOk Sp w A rs) (hl : rs.length ≤ 1000000000) (h1 : w.cell? ⟨b1, 0, none⟩ = some (.int .i64 c)) (h2 : w.cell? ⟨b2, 0, none⟩ = some (.int .u64 t)) :
    Calls Try.prog 36 #[.slice A rs.length cc, .func (.func 37) #[] #[.pointer (some ⟨b1, 0, none⟩), .pointer (some ⟨b2, 0, none⟩)]] w
      fun e w' => e = .returned (.int .i64 (idxP c t (plans rs) 0)) ∧ Below w.heap.size w w' := by
  have hb1 : b1 < w.heap.size := World.block_lt_of_cell? w _ h1
  have hb2 : b2 < w.heap.size := World.block_lt_of_cell? w _ h2
  go_enter Try.func36, Try.ntmps36
  go_wp2_with fail
  go_loopw [8] (fun i wr => ∃ k : Nat, k ≤ rs.length ∧ i = .int .i64 k ∧ Below w.heap.size w wr ∧ ∀ j (h : j < rs.length), j < k → isP c t rs[j].p = false) (fun i _ => rs.length - (intOf i).toNat)
  case atStart => exact ⟨0, Nat.zero_le _, rfl, Below.refl _ _, fun j _ h => absurd h (by omega)⟩
  case round =>
    obtain ⟨k, hk, rfl, hB, hne⟩ := hrel
    have hne := hid hne
    have g1 := (hB.cell (p := ⟨b1, 0, none⟩) hb1).trans h1
    have g2 := (hB.cell (p := ⟨b2, 0, none⟩) hb2).trans h2
    by_cases hlt : k < rs.length
    · obtain ⟨b, o, rfl, _, hbl, r0, a0, a1, a2, a3, a4, a5, a6⟩ := (ha.below hB).at_ hlt
      have i1 : (k : Int) < (rs.length : Int) := by omega
      go_wp2_with fail
      refine (close_any c t b1 b2 rs[k] _ g1 g2).mono ?_
      rintro e w1 ⟨rfl, hb⟩
      have hB1 := hB.trans (hb.mono hB.size)
      cases hP : isP c t rs[k].p with
      | true =>
        go_wp2_with fail
        go_ret
        refine ⟨?_, hB1⟩
        rw [idxP_some (m := k) (by simpa [plans] using hlt) (fun j hj hjk => by simpa [plans] using hne.out j (by simpa [plans] using hj) hjk) (by simpa [plans] using hP), Nat.zero_add]; rfl
      | false =>
        go_wp2_with fail
        go_roundw
        case rel =>
          refine ⟨k + 1, by omega, by go_num, hB1, fun j h hj => ?_⟩
          rcases Nat.lt_or_ge j k with g | g
          · exact hne.out j h g
          · obtain rfl : j = k := by omega
            exact hP
        case measure => simp [intOf]; omega
    · obtain rfl : k = rs.length := by omega
      go_wp2_with fail
      go_ret
      exact ⟨by rw [idxP_none fun j hj => by simpa [plans] using hne.out j (by simpa [plans] using hj) (by simpa [plans] using hj)]; rfl, hB⟩
theorem idxP_range (c t : Int) : ∀ (L : List Pl) (i : Nat), idxP c t L i = -1 ∨ ∃ m, m < L.length ∧ idxP c t L i = (i + m : Nat) := by
  intro L
  induction L with
  | nil => intro i; exact .inl rfl
  | cons p l ih =>
    intro i
    unfold idxP
    split
    · exact .inr ⟨0, by simp, rfl⟩
    · rcases ih (i + 1) with h | ⟨m, hm, h⟩
      · exact .inl h
      · exact .inr ⟨m + 1, by simpa using hm, by rw [h]; congr 1; omega⟩
set_option maxRecDepth 100000 in
set_option maxHeartbeats 1000000 in
theorem cancel_any (c t : Int) (h : QAt S w g mt sh wn L T) : Calls Try.prog 20 #[.pointer (some ⟨g, 0, none⟩), .int .i64 c, .int .u64 t] w
    fun e w' => e = .returned (.bool (decide (0 ≤ idxP c t L 0))) ∧ QAt S w' g mt sh wn (outL L (idxP c t L 0)) T ∧ Upd S w w' := by
  have hmf : ∀ (fn : Fn) (first cap : Array Value) (w : World), (Instr.makeFunc fn first cap).run Try.prog w = .ok (.func fn first cap) w := fun _ _ _ _ => rfl
  have hlen := h.lt
  have hB := below_two (w := w) (.cells #[.int .i64 c] 3) (.cells #[.int .u64 t] 32)
  have h0 := h.below hB
  obtain ⟨mo, ms, A, cc, rs, of, tk, q, rfl, hT⟩ := id h0
  obtain ⟨c0, c1, c2, c3, c4, c5⟩ := q.cells
  have hpo := q.pls.ok'
  have hrl : rs.length ≤ 1000000000 := by have := q.len; have := q.mt1; omega
  have k1 : Blk _ w.heap.size 3 #[.int .i64 c] := (Blk.new w 3 #[.int .i64 c]).alloc (.cells #[.int .u64 t] 32)
  have k2 : Blk ((w.alloc (.cells #[.int .i64 c] 3)).alloc (.cells #[.int .u64 t] 32)) (w.heap.size + 1) 32 #[.int .u64 t] := Blk.new' _ _ _ (by simp)
  have x1 := k1.cell 0
  have x2 := k2.cell 0
  clear q
  go_enter Try.func20, Try.ntmps20
  go_wp2_with fail
  refine (indexFunc_any S A cc rs c t w.heap.size (w.heap.size + 1) _ hpo hrl x1 x2).mono ?_
  rintro e w1 ⟨rfl, hb1⟩
  have h1 := h0.below hb1
  have hB1 := hB.trans (hb1.mono (by simp; omega))
  clear h0 hpo k1 k2 x1 x2 hb1
  rcases idxP_range c t (plans rs) 0 with hi | ⟨m, hm, hi⟩
  · rw [hi]
    go_wp2_with fail
    go_ret
    refine ⟨by rw [hi]; rfl, ?_, .of_below' hB1 _⟩
    unfold outL
    rw [hi, if_neg (by omega)]
    exact h1
  · rw [hi, Nat.zero_add]
    have i1 : (0 : Int) ≤ (m : Int) := by omega
    have hml : (0 : Int) ≤ (m : Int) ∧ (m : Int) < ((plans rs).length : Int) := by omega
    have hml := hid hml
    go_wp2_with fail
    refine (out_any m h1 hm).mono ?_
    rintro e w2 ⟨rfl, h2, hu2⟩
    go_wp2_with fail
    go_ret
    refine ⟨by rw [hi, Nat.zero_add, decide_eq_true i1]; rfl, ?_, (Upd.of_below' hB1 S).trans hu2 fun _ _ h => h⟩
    unfold outL
    rw [hi, Nat.zero_add, if_pos hml.out]
    exact h2
end

end Go.Proofs.Ytppcjaljhahdnaa
