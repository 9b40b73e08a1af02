/- Texts of the proof, joined: GPlays, GLift, GOpen, LawOf. -/
import Derived.Test.YtbgopicpdpkccaaJ28
import Derived.Test.YtbgopicpdpkccaaJ21
import Derived.Deep.Slices
import Derived.Lib.SmallJoins
import Derived.Test.YtbgopicpdpkccaaJ01
import Derived.ProofKit
import Derived.OpenShut
import Derived.JoinedCond
namespace Go.Proofs.Ytbgopicpdpkccaa
open Go.RowKit
set_option linter.unusedVariables false
set_option linter.unusedSimpArgs false

set_option maxRecDepth 100000 in
set_option maxHeartbeats 8000000 in
theorem plays_walk (n : Int) (A : Option Addr) (c : Nat) (us : List GA) (W : World) (ho : GActs W A us) (hl : us.length ≤ 1048576) (ht : txts us ≤ 1048576) : Calls Try.prog 8 #[.int .i64 n, .slice A us.length c] W fun e w' => e = .returned (.bool true) ∧ Below W.heap.size W w' := by
  have hlg := hid (long_any A c us W ho hl ht)
  have hll : Hid (us.length ≤ 1048576) := hid hl
  clear hl ht
  go_enter Try.func8, Try.ntmps8
  go_wp2_with fail
  refine hlg.out.mono ?_
  rintro e w1 ⟨⟨b, rfl, hb0⟩, rfl⟩
  have hb := hid hb0
  clear hb0
  cases b with
  | true =>
    go_wp2_with fail
    go_ret
    exact ⟨rfl, Below.refl _ _⟩
  | false =>
  by_cases hn : n < 1 ∨ 9 < n
  · have hnew := hid (new_bad n w1 hn)
    have hrnew := hid (rnew_bad n w1 hn)
    clear hn
    go_wp2_with fail
    refine hnew.out.mono ?_
    rintro e w2 ⟨rfl, h2⟩
    obtain rfl := h2
    go_wp2_with fail
    refine hrnew.out.mono ?_
    rintro e w3 ⟨rfl, h3⟩
    obtain rfl := h3
    go_wp2_with (first
      | (go_at_call 10; refine (num_any _ _).mono ?_; rintro e w' ⟨rfl, rfl⟩)
      | (go_at_call 11; refine (live_any _).mono ?_; rintro e w9 ⟨rfl, hb9⟩))
    go_ret
    exact ⟨rfl, hb9⟩
  obtain ⟨N, rfl⟩ : ∃ N : Nat, n = (N : Int) := ⟨n.toNat, by omega⟩
  have hN : 1 ≤ N ∧ N ≤ 9 := by omega
  have hN9 : Hid (N ≤ 9) := hid hN.2
  have hnew := hid (new_ok N w1 hN)
  have hrnew := hid (fun w' => rnew_ok N w' hN)
  clear hn hN
  go_wp2_with fail
  refine hnew.out.mono ?_
  rintro e w2 ⟨S, rfl, hG0, hS0, hB20⟩
  have hz12 : Hid (w1.heap.size < w2.heap.size) := hid (hG0.lt.1 _ hG0.lt.2)
  go_wp2_with fail
  refine (hrnew.out w2).mono ?_
  rintro e w3 ⟨S', rfl, hR0, hS0', hB30⟩
  have P3 : Hid (Duo w1.heap.size w1.heap.size w2.heap.size S S' (grN N) (grN N) w3) := hid ⟨hG0.below hB30, hR0, hS0, fun k hk => by have := hS0' k hk; have := hz12.out; omega, fun k h1 h2 => by have := hG0.lt.1 k h1; have := hS0' k h2; omega⟩
  have hB3 := hid (hB20.trans (hB30.mono hB20.size))
  clear hG0 hS0 hB20 hR0 hS0' hB30 hnew hrnew hlg
  go_wp2_with (go_at_call 10; refine (num_any _ _).mono ?_; rintro e w' ⟨rfl, hw'⟩; obtain rfl := hw'.symm)
  have HO := hid ho
  clear ho
  go_loopw [9] (fun v wr => ∃ (k : Nat) (Sg Sr : Nat → Prop) (G : Gr), v = .int .i64 k ∧ k ≤ us.length ∧ Duo w1.heap.size w1.heap.size w2.heap.size Sg Sr G G wr ∧ Inv N k G ∧ Below w1.heap.size w1 wr) (fun v _ => us.length - (intOf v).toNat)
  case atStart => exact ⟨0, S, S', grN N, rfl, Nat.zero_le _, P3.out, Inv.new N, hB3.out⟩
  case round =>
    clear P3 hB3
    obtain ⟨k, Sg, Sr, G, rfl, hk, P0, hi0, hB0⟩ := hrel
    have hB := hid hB0
    have HI := hid hi0
    have hb6 : Hid (us.length ≤ 600) := hid (hb.out (by first | rfl | trivial))
    by_cases hlt : k < us.length
    · have i1 : (k : Int) < (us.length : Int) := by omega
      have hoa := HO.out.below (w' := wr) hB.out
      obtain ⟨b, o, rfl, hbl, a0, a1, a2, a3⟩ := hoa.at_ hlt
      have hdo := hid (does_any us[k] P0 (by have := hB0.size; omega) hi0 hN9.out (by have := hb6.out; omega))
      have hkk : (k : Int) ≤ 600 := by have := hb6.out; omega
      have hw1 : IntKind.i64.wrap ((k : Int) + 1) = (k : Int) + 1 := IntWalk.i64_in _ (by omega)
      clear hoa hbl P0 hi0 hB0
      go_wp2_with fail
      refine hdo.out.mono ?_
      rintro e w5 ⟨rfl, G2, hi2, ⟨Sg2, Sr2, P2⟩, U2⟩
      have hB5 := hid (hB.out.trans (U2.below hB.out.size fun j hj h => by omega))
      have c2 : w5.cell? ⟨b, o + k * 4 + 2, none⟩ = some (.int .i64 us[k].slot) := by
        obtain ⟨b', o', e', _, _, _, h2, _⟩ := (HO.out.below (w' := w5) hB5.out).at_ hlt
        injection e' with e'
        injection e' with e1 e2
        subst e1 e2
        exact h2
      have HP2 := hid P2
      have HI2 : Hid (Inv N (k + 1 : Nat) G2) := hid (by exact_mod_cast hi2)
      have has := hid (asks_any us[k].slot P2 hi2 hN9.out (by omega))
      clear P2 hi2 U2 hdo a0 a1 a2 a3
      generalize us[k].slot = sl at *
      by_cases h9 : (k : Int) % 9 = 0
      · have t9 : decide ((k : Int) % 9 = 0) = true := decide_eq_true h9
        have HH := hid hlt
        go_wp2_with fail
        refine has.out.mono ?_
        rintro e w6 ⟨rfl, hb60⟩
        have hfin : Hid (Duo w1.heap.size w1.heap.size w2.heap.size Sg2 Sr2 G2 G2 w6 ∧ Inv N (k + 1 : Nat) G2 ∧ Below w1.heap.size w1 w6) := hid ⟨HP2.out.step hb60, HI2.out, hB5.out.trans (hb60.mono hB5.out.size)⟩
        clear hb60
        go_wp2_with fail
        go_roundw
        case rel => exact ⟨k + 1, Sg2, Sr2, G2, by go_num, hlt, hfin.out⟩
        case measure => simp [intOf]; omega
      · have t9 : decide ((k : Int) % 9 = 0) = false := decide_eq_false h9
        by_cases hla : k + 1 = us.length
        · have t10 : decide ((k : Int) + 1 = (us.length : Int)) = true := decide_eq_true (by omega)
          have HH := hid hlt
          go_wp2_with fail
          refine has.out.mono ?_
          rintro e w6 ⟨rfl, hb60⟩
          have hfin : Hid (Duo w1.heap.size w1.heap.size w2.heap.size Sg2 Sr2 G2 G2 w6 ∧ Inv N (k + 1 : Nat) G2 ∧ Below w1.heap.size w1 w6) := hid ⟨HP2.out.step hb60, HI2.out, hB5.out.trans (hb60.mono hB5.out.size)⟩
          clear hb60
          go_wp2_with fail
          go_roundw
          case rel => exact ⟨k + 1, Sg2, Sr2, G2, by go_num, hlt, hfin.out⟩
          case measure => simp [intOf]; omega
        · have t10 : decide ((k : Int) + 1 = (us.length : Int)) = false := decide_eq_false (by omega)
          have HH := hid hla
          have t11 : ¬ ((k : Int) + 1 = (us.length : Int)) := by omega
          clear hla has
          go_wp2_with fail
          go_roundw
          case rel => exact ⟨k + 1, Sg2, Sr2, G2, by go_num, hlt, HP2.out, HI2.out, hB5.out⟩
          case measure => simp [intOf]; omega
    · obtain rfl : k = us.length := by omega
      have as0 := hid (fun w1' (hb : Below wr.heap.size wr w1') => asks_any 0 (P0.step hb) hi0 hN9.out (by have := hb6.out; omega))
      have as1 := hid (fun w1' (hb : Below wr.heap.size wr w1') => asks_any 1 (P0.step hb) hi0 hN9.out (by have := hb6.out; omega))
      clear P0 hi0 hB0
      go_wp2_with fail
      refine (as0.out wr (Below.refl _ _)).mono ?_
      rintro e w5 ⟨rfl, hb50⟩
      have hb5 := hid hb50
      clear hb50
      go_wp2_with fail
      refine (as1.out w5 hb5.out).mono ?_
      rintro e w6 ⟨rfl, hb60⟩
      have hB6 := hid ((hB.out.trans (hb5.out.mono hB.out.size)).trans (hb60.mono (by have h1 := hB.out.size; have h2 := hb5.out.size; omega)))
      clear hb60
      go_wp2_with (go_at_call 11; refine (live_any _).mono ?_; rintro e w9 ⟨rfl, hb9⟩)
      go_ret
      exact ⟨by simp, hB6.out.trans (hb9.mono hB6.out.size)⟩

end Go.Proofs.Ytbgopicpdpkccaa

namespace Go.Proofs.Ytbgopicpdpkccaa
open Go.RowKit Go.Deep Go.ChangeShapes
set_option linter.unusedVariables false

theorem bulk_app {H : Type} (l r : List (DataW H)) : Rows.uptoBulkAll (l ++ r) = Rows.uptoBulkAll l + Rows.uptoBulkAll r := by
  induction l with
  | nil => simp [Rows.uptoBulkAll]
  | cons x l ih => simp only [List.cons_append, Rows.uptoBulkAll, ih]; omega
theorem cell_lt {w : World} {a : Addr} {v : Value} (h : w.cell? a = some v) : a.block < w.heap.size := by
  by_cases hl : a.block < w.heap.size
  · exact hl
  · exfalso
    have : w.heap[a.block]? = none := by simp; omega
    unfold World.cell? at h
    split at h <;> simp_all
theorem add_plain (b o j : Nat) : (⟨b, o, none⟩ : Addr).add j = ⟨b, o + j, none⟩ := by
  unfold Addr.add; split <;> simp_all
theorem flat_len {α : Type} (f : α → List Value) (sz : Nat) (hf : ∀ a, (f a).length = sz) (us : List α) : (us.flatMap f).length = us.length * sz := by
  induction us with
  | nil => simp
  | cons r l ih => rw [List.flatMap_cons, List.length_append, hf, ih, List.length_cons, Nat.succ_mul]; omega
/-- rows chosen one by one -/
theorem pick {α H : Type} (D : Nat → DataW H) (μ : α → Nat) (R : Nat → α → Prop) : ∀ len : Nat, (∀ i, i < len → ∃ a, R i a ∧ μ a ≤ Rows.uptoBulk (D i)) →
    ∃ us : List α, us.length = len ∧ (∀ i (h : i < us.length), R i us[i]) ∧ (us.map μ).sum ≤ Rows.uptoBulkAll ((List.range len).map D) := by
  intro len
  induction len with
  | zero => intro _; exact ⟨[], rfl, fun i h => absurd h (by simp), by simp⟩
  | succ n ih =>
    intro h
    obtain ⟨us, hl, hR, hs⟩ := ih fun i hi => h i (by omega)
    obtain ⟨a, ha, hm⟩ := h n (by omega)
    refine ⟨us ++ [a], by simp [hl], fun i hi => ?_, ?_⟩
    · by_cases hin : i < us.length
      · rw [List.getElem_append_left hin]; exact hR i hin
      · have : i = us.length := by simp at hi; omega
        subst this
        rw [List.getElem_append_right (by omega)]
        simpa [hl] using ha
    · rw [List.range_succ, List.map_append (f := D), bulk_app]
      simp only [List.map_append, List.sum_append, List.map_cons, List.map_nil, List.sum_cons, List.sum_nil, Rows.uptoBulkAll]
      omega

/-- a slice's cells, element by element -/
theorem open_rows {α H : Type} {enc : TypeId × Value → H} {w : World} {base : Nat} {spare : Nat → Bool} {held : Bool} {t e : TypeId} {fuel : Nat} {cs : List Value} {x : DataW H × List MemPlace}
    (cf : α → List Value) (μ : α → Nat) (ok : α → Prop) (sz : Nat) (hsz : 0 < sz) (hcf : ∀ a, (cf a).length = sz) (ht : Try.prog.underlying t = some (.slice e)) (hce : Try.prog.cellsOf e = sz)
    (hE : ∀ n cs' y, DataW.trod enc Try.prog w base spare held n e cs' = some y → ∃ a, cs' = cf a ∧ ok a ∧ μ a ≤ Rows.uptoBulk y.1)
    (h : DataW.trod enc Try.prog w base spare held fuel t cs = some x) :
    ∃ (A : Option Addr) (us : List α) (c : Nat), cs = [.slice A us.length c] ∧ Rd (fun b => b < w.heap.size) w sz A us.length (us.flatMap cf) ∧ (∀ a ∈ us, ok a) ∧ (us.map μ).sum + 1 ≤ Rows.uptoBulk x.1 := by
  rcases open_slice ht h with ⟨rfl, rfl⟩ | ⟨a, len, cap, m, n, D, Pl, rfl, hb, hl, hm, hmm, rfl, hx⟩
  · exact ⟨none, [], 0, rfl, Rd.nil_, by simp, by simp [Rows.uptoBulk]⟩
  · have hlm : len ≤ m := by rw [hmm]; split <;> omega
    obtain ⟨us, hal, hR, hs⟩ := pick D μ (fun i r => ok r ∧ ∃ cs', cs' = cf r ∧ w.cells? base (a.add (i * sz)) sz = some cs') len (fun i hi => by
      obtain ⟨cs', h1, h2⟩ := hx i (by omega)
      rw [hce] at h1
      obtain ⟨r, e1, e2, e3⟩ := hE _ _ _ h2
      exact ⟨r, ⟨e2, cs', e1, h1⟩, e3⟩)
    refine ⟨some a, us, cap, by rw [hal], ⟨?_, fun h0 => ?_⟩, fun r hr => ?_, ?_⟩
    · exact flat_len cf sz hcf us
    · obtain ⟨_, cs0, e1, e2⟩ := hR 0 h0
      obtain ⟨_, h3, h4⟩ := World.cells?_some e2
      have h5 := h4 0 hsz
      rw [List.getElem?_eq_getElem (by omega)] at h5
      simp at h5
      obtain ⟨b, o, sp⟩ := a
      have h8 : sp = none := by have := World.cell?_spot h5; simpa [Addr.add] using this
      have h9 : b < w.heap.size := by have := cell_lt h5; simpa [Addr.add] using this
      subst h8
      refine ⟨b, o, rfl, h9, h9, fun j u hu => ?_⟩
      have hj : j / sz < us.length := by
        have h1 := (List.getElem?_eq_some_iff.1 hu).1
        rw [flat_len cf sz hcf] at h1
        exact Nat.div_lt_of_lt_mul (by rw [Nat.mul_comm]; exact h1)
      have hjm := Nat.mod_lt j hsz
      have hdm : j / sz * sz + j % sz = j := by rw [Nat.mul_comm]; exact Nat.div_add_mod j sz
      obtain ⟨_, cs1, f1, f2⟩ := hR _ hj
      obtain ⟨_, f3, f4⟩ := World.cells?_some f2
      have f5 := f4 _ hjm
      rw [add_plain, add_plain, Nat.add_assoc, hdm] at f5
      rw [← hdm, aflat_at cf sz hcf us _ _ hj hjm, ← f1, ← f5] at hu
      exact hu
    · obtain ⟨i, hi, rfl⟩ := List.mem_iff_getElem.1 hr
      exact (hR i hi).1
    · simp only [Rows.uptoBulk]; omega

end Go.Proofs.Ytbgopicpdpkccaa

namespace Go.Proofs.Ytbgopicpdpkccaa
open Go.RowKit Go.Deep Go.ChangeShapes
set_option linter.unusedVariables false
set_option linter.unusedSimpArgs false

theorem cof_int : Try.prog.cellsOf 3 = 1 := by kernel_rfl
theorem cof_str : Try.prog.cellsOf 9 = 1 := by kernel_rfl
theorem cof_act : Try.prog.cellsOf 32 = 4 := by kernel_rfl
section
variable {H : Type} {enc : TypeId × Value → H} {w : World} {base : Nat} {spare : Nat → Bool} {held : Bool} {fuel : Nat} {cs : List Value} {x : DataW H × List MemPlace}

theorem fieldAt {fs : Array Field} {xs : List (DataW H × List MemPlace)} {n : Nat} (hf : ∀ (i : Nat) (f : Field), fs[i]? = some f → DataW.trod enc Try.prog w base spare held n f.type ((cs.drop f.offset).take (Try.prog.cellsOf f.type)) = xs[i]?) (i : Nat) {f : Field} (T : TypeId) (o k : Nat) {y : DataW H × List MemPlace}
    (hi : fs[i]? = some f) (hT : f.type = T) (ho : f.offset = o) (hc : Try.prog.cellsOf T = k) (hx : xs[i]? = some y) : DataW.trod enc Try.prog w base spare held n T ((cs.drop o).take k) = some y := by
  have := hf i f hi
  rw [hT, ho, hc, hx] at this
  exact this
theorem sum_ones {α : Type} (l : List α) : (l.map fun _ => 1).sum = l.length := by
  induction l with
  | nil => rfl
  | cons a l ih => rw [List.map_cons, List.sum_cons, ih, List.length_cons]; omega

set_option maxRecDepth 100000 in
theorem open_act (h : DataW.trod enc Try.prog w base spare held fuel 32 cs = some x) : ∃ a : GA, cs = gcells a ∧ True ∧ a.text.size + 1 ≤ Rows.uptoBulk x.1 := by
  obtain ⟨xs, n, _, rfl, hl, hlen, hf⟩ := DataW.trod_struct Try.underlying32 h
  rw [cof_act] at hl
  match cs, hl, xs, hlen with
  | [c0, c1, c2, c3], _, [y0, y1, y2, y3], _ =>
    have h0 := fieldAt hf 0 3 0 1 (y := y0) rfl rfl rfl cof_int rfl
    have h1 := fieldAt hf 1 3 1 1 (y := y1) rfl rfl rfl cof_int rfl
    have h2 := fieldAt hf 2 3 2 1 (y := y2) rfl rfl rfl cof_int rfl
    have h3 := fieldAt hf 3 9 3 1 (y := y3) rfl rfl rfl cof_str rfl
    obtain ⟨kind, e0, r0, _⟩ := DataW.trod_int Try.underlying3 (x := y0) h0
    obtain ⟨m, e1, r1, _⟩ := DataW.trod_int Try.underlying3 (x := y1) h1
    obtain ⟨sl, e2, r2, _⟩ := DataW.trod_int Try.underlying3 (x := y2) h2
    obtain ⟨s, e3, r3, _⟩ := DataW.trod_string Try.underlying9 (x := y3) h3
    simp at e0 e1 e2 e3
    subst e0 e1 e2 e3
    refine ⟨⟨kind, m, sl, s⟩, rfl, trivial, ?_⟩
    rw [r3]
    simp only [Rows.uptoBulk, Rows.uptoBulkAll, List.map_cons, List.map_nil]
    have : s.data.toList.length = s.size := Array.length_toList
    omega
theorem sum_succ (us : List GA) : (us.map fun a => a.text.size + 1).sum = txts us + us.length := by
  unfold txts
  induction us with
  | nil => rfl
  | cons a l ih => rw [List.map_cons, List.sum_cons, List.map_cons, List.sum_cons, List.length_cons, ih]; omega
theorem open_acts (h : DataW.trod enc Try.prog w base spare held fuel 25 cs = some x) :
    ∃ (A : Option Addr) (us : List GA) (c : Nat), cs = [.slice A us.length c] ∧ GActs w A us ∧ txts us + us.length + 1 ≤ Rows.uptoBulk x.1 := by
  obtain ⟨A, l, c, e, hr, ho, hb⟩ := open_rows gcells (fun a => a.text.size + 1) (fun _ => True) 4 (by omega) (fun _ => rfl) Try.underlying25 cof_act (fun n cs' y hy => open_act hy) h
  exact ⟨A, l, c, e, hr, by rw [sum_succ] at hb; omega⟩
end
section
variable {H : Type} {enc : TypeId × Value → H} {P : Program} {w : World} {base : Nat} {spare : Nat → Bool} {held : Bool}
theorem trodAll_five {t0 t1 t2 t3 t4 : TypeId} {args : Array Value} {ds : List (DataW H)} {ps : List MemPlace} (h : DataW.TrodAll enc P w base spare held [t0, t1, t2, t3, t4] args.toList ds ps) :
    ∃ v0 v1 v2 v3 v4 d0 d1 d2 d3 d4 p0 p1 p2 p3 p4, args = #[v0, v1, v2, v3, v4] ∧ ds = [d0, d1, d2, d3, d4] ∧ ps = p0 ++ p1 ++ p2 ++ p3 ++ p4 ∧ DataW.Trod enc P w base spare held t0 v0 d0 p0 ∧ DataW.Trod enc P w base spare held t1 v1 d1 p1 ∧ DataW.Trod enc P w base spare held t2 v2 d2 p2 ∧ DataW.Trod enc P w base spare held t3 v3 d3 p3 ∧ DataW.Trod enc P w base spare held t4 v4 d4 p4 := by
  obtain ⟨v0, vs0, d0, ds0, p0, q0, hargs, rfl, rfl, h0, r0⟩ := trodAll_cons h
  obtain ⟨v1, vs1, d1, ds1, p1, q1, rfl, rfl, rfl, h1, r1⟩ := trodAll_cons r0
  obtain ⟨v2, vs2, d2, ds2, p2, q2, rfl, rfl, rfl, h2, r2⟩ := trodAll_cons r1
  obtain ⟨v3, vs3, d3, ds3, p3, q3, rfl, rfl, rfl, h3, r3⟩ := trodAll_cons r2
  obtain ⟨v4, vs4, d4, ds4, p4, q4, rfl, rfl, rfl, h4, r4⟩ := trodAll_cons r3
  obtain ⟨rfl, rfl, rfl⟩ := trodAll_nil r4
  exact ⟨v0, v1, v2, v3, v4, d0, d1, d2, d3, d4, p0, p1, p2, p3, p4, by cases args; simp_all, rfl, by simp, h0, h1, h2, h3, h4⟩
end

end Go.Proofs.Ytbgopicpdpkccaa

namespace Go.Proofs.Ytbgopicpdpkccaa
open Go.ChangeShapes Go.WideShapes Go.ChangeAt Go.RowKit

theorem trodAll_below {H : Type} {enc : TypeId × Value → H} {P : Program} (hl : laidOutB P = true) {W W' : World} (hb : Below W.heap.size W W') :
    ∀ {ts : List TypeId} {vs : List Value} {ds : List (DataW H)} {ps : List MemPlace}, ts.all (fun t => P.readableRec t && decide (t < P.types.size)) = true → (∀ x ∈ ps, x.block < W.heap.size) →
      DataW.TrodAll enc P W 0 (fun _ => true) true ts vs ds ps → DataW.TrodAll enc P W' 0 (fun b => decide (b < W.heap.size)) true ts vs ds ps := by
  intro ts
  induction ts with
  | nil =>
    intro vs ds ps _ _ h
    obtain ⟨rfl, rfl, rfl⟩ := trodAll_nil h
    exact trodAll_mk0
  | cons t ts ih =>
    intro vs ds ps hr hlt h
    obtain ⟨v, vs', d, ds', p, q, rfl, rfl, rfl, h0, h1⟩ := trodAll_cons h
    simp only [List.all_cons, Bool.and_eq_true, decide_eq_true_eq] at hr
    exact trodAll_cons_mk (Below.trod hl hr.1.1 hr.1.2 h0 hb fun x hx => hlt x (List.mem_append_left _ hx)) (ih hr.2 (fun x hx => hlt x (List.mem_append_right _ hx)) h1)

theorem law_post {H : Type} {enc : TypeId × Value → H} {P : Program} {f : Func} {s : ChangeSpec} {W W' : World} {args : Array Value} {ds gs : List (DataW H)} {before : List MemPlace} {tb : TypeId}
    (hl : laidOutB P = true) (hrow : f.params.toList.all (fun t => P.readableRec t && decide (t < P.types.size)) = true) (hres : f.resultTypes = #[tb]) (htb : P.underlying tb = some .bool)
    (hv : s.vars = []) (hW : DataW.Whole enc P f.params.toList s.vars false W args.toList ds gs before)
    (hs : (s.fn H (ds ++ gs)).results = [.lit (.bool true)]) (ha : (s.fn H (ds ++ gs)).args = ds) (hvs : (s.fn H (ds ++ gs)).vars = []) (hb : Below W.heap.size W W') :
    s.post enc P f false true false false W args (.bool true) W' := by
  have hlt : ∀ p ∈ before, p.block < W.heap.size := fun p hp => hW.lt p hp
  have hW' := hW
  obtain ⟨p, q, hA, hV, rfl, _, _⟩ := hW
  rw [hv] at hV
  obtain ⟨rfl, rfl⟩ := trodVars_none hV
  refine ⟨ds, [], _, [], p, [], hW', ?_, ?_, ?_, World.keptBut_mono (fun x hx => ?_) (hb.frame (· ∈ p)), fun h => by cases h⟩
  · rw [hs, hres]
    exact trodAll_cons_mk (shut_bool htb _) trodAll_mk0
  · rw [ha]
    exact trodAll_below hl hb hrow (fun x hx => hlt x (List.mem_append_left _ hx)) hA
  · rw [hv, hvs]; rfl
  · exact ⟨by simpa using hx, .inr (.inl hx)⟩

end Go.Proofs.Ytbgopicpdpkccaa

