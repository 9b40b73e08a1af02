/- proc: the document's least, nexts. -/
import Derived.Test.YtdmogoaaecdbaaaGreatDoorJ21
import Derived.Laws.MakeOwn
import Derived.Laws.OwnMore
namespace Go.Proofs.YtdmogoaaecdbaaaGreatDoor
open Go.RowKit
set_option linter.unusedVariables false
set_option linter.unusedSimpArgs false

/-- the document's two lists -/
structure DkAt (w : World) (g h n : Nat) (c : Ck) (cs ls : Array Value) : Prop where
  a : Blk w g 3 cs
  b : Blk w h 4 ls
  sa : cs.size = n
  sb : ls.size = n
  dep : ∀ i, i < n → cs[i]? = some (.int .i64 (c.dep i))
  lk : ∀ i, i < n → ls[i]? = some (.bool (c.lk i))
section
variable {w w' : World} {g h n : Nat} {c : Ck} {cs ls : Array Value}
theorem DkAt.below (k : DkAt w g h n c cs ls) (hb : Below w.heap.size w w') : DkAt w' g h n c cs ls := { k with a := k.a.below_all hb, b := k.b.below_all hb }
theorem DkAt.ne (k : DkAt w g h n c cs ls) : g ≠ h := k.a.ne_ k.b (by decide)
theorem DkAt.cdep (k : DkAt w g h n c cs ls) {i : Nat} (hi : i < n) : w.cell? ⟨g, i, none⟩ = some (.int .i64 (c.dep i)) := (k.a.cell _).trans (k.dep i hi)
theorem DkAt.clk (k : DkAt w g h n c cs ls) {i : Nat} (hi : i < n) : w.cell? ⟨h, i, none⟩ = some (.bool (c.lk i)) := (k.b.cell _).trans (k.lk i hi)
theorem DkAt.setDep (k : DkAt w g h n c cs ls) {i : Nat} (hi : i < n) (d : Int) : DkAt (w.setCell ⟨g, i, none⟩ (.int .i64 d)) g h n ⟨setN c.dep i d, c.lk⟩ (cs.setIfInBounds i (.int .i64 d)) ls := by
  refine ⟨k.a.set_ _ _, k.b.far (p := ⟨g, i, none⟩) (fun e => k.ne e.symm) _, by simpa using k.sa, k.sb, fun j hj => ?_, k.lk⟩
  by_cases e : j = i
  · subst e
    rw [Array.getElem?_setIfInBounds_self_of_lt (by rw [k.sa]; omega)]
    simp [setN]
  · rw [Array.getElem?_setIfInBounds_ne (by omega), k.dep j hj]
    simp [setN, e]
theorem DkAt.setLk (k : DkAt w g h n c cs ls) {i : Nat} (hi : i < n) (d : Bool) : DkAt (w.setCell ⟨h, i, none⟩ (.bool d)) g h n ⟨c.dep, setN c.lk i d⟩ cs (ls.setIfInBounds i (.bool d)) := by
  refine ⟨k.a.far (p := ⟨h, i, none⟩) k.ne _, k.b.set_ _ _, k.sa, by simpa using k.sb, k.dep, fun j hj => ?_⟩
  by_cases e : j = i
  · subst e
    rw [Array.getElem?_setIfInBounds_self_of_lt (by rw [k.sb]; omega)]
    simp [setN]
  · rw [Array.getElem?_setIfInBounds_ne (by omega), k.lk j hj]
    simp [setN, e]
theorem DkAt.congr {c' : Ck} (k : DkAt w g h n c cs ls) (h1 : ∀ i, i < n → c.dep i = c'.dep i) (h2 : ∀ i, i < n → c.lk i = c'.lk i) : DkAt w g h n c' cs ls :=
  { k with dep := fun i hi => by rw [k.dep i hi, h1 i hi], lk := fun i hi => by rw [k.lk i hi, h2 i hi] }
def leastI : Option Nat → Int
  | none => -1
  | some i => i
set_option maxRecDepth 100000 in
theorem rleast_any (k : DkAt w g h n c cs ls) (hr : DepR c.dep) (hn : n ≤ 256) : Calls Tryz.prog 81 #[.slice (some ⟨g, 0, none⟩) n n, .slice (some ⟨h, 0, none⟩) n n] w fun e w' => e = .returned (.int .i64 (leastI (leastD c n 0))) ∧ w' = w := by
  have K := hid k
  have HR := hid hr
  have hn9 : (n : Int) ≤ 256 := by omega
  clear k hr
  go_enter Tryz.func81, Tryz.ntmps81
  go_wp2_with fail
  go_loopw [5] (fun v wr => ∃ k : Nat, v = .int .i64 k ∧ k ≤ n ∧ wr = w ∧ leastD c n 0 = leastD c (n - k) k) (fun v _ => n - (intOf v).toNat)
  case atStart => exact ⟨0, rfl, Nat.zero_le _, rfl, rfl⟩
  case round =>
    obtain ⟨k, rfl, hk, rfl, he0⟩ := hrel
    have he := hid he0
    clear he0
    by_cases hlt : k < n
    · have i1 : (k : Int) < (n : Int) := by omega
      have i0 : (0 : Int) ≤ (k : Int) := by omega
      have x1 := K.out.cdep (i := k) hlt
      have x2 := K.out.clk (i := k) hlt
      have hst := hid (leastD_step c n k hlt)
      have hht := hid (leastD_hit c n k hlt)
      have hdu : Hid (c.due k = (decide (c.dep k ≠ -1) && !c.lk k)) := hid rfl
      have hrk := HR.out k
      have hw : IntKind.i64.wrap ((k : Int) + 1) = (k : Int) + 1 := IntWalk.i64_in _ (by omega)
      generalize c.dep k = d at *
      generalize c.lk k = b at *
      by_cases hd : d = -1
      · have t1 : decide (0 ≤ d) = false := decide_eq_false (by omega)
        have hs := hid (he.out.trans (hst.out (by rw [hdu.out]; simp [hd])))
        clear hd hrk
        go_wp2_with fail
        go_roundw
        case rel => exact ⟨k + 1, by go_num, hlt, by first | rfl | trivial, hs.out⟩
        case measure => simp [intOf]; omega
      · have t1 : decide (0 ≤ d) = true := decide_eq_true (by rcases hrk with h | h <;> omega)
        cases b with
        | true =>
          have hs := hid (he.out.trans (hst.out (by rw [hdu.out]; simp)))
          clear hd hrk
          go_wp2_with fail
          go_roundw
          case rel => exact ⟨k + 1, by go_num, hlt, by first | rfl | trivial, hs.out⟩
          case measure => simp [intOf]; omega
        | false =>
          have hs := hid (he.out.trans (hht.out (by rw [hdu.out]; simp [hd])))
          clear hd hrk
          go_wp2_with fail
          go_ret
          exact ⟨by rw [hs.out]; rfl, by first | rfl | trivial⟩
    · obtain rfl : k = n := by omega
      have hs := hid (he.out.trans (leastD_end c k))
      go_wp2_with fail
      go_ret
      exact ⟨by rw [hs.out]; rfl, by first | rfl | trivial⟩
end
def NextsPost (l : List Nat) (w : World) (e : Ending) (w' : World) : Prop := Below w.heap.size w w' ∧ ∃ A c, e = .returned (.slice A l.length c) ∧ Rd (fun b => w.heap.size ≤ b) w' 1 A l.length (l.map fun j => .int .i64 (j : Nat))
theorem rd_ints (w W : World) (l : List Nat) (vs : Array Value) (hv : vs.toList = l.map fun j => .int .i64 (j : Nat)) (hz : w.heap.size ≤ W.heap.size) : Rd (fun b => w.heap.size ≤ b) (W.alloc (.cells vs 3)) 1 (some ⟨W.heap.size, 0, none⟩) l.length (l.map fun j => .int .i64 (j : Nat)) := by
  have h := (Rd.new W 3 1 l.length vs W.heap.size rfl (by have := congrArg List.length hv; simpa using this)).more (S' := fun b => w.heap.size ≤ b) fun b hb _ => by subst hb; exact hz
  rwa [hv] at h
set_option maxRecDepth 100000 in
set_option maxHeartbeats 1000000 in
theorem rnexts_any (p : Pr) (S : Nat → Prop) (A1 A2 : Option Addr) (c1 c2 : Nat) (w : World) (hp : PrIn S w A1 A2 p) (at_ : Nat) (ha : at_ < p.code.length) (hi0 : 0 ≤ (p.code.getD at_ is0).n) : Calls Tryz.prog 83 #[.agg #[.int .i64 p.args, .slice A1 p.cs.length c1, .slice A2 p.code.length c2], .int .i64 at_] w (NextsPost (nexts at_ (p.code.getD at_ is0)) w) := by
  obtain ⟨b, o, hA, hbl, a0, a1⟩ := hp.i.ins_at (k := at_) ha
  have hgi : p.code.getD at_ is0 = p.code[at_]'ha := by rw [List.getD_eq_getElem?_getD, List.getElem?_eq_getElem ha]; rfl
  have hL := hp.l
  rw [hgi] at hi0 ⊢
  subst hA
  generalize p.code[at_]'ha = i at *
  have kp := Blk.new w 33 #[.int .i64 p.args, .slice A1 p.cs.length c1, .slice (some ⟨b, o, none⟩) p.code.length c2]
  have hB1 : Below w.heap.size w (w.alloc (.cells #[.int .i64 p.args, .slice A1 p.cs.length c1, .slice (some ⟨b, o, none⟩) p.code.length c2] 33)) := (Below.refl _ _).alloc (Nat.le_refl _) _
  have a0' := (World.cell?_of_block (w := w) (a := ⟨b, o + at_ * 2, none⟩) (hB1.block b hbl)).trans a0
  have a1' := (World.cell?_of_block (w := w) (a := ⟨b, o + at_ * 2 + 1, none⟩) (hB1.block b hbl)).trans a1
  have i1 : (at_ : Int) < (p.code.length : Int) := by omega
  have i9 : (at_ : Int) < 1000000000 := by omega
  have i0 : (0 : Int) ≤ (at_ : Int) := by omega
  have hw : IntKind.i64.wrap ((at_ : Int) + 1) = (at_ : Int) + 1 := IntWalk.i64_in _ (by omega)
  have KP := hid kp
  have HB := hid hB1
  clear hp hL hgi a0 a1
  go_enter Tryz.func83, Tryz.ntmps83
  go_upto_region 1 with fail
  generalize w.alloc (.cells #[.int .i64 p.args, .slice A1 p.cs.length c1, .slice (some ⟨b, o, none⟩) p.code.length c2] 33) = w1 at *
  have p2 := KP.out.cell 2
  simp only [List.getElem?_toArray, List.getElem?_cons_zero, List.getElem?_cons_succ] at p2
  have ki := Blk.new w1 69 #[.int .i64 i.op, .int .i64 i.n]
  have hB2 := hid (HB.out.alloc HB.out.size (.cells #[.int .i64 i.op, .int .i64 i.n] 69))
  have KI := hid ki
  have j0 := ki.cell 0
  have j1 := ki.cell 1
  simp only [List.getElem?_toArray, List.getElem?_cons_zero, List.getElem?_cons_succ] at j0 j1
  clear ki kp hB1
  go_upto_region 2 with fail
  generalize w1.alloc (.cells #[.int .i64 i.op, .int .i64 i.n] 69) = w2 at *
  clear p2 a0' a1'
  obtain ⟨m, hm⟩ : ∃ m : Nat, i.n = (m : Int) := ⟨i.n.toNat, by omega⟩
  have hmt : i.n.toNat = m := by omega
  rw [hm] at j1
  have hz2 := hB2.out.size
  by_cases h18 : i.op = 18
  · have o1 : (i.op == 18) = true := by simpa using h18
    have hl : Hid (nexts at_ i = [m]) := hid (by unfold nexts; rw [if_pos h18, hmt])
    have hfin : Hid (NextsPost [m] w (.returned (.slice (some ⟨w2.heap.size, 0, none⟩) 1 1)) (w2.alloc (.cells #[.int .i64 (m : Int)] 3))) := hid ⟨hB2.out.alloc hz2 _, _, _, rfl, rd_ints w w2 [m] _ rfl hz2⟩
    generalize i.op = op at *
    clear h18
    go_wp2_with fail
    go_ret
    rw [hl.out]
    exact hfin.out
  have o1 : (i.op == 18) = false := by simpa using h18
  by_cases h19 : i.op = 19
  · have o2 : (i.op == 19) = true := by simpa using h19
    have hl : Hid (nexts at_ i = [at_ + 1, m]) := hid (by unfold nexts; rw [if_neg h18, if_pos h19, hmt])
    have hfin : Hid (NextsPost [at_ + 1, m] w (.returned (.slice (some ⟨w2.heap.size, 0, none⟩) 2 2)) (w2.alloc (.cells #[.int .i64 ((at_ : Int) + 1), .int .i64 (m : Int)] 3))) := hid ⟨hB2.out.alloc hz2 _, _, _, rfl, rd_ints w w2 [at_ + 1, m] _ rfl hz2⟩
    generalize i.op = op at *
    clear h18 h19
    go_wp2_with fail
    go_ret
    rw [hl.out]
    exact hfin.out
  have o2 : (i.op == 19) = false := by simpa using h19
  by_cases h30 : i.op = 30
  · have o3 : (i.op == 30) = true := by simpa using h30
    have hl : Hid (nexts at_ i = []) := hid (by unfold nexts; rw [if_neg h18, if_neg h19, if_pos (.inl h30)])
    have hfin : Hid (NextsPost [] w (.returned (.slice none 0 0)) w2) := hid ⟨hB2.out, _, _, rfl, Rd.nil_⟩
    generalize i.op = op at *
    clear h18 h19 h30
    go_wp2_with fail
    go_ret
    rw [hl.out]
    exact hfin.out
  have o3 : (i.op == 30) = false := by simpa using h30
  by_cases h31 : i.op = 31
  · have o4 : (i.op == 31) = true := by simpa using h31
    have hl : Hid (nexts at_ i = []) := hid (by unfold nexts; rw [if_neg h18, if_neg h19, if_pos (.inr h31)])
    have hfin : Hid (NextsPost [] w (.returned (.slice none 0 0)) w2) := hid ⟨hB2.out, _, _, rfl, Rd.nil_⟩
    generalize i.op = op at *
    clear h18 h19 h30 h31
    go_wp2_with fail
    go_ret
    rw [hl.out]
    exact hfin.out
  have o4 : (i.op == 31) = false := by simpa using h31
  have hl : Hid (nexts at_ i = [at_ + 1]) := hid (by unfold nexts; rw [if_neg h18, if_neg h19, if_neg (by omega)])
  have hfin : Hid (NextsPost [at_ + 1] w (.returned (.slice (some ⟨w2.heap.size, 0, none⟩) 1 1)) (w2.alloc (.cells #[.int .i64 ((at_ : Int) + 1)] 3))) := hid ⟨hB2.out.alloc hz2 _, _, _, rfl, rd_ints w w2 [at_ + 1] _ rfl hz2⟩
  generalize i.op = op at *
  clear h18 h19 h30 h31
  go_wp2_with fail
  go_ret
  rw [hl.out]
  exact hfin.out

end Go.Proofs.YtdmogoaaecdbaaaGreatDoor
