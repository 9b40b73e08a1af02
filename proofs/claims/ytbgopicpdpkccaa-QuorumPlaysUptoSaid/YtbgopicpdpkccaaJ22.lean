/- Texts of the proof, joined: GRPro. -/
import Derived.Test.YtbgopicpdpkccaaJ20
import Derived.Test.YtbgopicpdpkccaaJ09
import Derived.Test.YtbgopicpdpkccaaJ21
namespace Go.Proofs.Ytbgopicpdpkccaa
open Go.RowKit
set_option linter.unusedVariables false
set_option linter.unusedSimpArgs false

def bstep (b : Vt) (p : Int × Vt) : Vt := if 0 < p.2.bal.rd ∧ Bal.lt b.bal p.2.bal then p.2 else b
def bstOf (d : Bd) (k : Nat) : Vt := (d.ans.take k).foldl bstep ⟨bal0, d.text⟩
theorem bstOf_succ {d : Bd} {k : Nat} (h : k < d.ans.length) : bstOf d (k + 1) = bstep (bstOf d k) d.ans[k] := by
  unfold bstOf
  rw [List.take_add_one, List.getElem?_eq_getElem h, List.foldl_append]
  rfl
theorem bst_best (t : ByteArray) : ∀ (l : List (Int × Vt)) (b : Vt), 0 ≤ b.bal.rd → ((b = ⟨bal0, t⟩) ∨ 0 < b.bal.rd) → (l.foldl bstep b = b ∨ ∃ p ∈ l, p.2 = l.foldl bstep b ∧ 0 < (l.foldl bstep b).bal.rd) ∧ Bal.le b.bal (l.foldl bstep b).bal ∧ ∀ p ∈ l, 0 < p.2.bal.rd → Bal.le p.2.bal (l.foldl bstep b).bal := by
  intro l
  induction l with
  | nil => intro b _ _; exact ⟨.inl rfl, Bal.refl _, fun p hp => by cases hp⟩
  | cons q l ih =>
    intro b hb hb2
    simp only [List.foldl_cons]
    have hs : (bstep b q = q.2 ∧ 0 < q.2.bal.rd ∧ Bal.lt b.bal q.2.bal) ∨ (bstep b q = b ∧ (0 < q.2.bal.rd → ¬ Bal.lt b.bal q.2.bal)) := by
      unfold bstep
      by_cases h : 0 < q.2.bal.rd ∧ Bal.lt b.bal q.2.bal
      · rw [if_pos h]; exact .inl ⟨rfl, h⟩
      · rw [if_neg h]; exact .inr ⟨rfl, fun h1 h2 => h ⟨h1, h2⟩⟩
    rcases hs with ⟨e, h1, h2⟩ | ⟨e, h1⟩
    · rw [e]
      obtain ⟨i1, i2, i3⟩ := ih q.2 (Int.le_of_lt h1) (.inr h1)
      refine ⟨.inr ?_, Bal.trans (by unfold Bal.lt at h2; unfold Bal.le; omega) i2, fun p hp h0 => ?_⟩
      · rcases i1 with i1 | ⟨p, hp, i1⟩
        · exact ⟨q, List.mem_cons_self, i1.symm, by rw [i1]; exact h1⟩
        · exact ⟨p, List.mem_cons_of_mem _ hp, i1⟩
      · rcases List.mem_cons.1 hp with rfl | hp
        · exact i2
        · exact i3 p hp h0
    · rw [e]
      obtain ⟨i1, i2, i3⟩ := ih b hb hb2
      refine ⟨?_, i2, fun p hp h0 => ?_⟩
      · rcases i1 with i1 | ⟨p, hp, i1⟩
        · exact .inl i1
        · exact .inr ⟨p, List.mem_cons_of_mem _ hp, i1⟩
      · rcases List.mem_cons.1 hp with rfl | hp
        · exact Bal.trans (Bal.le_of_not (h1 h0)) i2
        · exact i3 p hp h0
theorem bstOf_best (d : Bd) : IsBest d.ans d.text (bstOf d d.ans.length) := by
  unfold bstOf
  rw [List.take_length]
  obtain ⟨h1, h2, h3⟩ := bst_best d.text d.ans ⟨bal0, d.text⟩ (Int.le_refl _) (.inl rfl)
  exact ⟨h1, fun p hp h0 => cmpB_le.2 (h3 p hp h0)⟩
def Gr.rwon (G : Gr) (i : Nat) (s : Int) (x : Sl) (m : Ml) (d2 : Bd) : Gr := if d2.ans.length < G.nds.length / 2 + 1 then G.setSl i s { x with bid := some d2 } else G.promised i s x m d2 (bstOf d2 d2.ans.length)
/-- the slot at x', in its place -/
def RSl (S : Nat → Prop) (w : World) (r : Nat) (An : Option Addr) (cn : Nat) (Am : Option Addr) (cm : Nat) (G : Gr) (i : Nat) (s : Int) (b : Nat) (x : Sl) : Prop := ∃ a, RIn S w r An cn Am cm (G.setSl i s x) a ∧ a.lA i = some ⟨b, 0, none⟩
section
variable {S : Nat → Prop} {w w' : World} {r : Nat} {An Am : Option Addr} {cn cm : Nat} {G : Gr} {a : Ra} {i q b : Nat} {s : Int} {x0 x : Sl}
theorem RSl.cells (h : RSl S w r An cn Am cm G i s b x) (hi : i < G.nds.length) (ho : Once (G.nd i).sl) (hq : (G.nd i).sl[q]? = some (s, x0)) :
    ∃ z, RjOk S w x z ∧ (∀ f, f < 15 → w.cell? ⟨b, q * 15 + f, none⟩ = (rcells s x z)[f]?) ∧ (∃ cs, Blk w b 103 cs) ∧ S b ∧ b < w.heap.size := by
  obtain ⟨a, h, hb⟩ := h
  have hL : (G.setSl i s x).nds.length = G.nds.length := Gr.len_set _ _ _
  have hq2 := Gr.set_at (x' := x) hi ho hq
  obtain ⟨b', hb', h1, h2, h3, h4⟩ := h.seg (by rw [hL]; exact hi) hq2
  rw [hb] at hb'
  injection hb' with hb'
  injection hb' with hb'
  subst hb'
  exact ⟨_, h.ans i (by rw [hL]; exact hi) _ (List.mem_of_getElem? hq2), h4, h3, h2, h1⟩
/-- the slot's row is turned in place -/
theorem RSl.put {x' : Sl} (h : RSl S w r An cn Am cm G i s b x) (hi : i < G.nds.length) (ho : Once (G.nd i).sl) (hq : (G.nd i).sl[q]? = some (s, x0)) (hu : Upd (fun k => k = b) w w') (hsz : w'.heap.size = w.heap.size)
    (hrow : ∀ z, RjOk S w x z → ∃ z', (∀ A B n c, OwnS S w 103 15 (.slice (some ⟨b, 0, none⟩) n c) n (A ++ rcells s x z ++ B) → A.length = q * 15 → OwnS S w' 103 15 (.slice (some ⟨b, 0, none⟩) n c) n (A ++ rcells s x' z' ++ B)) ∧ RjOk S w x' z' ∧ (x'.bid.isSome → ∀ k, z'.blk = some k → x.bid.isSome ∧ z.blk = some k)) : RSl S w' r An cn Am cm G i s b x' := by
  obtain ⟨_, _, _, ⟨cs, hbk⟩, _, _⟩ := h.cells hi ho hq
  obtain ⟨a, h, hb⟩ := h
  have hL : (G.setSl i s x).nds.length = G.nds.length := Gr.len_set _ _ _
  have hq2 := Gr.set_at (x' := x) hi ho hq
  obtain ⟨z', h1, h2, h3⟩ := hrow (a.z i s) (h.ans i (by rw [hL]; exact hi) _ (List.mem_of_getElem? hq2))
  have hk := h.put (x' := x') (z' := z') (S' := S) (by rw [hL]; exact hi) hq2 hb hu (fun k hk => .inl hk) (fun k h => h) (fun k hk => by rw [hsz]; exact h.lt k hk) (fun A B hr hA => h1 A B _ _ hr hA) (h2.keep (fun k h => h) fun b' hs hb' => by
    obtain ⟨d, hd⟩ := Option.isSome_iff_exists.1 hs
    obtain ⟨_, _, _, _, h5⟩ := h2 d hd
    obtain ⟨⟨cs', hb2⟩, _⟩ := own_blk h5 hb'
    exact hu.block b' hb2.lt fun e => hbk.ne_ hb2 (by decide) e.symm) (fun hs k hk => .inl (h3 hs k hk))
  rw [setSl_setSl _ _ _ _ _ hi] at hk
  exact ⟨_, hk, hb⟩
theorem RSl.far {M : Nat → Prop} (h : RSl S w r An cn Am cm G i s b x) (hu : Upd M w w') (hM : ∀ k, S k → ¬ M k) : RSl S w' r An cn Am cm G i s b x := by
  obtain ⟨a, h, hb⟩ := h
  exact ⟨a, h.far hu hM, hb⟩
end
section
variable {S : Nat → Prop} {w w' : World} {r : Nat} {An Am : Option Addr} {cn cm : Nat} {G : Gr} {a : Ra}
/-- under way through the answers -/
structure RLp (S S3 : Nat → Prop) (w : World) (r : Nat) (An : Option Addr) (cn : Nat) (Am : Option Addr) (cm : Nat) (G : Gr) (i : Nat) (s : Int) (b zb : Nat) (m : Ml) (x : Sl) (d2 : Bd) (k : Nat) (wr : World) : Prop where
  sl : RSl S3 wr r An cn Am cm G i s b { x with bid := some { d2 with text := (bstOf d2 k).text } }
  kz : Blk wr zb 35 #[.int .i64 (bstOf d2 k).bal.rd, .int .i64 (bstOf d2 k).bal.nd]
  kb : Blk wr w.heap.size 78 #[.int .i64 m.kind, .int .i64 m.fr, .int .i64 m.dst, .int .i64 m.slot, .int .i64 m.bal.rd, .int .i64 m.bal.nd, .int .i64 m.had.rd, .int .i64 m.had.nd, .string m.text]
  up : Upd S w wr
set_option maxRecDepth 100000 in
set_option maxHeartbeats 4000000 in
theorem rpromise_some (m : Ml) (x : Sl) (i : Nat) (s : Int) {q b : Nat} (h : RIn S w r An cn Am cm G a) (hi : i < G.nds.length) (hq : (G.nd i).sl[q]? = some (s, x)) (hb : a.lA i = some ⟨b, 0, none⟩) (d d2 : Bd) (hd : x.bid = some d) (h1 : d.acc = false) (h2 : d.bal = m.bal) (hag : getA m.fr d.ans = none) (hd2 : d2 = { d with ans := setA m.fr ⟨m.had, m.text⟩ d.ans }) (hN : G.nds.length ≤ 9) (hln : d.ans.length ≤ 9) : Calls Try.prog 69 #[.pointer (some ⟨r, 0, none⟩), .pointer (some ⟨b, q * 15, none⟩), .agg #[.int .i64 m.kind, .int .i64 m.fr, .int .i64 m.dst, .int .i64 m.slot, .int .i64 m.bal.rd, .int .i64 m.bal.nd, .int .i64 m.had.rd, .int .i64 m.had.nd, .string m.text]] w fun e w' => e = .returned (.tuple #[]) ∧ RGo S w r (G.rwon i s x m d2) w' := by
  have hn9 : (G.nds.length : Int) ≤ 9 := by omega
  have hB0 : Below w.heap.size w (w.alloc (.cells #[.int .i64 m.kind, .int .i64 m.fr, .int .i64 m.dst, .int .i64 m.slot, .int .i64 m.bal.rd, .int .i64 m.bal.nd, .int .i64 m.had.rd, .int .i64 m.had.nd, .string m.text] 78)) := (Below.refl _ _).alloc (Nat.le_refl _) _
  have kb := Blk.new w 78 #[.int .i64 m.kind, .int .i64 m.fr, .int .i64 m.dst, .int .i64 m.slot, .int .i64 m.bal.rd, .int .i64 m.bal.nd, .int .i64 m.had.rd, .int .i64 m.had.nd, .string m.text]
  have hSlt := h.lt
  have q1 := h.below hB0
  have hB := hid hB0
  obtain ⟨b', hb', hbl, hSb, hbk, hc0⟩ := q1.seg hi hq
  rw [hb] at hb'
  injection hb' with hb'
  injection hb' with hb'
  subst hb'
  have hz := q1.ans i hi (s, x) (List.mem_of_getElem? hq)
  clear h hB0
  have s9 : (w.alloc (.cells #[.int .i64 m.kind, .int .i64 m.fr, .int .i64 m.dst, .int .i64 m.slot, .int .i64 m.bal.rd, .int .i64 m.bal.nd, .int .i64 m.had.rd, .int .i64 m.had.nd, .string m.text] 78)).cell? ⟨b, q * 15 + 9, none⟩ = some (.bool x.bid.isSome) := hc0 9 (by omega)
  have s10 : (w.alloc (.cells #[.int .i64 m.kind, .int .i64 m.fr, .int .i64 m.dst, .int .i64 m.slot, .int .i64 m.bal.rd, .int .i64 m.bal.nd, .int .i64 m.had.rd, .int .i64 m.had.nd, .string m.text] 78)).cell? ⟨b, q * 15 + 10, none⟩ = some (.bool (a.z i s).asks) := hc0 10 (by omega)
  have s11 : (w.alloc (.cells #[.int .i64 m.kind, .int .i64 m.fr, .int .i64 m.dst, .int .i64 m.slot, .int .i64 m.bal.rd, .int .i64 m.bal.nd, .int .i64 m.had.rd, .int .i64 m.had.nd, .string m.text] 78)).cell? ⟨b, q * 15 + 11, none⟩ = some (.int .i64 (a.z i s).bal.rd) := hc0 11 (by omega)
  have s12 : (w.alloc (.cells #[.int .i64 m.kind, .int .i64 m.fr, .int .i64 m.dst, .int .i64 m.slot, .int .i64 m.bal.rd, .int .i64 m.bal.nd, .int .i64 m.had.rd, .int .i64 m.had.nd, .string m.text] 78)).cell? ⟨b, q * 15 + 12, none⟩ = some (.int .i64 (a.z i s).bal.nd) := hc0 12 (by omega)
  have s13 : (w.alloc (.cells #[.int .i64 m.kind, .int .i64 m.fr, .int .i64 m.dst, .int .i64 m.slot, .int .i64 m.bal.rd, .int .i64 m.bal.nd, .int .i64 m.had.rd, .int .i64 m.had.nd, .string m.text] 78)).cell? ⟨b, q * 15 + 13, none⟩ = some (.string (a.z i s).own) := hc0 13 (by omega)
  have s14 : (w.alloc (.cells #[.int .i64 m.kind, .int .i64 m.fr, .int .i64 m.dst, .int .i64 m.slot, .int .i64 m.bal.rd, .int .i64 m.bal.nd, .int .i64 m.had.rd, .int .i64 m.had.nd, .string m.text] 78)).cell? ⟨b, q * 15 + 14, none⟩ = some (.slice (a.z i s).A (a.z i s).n (a.z i s).c) := hc0 14 (by omega)
  have e0 : (w.alloc (.cells #[.int .i64 m.kind, .int .i64 m.fr, .int .i64 m.dst, .int .i64 m.slot, .int .i64 m.bal.rd, .int .i64 m.bal.nd, .int .i64 m.had.rd, .int .i64 m.had.nd, .string m.text] 78)).cell? ⟨w.heap.size, 0, none⟩ = some (.int .i64 m.kind) := kb.cell 0
  have e1 : (w.alloc (.cells #[.int .i64 m.kind, .int .i64 m.fr, .int .i64 m.dst, .int .i64 m.slot, .int .i64 m.bal.rd, .int .i64 m.bal.nd, .int .i64 m.had.rd, .int .i64 m.had.nd, .string m.text] 78)).cell? ⟨w.heap.size, 1, none⟩ = some (.int .i64 m.fr) := kb.cell 1
  have e2 : (w.alloc (.cells #[.int .i64 m.kind, .int .i64 m.fr, .int .i64 m.dst, .int .i64 m.slot, .int .i64 m.bal.rd, .int .i64 m.bal.nd, .int .i64 m.had.rd, .int .i64 m.had.nd, .string m.text] 78)).cell? ⟨w.heap.size, 2, none⟩ = some (.int .i64 m.dst) := kb.cell 2
  have e3 : (w.alloc (.cells #[.int .i64 m.kind, .int .i64 m.fr, .int .i64 m.dst, .int .i64 m.slot, .int .i64 m.bal.rd, .int .i64 m.bal.nd, .int .i64 m.had.rd, .int .i64 m.had.nd, .string m.text] 78)).cell? ⟨w.heap.size, 3, none⟩ = some (.int .i64 m.slot) := kb.cell 3
  have e4 : (w.alloc (.cells #[.int .i64 m.kind, .int .i64 m.fr, .int .i64 m.dst, .int .i64 m.slot, .int .i64 m.bal.rd, .int .i64 m.bal.nd, .int .i64 m.had.rd, .int .i64 m.had.nd, .string m.text] 78)).cell? ⟨w.heap.size, 4, none⟩ = some (.int .i64 m.bal.rd) := kb.cell 4
  have e5 : (w.alloc (.cells #[.int .i64 m.kind, .int .i64 m.fr, .int .i64 m.dst, .int .i64 m.slot, .int .i64 m.bal.rd, .int .i64 m.bal.nd, .int .i64 m.had.rd, .int .i64 m.had.nd, .string m.text] 78)).cell? ⟨w.heap.size, 5, none⟩ = some (.int .i64 m.bal.nd) := kb.cell 5
  have e6 : (w.alloc (.cells #[.int .i64 m.kind, .int .i64 m.fr, .int .i64 m.dst, .int .i64 m.slot, .int .i64 m.bal.rd, .int .i64 m.bal.nd, .int .i64 m.had.rd, .int .i64 m.had.nd, .string m.text] 78)).cell? ⟨w.heap.size, 6, none⟩ = some (.int .i64 m.had.rd) := kb.cell 6
  have e7 : (w.alloc (.cells #[.int .i64 m.kind, .int .i64 m.fr, .int .i64 m.dst, .int .i64 m.slot, .int .i64 m.bal.rd, .int .i64 m.bal.nd, .int .i64 m.had.rd, .int .i64 m.had.nd, .string m.text] 78)).cell? ⟨w.heap.size, 7, none⟩ = some (.int .i64 m.had.nd) := kb.cell 7
  have e8 : (w.alloc (.cells #[.int .i64 m.kind, .int .i64 m.fr, .int .i64 m.dst, .int .i64 m.slot, .int .i64 m.bal.rd, .int .i64 m.bal.nd, .int .i64 m.had.rd, .int .i64 m.had.nd, .string m.text] 78)).cell? ⟨w.heap.size, 8, none⟩ = some (.string m.text) := kb.cell 8
  have hgd := guardBal
  obtain ⟨z1, z2, z3, z4, z5⟩ := hz d hd
  have z1 : (a.z i s).asks = d.acc := z1
  have z2 : (a.z i s).bal = d.bal := z2
  have z3 : (a.z i s).own = d.text := z3
  have z4 : (a.z i s).n = d.ans.length := z4
  have z5 : OwnS S (w.alloc (.cells #[.int .i64 m.kind, .int .i64 m.fr, .int .i64 m.dst, .int .i64 m.slot, .int .i64 m.bal.rd, .int .i64 m.bal.nd, .int .i64 m.had.rd, .int .i64 m.had.nd, .string m.text] 78)) 118 4 (.slice (a.z i s).A (a.z i s).n (a.z i s).c) (a.z i s).n (acells d.acc d.ans) := z5
  rw [z4] at z5 s14
  rw [hd] at s9
  have s9 : (w.alloc (.cells #[.int .i64 m.kind, .int .i64 m.fr, .int .i64 m.dst, .int .i64 m.slot, .int .i64 m.bal.rd, .int .i64 m.bal.nd, .int .i64 m.had.rd, .int .i64 m.had.nd, .string m.text] 78)).cell? ⟨b, q * 15 + 9, none⟩ = some (.bool true) := s9
  rw [z1] at s10
  rw [z2] at s11 s12
  rw [z3] at s13
  have hnq : ∀ W', (binOp .neq 35 (.agg #[.int .i64 d.bal.rd, .int .i64 d.bal.nd]) (.agg #[.int .i64 m.bal.rd, .int .i64 m.bal.nd])).run Try.prog W' = .ok (.bool false) W' := fun W' => by rw [run_neqBal, decide_eq_true h2]; rfl
  have hl : (d.ans.length : Int) ≤ 1000 := by omega
  have hln9 : (d.ans.length : Int) ≤ 9 := by omega
  have hans0 : ∀ n, Calls Try.prog 76 #[.pointer (some ⟨b, q * 15, none⟩), .int .i64 m.fr] ((w.alloc (.cells #[.int .i64 m.kind, .int .i64 m.fr, .int .i64 m.dst, .int .i64 m.slot, .int .i64 m.bal.rd, .int .i64 m.bal.nd, .int .i64 m.had.rd, .int .i64 m.had.nd, .string m.text] 78)).drewN n) fun e w' => e = .returned (.bool false) ∧ w' = (w.alloc (.cells #[.int .i64 m.kind, .int .i64 m.fr, .int .i64 m.dst, .int .i64 m.slot, .int .i64 m.bal.rd, .int .i64 m.bal.nd, .int .i64 m.had.rd, .int .i64 m.had.nd, .string m.text] 78)).drewN n := fun n => by
    have := ranswered_any (w := (w.alloc (.cells #[.int .i64 m.kind, .int .i64 m.fr, .int .i64 m.dst, .int .i64 m.slot, .int .i64 m.bal.rd, .int .i64 m.bal.nd, .int .i64 m.had.rd, .int .i64 m.had.nd, .string m.text] 78)).drewN n) (S := S) m.fr b (q * 15) (c := (a.z i s).c) (acc := d.acc) (l := d.ans) s14 ((OwnS.keepB z5 (fun _ => id) fun b _ => rfl)) hl
    rw [hag] at this
    exact this
  have hans := hid hans0
  rw [h1] at s10
  have hl2 : Hid (d2.ans.length = d.ans.length + 1) := hid (by rw [hd2]; exact setA_len hag)
  have hcells : Hid (acells false d.ans ++ [.int .i64 m.fr, .int .i64 m.had.rd, .int .i64 m.had.nd, .string m.text] = acells d2.acc d2.ans) := hid (by
    rw [hd2]
    show _ = acells d.acc (setA m.fr ⟨m.had, m.text⟩ d.ans)
    rw [h1, setA_fresh (getA_none hag)]
    unfold acells
    rw [List.flatMap_append]
    congr 1)
  rw [h1] at z5
  have hkb := hid (show ∀ k, Blk ((w.alloc (.cells #[.int .i64 m.kind, .int .i64 m.fr, .int .i64 m.dst, .int .i64 m.slot, .int .i64 m.bal.rd, .int .i64 m.bal.nd, .int .i64 m.had.rd, .int .i64 m.had.nd, .string m.text] 78)).drewN k) w.heap.size 78 #[.int .i64 m.kind, .int .i64 m.fr, .int .i64 m.dst, .int .i64 m.slot, .int .i64 m.bal.rd, .int .i64 m.bal.nd, .int .i64 m.had.rd, .int .i64 m.had.nd, .string m.text] from fun k => kb)
  have hqq := hid (show ∀ k, RIn S ((w.alloc (.cells #[.int .i64 m.kind, .int .i64 m.fr, .int .i64 m.dst, .int .i64 m.slot, .int .i64 m.bal.rd, .int .i64 m.bal.nd, .int .i64 m.had.rd, .int .i64 m.had.nd, .string m.text] 78)).drewN k) r An cn Am cm G a from fun k => q1.below (below_drewN (Below.refl _ _) k))
  have hz5 := hid (show ∀ k, OwnS S ((w.alloc (.cells #[.int .i64 m.kind, .int .i64 m.fr, .int .i64 m.dst, .int .i64 m.slot, .int .i64 m.bal.rd, .int .i64 m.bal.nd, .int .i64 m.had.rd, .int .i64 m.had.nd, .string m.text] 78)).drewN k) 118 4 (.slice (a.z i s).A d.ans.length (a.z i s).c) d.ans.length (acells false d.ans) from fun k => OwnS.keepB z5 (fun _ => id) fun b _ => rfl)
  have hfz : ∀ j, (w.alloc (.cells #[.int .i64 m.kind, .int .i64 m.fr, .int .i64 m.dst, .int .i64 m.slot, .int .i64 m.bal.rd, .int .i64 m.bal.nd, .int .i64 m.had.rd, .int .i64 m.had.nd, .string m.text] 78)).frozen? ⟨b, j, none⟩ = false := fun j => by
    obtain ⟨cs, hk⟩ := hbk
    exact hk.frozen j
  have hD := hid (show x.bid = some d ∧ d2.bal = d.bal ∧ d2.text = d.text ∧ d2.acc = d.acc ∧ (a.z i s).asks = d.acc ∧ (a.z i s).bal = d.bal ∧ (a.z i s).own = d.text from ⟨hd, by rw [hd2], by rw [hd2], by rw [hd2], z1, z2, z3⟩)
  have hbE : Hid ((Value.slice (a.z i s).A d.ans.length (a.z i s).c).ownBlock = (a.z i s).blk) := hid (by unfold Rj.blk; rw [z4])
  have hHO := hid (q1.nd i hi).2.2.2
  have hDA : Hid (d.acc = false) := hid h1
  have hI := hid hi; have hQ := hid hq; have hBB := hid hb
  have hzw : Hid ((w.alloc (.cells #[.int .i64 m.kind, .int .i64 m.fr, .int .i64 m.dst, .int .i64 m.slot, .int .i64 m.bal.rd, .int .i64 m.bal.nd, .int .i64 m.had.rd, .int .i64 m.had.nd, .string m.text] 78)).heap.size = w.heap.size + 1) := hid (by simp)
  obtain ⟨im, him, hm0, hm1, hm2⟩ := info_parts info_rans
  clear hz hd z1 z2 z3 z4 z5 q1 kb hc0 hbk hq hd2 h1 h2 hag hans0 hb hi
  go_enter Try.func69, Try.ntmps69
  go_upto_region 1 with fail
  generalize (w.alloc (.cells #[.int .i64 m.kind, .int .i64 m.fr, .int .i64 m.dst, .int .i64 m.slot, .int .i64 m.bal.rd, .int .i64 m.bal.nd, .int .i64 m.had.rd, .int .i64 m.had.nd, .string m.text] 78)) = W1 at *
  go_quiet ((go_at_call 76; exact Calls.quiet_of_same (hans.out _)))
  have f14 : (W1.drewN nq).cell? ⟨b, q * 15 + 14, none⟩ = some (.slice (a.z i s).A d.ans.length (a.z i s).c) := s14
  have f0 : (W1.drewN nq).cell? ⟨w.heap.size, 0, none⟩ = some (.int .i64 m.kind) := e0
  have f1 : (W1.drewN nq).cell? ⟨w.heap.size, 1, none⟩ = some (.int .i64 m.fr) := e1
  have f2 : (W1.drewN nq).cell? ⟨w.heap.size, 2, none⟩ = some (.int .i64 m.dst) := e2
  have f3 : (W1.drewN nq).cell? ⟨w.heap.size, 3, none⟩ = some (.int .i64 m.slot) := e3
  have f4 : (W1.drewN nq).cell? ⟨w.heap.size, 4, none⟩ = some (.int .i64 m.bal.rd) := e4
  have f5 : (W1.drewN nq).cell? ⟨w.heap.size, 5, none⟩ = some (.int .i64 m.bal.nd) := e5
  have f6 : (W1.drewN nq).cell? ⟨w.heap.size, 6, none⟩ = some (.int .i64 m.had.rd) := e6
  have f7 : (W1.drewN nq).cell? ⟨w.heap.size, 7, none⟩ = some (.int .i64 m.had.nd) := e7
  have f8 : (W1.drewN nq).cell? ⟨w.heap.size, 8, none⟩ = some (.string m.text) := e8
  have fz : ∀ j, (W1.drewN nq).frozen? ⟨b, j, none⟩ = false := hfz
  have hqq' := hid (hqq.out nq); have hz5' := hid (hz5.out nq); have hkb' := hid (hkb.out nq)
  clear hqq hz5 hkb
  have hqq := hqq'; have hz5 := hz5'; have hkb := hkb'
  clear hqq' hz5' hkb'
  have hzw' : Hid ((W1.drewN nq).heap.size = w.heap.size + 1) := hzw
  clear hzw
  have hzw := hzw'
  clear hzw'
  have hB2 := hid (below_drewN hB.out nq)
  clear s9 s10 s11 s12 s13 s14 e0 e1 e2 e3 e4 e5 e6 e7 e8 hfz hans hB hnq hgd
  generalize W1.drewN nq = W2 at *
  have fa : (W2.alloc (.cells #[.int .i64 m.fr, .int .i64 m.had.rd, .int .i64 m.had.nd, .string m.text] 118)).cell? ⟨b, q * 15 + 14, none⟩ = some (.slice (a.z i s).A d.ans.length (a.z i s).c) := (World.cell?_of_block (w := W2) (a := ⟨b, q * 15 + 14, none⟩) ((((Below.refl W2.heap.size W2).alloc (Nat.le_refl _) _)).block b (by rw [hzw.out]; have := hSlt b hSb; omega))).trans f14
  have hrow0 := hz5.out.1
  have hne : Hid ((∃ cs, Blk W2 b 103 cs) ∧ ¬ (a.z i s).blk = some b) := hid (by
    obtain ⟨b', hb', _, _, ⟨cs, hk⟩, _⟩ := hqq.out.seg hI.out hQ.out
    rw [hBB.out] at hb'
    injection hb' with hb'
    injection hb' with hb'
    subst hb'
    refine ⟨⟨cs, hk⟩, fun hm => ?_⟩
    rw [← hbE.out] at hm
    obtain ⟨⟨cs', hb2⟩, _⟩ := own_blk hz5.out hm
    exact hk.ne_ hb2 (by decide) rfl)
  go_wp2_with fail
  have hfin : Hid (∀ A2 c2' w2, w2.ownsRow 0 118 4 (.slice A2 (d.ans.length + 1) c2') (d.ans.length + 1) (acells false d.ans ++ [.int .i64 m.fr, .int .i64 m.had.rd, .int .i64 m.had.nd, .string m.text]) → Upd (fun k => (a.z i s).blk = some k) W2 w2 → ((Value.slice A2 (d.ans.length + 1) c2').ownBlock = (Value.slice (a.z i s).A d.ans.length (a.z i s).c).ownBlock ∨ (Value.slice A2 (d.ans.length + 1) c2').ownBlock = some (W2.heap.size + 1)) → RAns S W2 r An cn Am cm (G.setSl i s { x with bid := some d2 }) i b (w2.setCell ⟨b, q * 15 + 14, none⟩ (.slice A2 (d.ans.length + 1) c2'))) := hid (fun A2 c2' w2 hown2 hu2 hat2 => by
    have HG := hqq.out.answer (d2 := d2) (c2 := c2') (A2 := A2) hI.out hQ.out hBB.out hD.out hu2 (by rw [hl2.out, ← hcells.out]; exact hown2) (fun k hk => by
      rw [hl2.out] at hk
      rcases hat2 with h | h
      · exact .inl (by rw [h, hbE.out] at hk; exact hk)
      · rw [h] at hk; injection hk with hk; exact .inr (by omega))
    rw [hl2.out] at HG
    refine ⟨_, _, HG, hBB.out, fun k hk => hk.imp id (·.1), (hu2.mono (M' := S) fun k _ h => ?_).setCell (p := ⟨b, q * 15 + 14, none⟩) (fun _ => ?_) _⟩
    · rw [← hbE.out] at h
      exact (own_blk hz5.out h).2
    · exact hSb)
  go_cut [] (fun wx => RAns S W2 r An cn Am cm (G.setSl i s { x with bid := some d2 }) i b wx)
  case first =>
    go_region_law
      (refine step_append_rd _ rfl (.tmp 38) (.tmp 46) 101 rfl 0 118 im _ 4 40 Try.underlying101 him hm0 hm1 hm2 rfl (by omega) (.slice (a.z i s).A d.ans.length (a.z i s).c) d.ans.length (acells false d.ans) rfl ?_ (fun b => b = W2.heap.size) (some ⟨W2.heap.size, 0, none⟩) 1 1 [.int .i64 m.fr, .int .i64 m.had.rd, .int .i64 m.had.nd, .string m.text] rfl ?_ ?_ ?_ ?_ ?_ (d.ans.length + 1) rfl (acells false d.ans ++ [.int .i64 m.fr, .int .i64 m.had.rd, .int .i64 m.had.nd, .string m.text]) rfl ?_
       go_must (
         · exact (hrow0.alloc _).drew
         · exact (Rd.new W2 118 4 1 #[.int .i64 m.fr, .int .i64 m.had.rd, .int .i64 m.had.nd, .string m.text] _ rfl rfl).drew
         · simp [Value.oneCell']
         · simp only [maxLen]; omega
         · omega
         · exact Nat.zero_le _
         intro A2 c2' w2 hown2 hg2 hat2
         have hu2 : Upd (fun k => (a.z i s).blk = some k) W2 w2 := (((Upd.refl _ W2).alloc _).drew).grown hg2 fun k hk _ => hbE.out ▸ hk
         have hk2 : w2.cell? ⟨b, q * 15 + 14, none⟩ = some (.slice (a.z i s).A d.ans.length (a.z i s).c) := hu2.cell f14 hne.out.2
         have hf2 : ∀ j, w2.frozen? ⟨b, j, none⟩ = false := fun j => by
           obtain ⟨cs, hk⟩ := hne.out.1
           exact (hk.upd hu2 hne.out.2).frozen j
         have hfin2 := hid (hfin.out A2 c2' w2 hown2 hu2 (hat2.imp id (fun h => h.trans (by simp))))
         clear hu2 hg2 hat2 hown2))
    all_goals
      go_wp2_with fail
      go_meet
      exact hfin2.out
  case rest =>
    obtain ⟨S3, a3, q3, hb3, hS3, hu3⟩ := hcut
    have hL : (G.setSl i s { x with bid := some d2 }).nds.length = G.nds.length := Gr.len_set _ _ _
    have hi3 : i < (G.setSl i s { x with bid := some d2 }).nds.length := by rw [hL]; exact hI.out
    have hq3 : ((G.setSl i s { x with bid := some d2 }).nd i).sl[q]? = some (s, { x with bid := some d2 }) := Gr.set_at hI.out (hqq.out.nd i hI.out).2.2.2 hQ.out
    have hz3 := q3.ans i hi3 _ (List.mem_of_getElem? hq3) d2 rfl
    obtain ⟨b', hb', hbl3, hSb3, hbk3, hc3⟩ := q3.seg hi3 hq3
    rw [hb3] at hb'
    injection hb' with hb'
    injection hb' with hb'
    subst hb'
    have g14 : wc.cell? ⟨b, q * 15 + 14, none⟩ = some (.slice (a3.z i s).A (a3.z i s).n (a3.z i s).c) := hc3 14 (by omega)
    have hn3 : (a3.z i s).n = d.ans.length + 1 := hz3.2.2.2.1.trans hl2.out
    rw [hn3] at g14
    have hmj0 : ∀ n, Calls Try.prog 72 #[.pointer (some ⟨r, 0, none⟩)] (wc.drewN n) fun e w' => e = .returned (.int .i64 ((G.nds.length : Int) / 2 + 1)) ∧ w' = wc.drewN n := fun n => by
      have := majority_any (q3.below (below_drewN (Below.refl _ _) n)) (by rw [hL]; exact hN)
      rwa [hL] at this
    have hmj := hid hmj0
    have HZ3 := hid hz3; have hb3' := hid hb3; have Q3 := hid q3; have HC3 := hid hc3; have HBK := hid hbk3; have HU3 := hid hu3
    clear hz3 hq3 hi3 hc3 hn3 hmj0 q3 f0 f1 f2 f3 f4 f5 f6 f7 f8 f14 fz fa hrow0 hb3 hbk3 hu3
    go_upto_region 3 with fail
    by_cases hf2 : d2.ans.length < G.nds.length / 2 + 1
    · have tt : decide ((d.ans.length : Int) + 1 < (G.nds.length : Int) / 2 + 1) = true := decide_eq_true (by have := hl2.out; omega)
      have tt2 : decide ((d.ans.length : Int) < (G.nds.length : Int) / 2) = true := decide_eq_true (by have := hl2.out; omega)
      have tt3 : (d.ans.length : Int) < (G.nds.length : Int) / 2 := (by have := hl2.out; omega)
      have hff : Hid (∀ a b : Gr, (if d2.ans.length < G.nds.length / 2 + 1 then a else b) = a) := hid (fun _ _ => if_pos hf2)
      clear hf2 hL
      go_quiet ((go_at_call 72; exact Calls.quiet_of_same (hmj.out _)))
      go_wp2_with fail
      refine bodyPost_ret (v := .tuple #[]) (by simp [results, Try.results69, go_sem]) rfl ?_
      have hzz := hzw.out
      refine ⟨rfl, ?_⟩
      unfold Gr.rwon
      rw [hff.out]
      refine ⟨S3, ⟨_, _, _, _, a3, Q3.out.below (below_drewN (Below.refl _ _) _)⟩, fun k hk => ?_, ((Upd.of_below' hB2.out S).trans HU3.out fun _ _ h => h).drewN _⟩
      rcases hS3 k hk with h | h
      · exact .inl h
      · exact .inr (by omega)
    · have tt : decide ((d.ans.length : Int) + 1 < (G.nds.length : Int) / 2 + 1) = false := decide_eq_false (by have := hl2.out; omega)
      have tt2 : decide ((d.ans.length : Int) < (G.nds.length : Int) / 2) = false := decide_eq_false (by have := hl2.out; omega)
      have tt3 : (G.nds.length : Int) / 2 ≤ (d.ans.length : Int) := (by have := hl2.out; omega)
      have hff : Hid (∀ a b : Gr, (if d2.ans.length < G.nds.length / 2 + 1 then a else b) = b) := hid (fun _ _ => if_neg hf2)
      have hLL := hid hL
      clear hf2 hL
      go_quiet ((go_at_call 72; exact Calls.quiet_of_same (hmj.out _)))
      have q4 := hid (Q3.out.below (below_drewN (Below.refl _ _) nq))
      have hb4 : Hid (a3.lA i = some ⟨b, 0, none⟩) := hb3'
      have hkb4 : Hid (Blk (wc.drewN nq) w.heap.size 78 #[.int .i64 m.kind, .int .i64 m.fr, .int .i64 m.dst, .int .i64 m.slot, .int .i64 m.bal.rd, .int .i64 m.bal.nd, .int .i64 m.had.rd, .int .i64 m.had.nd, .string m.text]) := hid (hkb.out.upd (HU3.out.drewN nq) fun h => absurd (hSlt _ h) (Nat.lt_irrefl _))
      have hu4 : Hid (Upd S w (wc.drewN nq)) := hid (((Upd.of_below' hB2.out S).trans HU3.out fun _ _ h => h).drewN _)
      have hS4 : Hid (∀ k, S3 k → S k ∨ w.heap.size + 1 ≤ k) := hid (fun k hk => by have h1 := hS3 k hk; rwa [hzw.out] at h1)
      have hi4 : Hid (i < (G.setSl i s { x with bid := some d2 }).nds.length) := hid (by rw [hLL.out]; exact hI.out)
      have hq4 : Hid (((G.setSl i s { x with bid := some d2 }).nd i).sl[q]? = some (s, { x with bid := some d2 })) := hid (Gr.set_at hI.out (hqq.out.nd i hI.out).2.2.2 hQ.out)
      clear hzw hqq hz5 hkb HU3 hB2 Q3 hmj g14 hfin HC3 HBK tt tt2 tt3
      generalize wc.drewN nq = w4 at *

      have hkz : Hid (Blk (w4.alloc (.cells #[.int .i64 0, .int .i64 0] 35)) w4.heap.size 35 #[.int .i64 (bstOf d2 0).bal.rd, .int .i64 (bstOf d2 0).bal.nd]) := hid (Blk.new w4 35 #[.int .i64 0, .int .i64 0])
      have hbz : Below w4.heap.size w4 (w4.alloc (.cells #[.int .i64 0, .int .i64 0] 35)) := (Below.refl _ _).alloc (Nat.le_refl _) _
      have hS3l : Hid (∀ k, S3 k → k < w4.heap.size) := hid q4.out.lt
      have hwl : Hid (w.heap.size < w4.heap.size) := hid hkb4.out.lt
      have hd2a : Hid (d2.acc = false) := hid (hD.out.2.2.2.1.trans hDA.out)
      have L0 : RLp S S3 w r An cn Am cm G i s b w4.heap.size m x d2 0 (w4.alloc (.cells #[.int .i64 0, .int .i64 0] 35)) := ⟨⟨_, q4.out.below hbz, hb4.out⟩, hkz.out, hkb4.out.below_all hbz, hu4.out.trans (Upd.of_below' hbz _) fun _ _ h => h⟩
      have hfr : Hid (∀ j, w4.frozen? ⟨w4.heap.size, j, none⟩ = w4.frozen? ⟨w4.heap.size, j, none⟩) := hid fun _ => rfl
      go_upto_region 5 with fail
      have hxe : ∃ W5, W5 = w4.alloc (.cells #[.int .i64 0, .int .i64 0] 35) := ⟨_, rfl⟩
      generalize w4.alloc (.cells #[.int .i64 0, .int .i64 0] 35) = W5 at *
      generalize hzb : w4.heap.size = zb at *
      clear hzb hxe hfr hbz hkz hkb4 hu4 hb4
      go_wp2_with fail
      go_loopw [7] (fun v wr => ∃ k : Nat, v = .int .i64 k ∧ k ≤ d2.ans.length ∧ RLp S S3 w r An cn Am cm G i s b zb m x d2 k wr) (fun v _ => d2.ans.length - (intOf v).toNat)
      case atStart => exact ⟨0, rfl, Nat.zero_le _, L0⟩
      case round =>
        clear L0
        obtain ⟨k, rfl, hk, L⟩ := hrel
        obtain ⟨z, hz, hc, ⟨cs, hbk⟩, hSb3, hbl3⟩ := L.sl.cells hI.out hHO.out hQ.out
        obtain ⟨y1, y2, y3, y4, y5⟩ := hz _ rfl
        have hf15 := hid (hc)
        have ff : ∀ j, wr.frozen? ⟨b, j, none⟩ = false := fun j => hbk.frozen j
        have fzz : ∀ j, wr.frozen? ⟨zb, j, none⟩ = false := fun j => L.kz.frozen j
        have g14 : wr.cell? ⟨b, q * 15 + 14, none⟩ = some (.slice z.A z.n z.c) := hc 14 (by omega)
        have y4 : z.n = d2.ans.length := y4
        have y5 : OwnS S3 wr 118 4 (.slice z.A z.n z.c) z.n (acells d2.acc d2.ans) := y5
        rw [y4] at g14 y5
        rw [hd2a.out] at y5
        have LL := hid L
        by_cases hlt : k < d2.ans.length
        · have hlt' : (k : Int) < (d2.ans.length : Int) := by omega
          obtain ⟨b2, hA2, hb2l, hSb2, ⟨cs2, hbk2⟩, hcA⟩ := ans_at y5 hlt
          rw [hA2] at g14
          have v1 : wr.cell? ⟨b2, k * 4 + 1, none⟩ = some (.int .i64 (d2.ans[k]).2.bal.rd) := hcA 1 (by omega)
          have v2 : wr.cell? ⟨b2, k * 4 + 2, none⟩ = some (.int .i64 (d2.ans[k]).2.bal.nd) := hcA 2 (by omega)
          have v3 : wr.cell? ⟨b2, k * 4 + 3, none⟩ = some (.string (d2.ans[k]).2.text) := hcA 3 (by omega)
          have hnx : Hid (bstOf d2 (k + 1) = (if 0 < (d2.ans[k]).2.bal.rd ∧ Bal.lt (bstOf d2 k).bal (d2.ans[k]).2.bal then (d2.ans[k]).2 else bstOf d2 k)) := hid (bstOf_succ hlt)
          have hk10 : (d2.ans.length : Int) ≤ 10 := by have := hl2.out; omega
          clear L hz hc hbk y1 y2 y3 y4 y5 hcA hbk2
          generalize (d2.ans[k]).2 = v at *
          have hz3 := hS3l.out
          have nb1 : b ≠ zb := fun e => by have := hz3 b hSb3; omega
          have nb2 : b2 ≠ zb := fun e => by have := hz3 b2 hSb2; omega
          have nm : w.heap.size ≠ zb := fun e => by have := hwl.out; omega
          have nmb : w.heap.size ≠ b := fun e => by have := hSlt b hSb; omega
          have u0 : wr.cell? ⟨zb, 0, none⟩ = some (.int .i64 (bstOf d2 k).bal.rd) := LL.out.kz.cell 0
          have u1 : wr.cell? ⟨zb, 1, none⟩ = some (.int .i64 (bstOf d2 k).bal.nd) := LL.out.kz.cell 1
          have hstay : Hid (∀ wb, Below wr.heap.size wr wb → bstOf d2 (k + 1) = bstOf d2 k → RLp S S3 w r An cn Am cm G i s b zb m x d2 (k + 1) wb) := hid (fun wb hb e => by
            have l1 := LL.out
            refine ⟨?_, ?_, l1.kb.below_all hb, l1.up.trans (Upd.of_below' hb _) fun _ _ h => h⟩
            · rw [e]; exact l1.sl.far (M := Nil) (.of_below' hb _) fun _ _ => id
            · rw [e]; exact l1.kz.below_all hb)
          have hmove : Hid (∀ wb, Below wr.heap.size wr wb → bstOf d2 (k + 1) = v → RLp S S3 w r An cn Am cm G i s b zb m x d2 (k + 1) (((wb.setCell ⟨zb, 0, none⟩ (.int .i64 v.bal.rd)).setCell ⟨zb, 1, none⟩ (.int .i64 v.bal.nd)).setCell ⟨b, q * 15 + 13, none⟩ (.string v.text))) := hid (fun wb hb e => by
            have l1 := LL.out
            have s1 := l1.sl.far (M := Nil) (.of_below' hb _) fun _ _ => id
            have s2 := s1.far (M := fun k => k = zb) (((Upd.refl (fun k => k = zb) wb).setCell (p := ⟨zb, 0, none⟩) (fun _ => rfl) (.int .i64 v.bal.rd)).setCell (p := ⟨zb, 1, none⟩) (fun _ => rfl) (.int .i64 v.bal.nd)) fun k hk e => by have := hz3 k hk; omega
            have kz := ((l1.kz.below_all hb).set_ 0 (.int .i64 v.bal.rd)).set_ 1 (.int .i64 v.bal.nd)
            have kb := (l1.kb.below_all hb).upd (((Upd.refl (fun k => k = zb) wb).setCell (p := ⟨zb, 0, none⟩) (fun _ => rfl) (.int .i64 v.bal.rd)).setCell (p := ⟨zb, 1, none⟩) (fun _ => rfl) (.int .i64 v.bal.nd)) nm
            have up := ((l1.up.trans (Upd.of_below' hb _) fun _ _ h => h).setCell (p := ⟨zb, 0, none⟩) (fun h => by have := hwl.out; have h : zb < w.heap.size := h; omega) (.int .i64 v.bal.rd)).setCell (p := ⟨zb, 1, none⟩) (fun h => by have := hwl.out; have h : zb < w.heap.size := h; omega) (.int .i64 v.bal.nd)
            generalize (wb.setCell ⟨zb, 0, none⟩ (.int .i64 v.bal.rd)).setCell ⟨zb, 1, none⟩ (.int .i64 v.bal.nd) = wd at *
            have hu : Upd (fun k => k = b) wd (wd.setCell ⟨b, q * 15 + 13, none⟩ (.string v.text)) := (Upd.refl (fun k => k = b) wd).setCell (p := ⟨b, q * 15 + 13, none⟩) (fun _ => rfl) _
            refine ⟨?_, ?_, kb.upd hu nmb, up.setCell (p := ⟨b, q * 15 + 13, none⟩) (fun _ => hSb) _⟩
            · rw [e]
              refine s2.put hI.out hHO.out hQ.out hu (by simp) fun z hz => ⟨{ z with own := v.text }, fun A B n c hr hA => ?_, fun d hd => ?_, fun _ k hk => ⟨rfl, hk⟩⟩
              · have h1 := own_seg (f := 13) hr hA (by simp [rcells]) (.string v.text)
                exact h1
              · injection hd with hd
                subst hd
                obtain ⟨y1, y2, y3, y4, y5⟩ := hz _ rfl
                exact ⟨y1, y2, rfl, y4, y5⟩
            · rw [e]
              exact kz.upd hu fun e => nb1 e.symm)
          by_cases hp : 0 < v.bal.rd
          · have t1 : decide (0 < v.bal.rd) = true := decide_eq_true hp
            have hkeep : Hid (∀ w' : World, Below wr.heap.size wr w' → w'.cell? ⟨b, q * 15 + 14, none⟩ = some (.slice (some ⟨b2, 0, none⟩) d2.ans.length z.c) ∧ w'.cell? ⟨b2, k * 4 + 1, none⟩ = some (.int .i64 v.bal.rd) ∧ w'.cell? ⟨b2, k * 4 + 2, none⟩ = some (.int .i64 v.bal.nd) ∧ w'.cell? ⟨zb, 0, none⟩ = some (.int .i64 (bstOf d2 k).bal.rd) ∧ w'.cell? ⟨zb, 1, none⟩ = some (.int .i64 (bstOf d2 k).bal.nd)) := hid fun w' h => by
              have c1 := fun (bb o : Nat) (hl : bb < wr.heap.size) => World.cell?_of_block (w := wr) (a := (⟨bb, o, none⟩ : Addr)) (h.block bb hl)
              exact ⟨(c1 _ _ hbl3).trans g14, (c1 _ _ hb2l).trans v1, (c1 _ _ hb2l).trans v2, (c1 _ _ LL.out.kz.lt).trans u0, (c1 _ _ LL.out.kz.lt).trans u1⟩
            have hmore : Hid (∀ w' : World, Below wr.heap.size wr w' → (w'.cell? ⟨b2, k * 4 + 3, none⟩ = some (.string v.text) ∧ ∃ u, w'.cell? ⟨b, q * 15 + 13, none⟩ = some (.string u)) ∧ (∀ j, w'.frozen? ⟨b, j, none⟩ = false) ∧ (∀ j, w'.frozen? ⟨zb, j, none⟩ = false)) := hid fun w' h => by
              obtain ⟨z', hz', hc', ⟨cs', hbk'⟩, _⟩ := LL.out.sl.cells hI.out hHO.out hQ.out
              have c1 := fun (bb o : Nat) (hl : bb < wr.heap.size) => World.cell?_of_block (w := wr) (a := (⟨bb, o, none⟩ : Addr)) (h.block bb hl)
              exact ⟨⟨(c1 _ _ hb2l).trans v3, _, (c1 _ _ hbl3).trans (hc' 13 (by omega))⟩, fun j => (hbk'.below_all h).frozen j, fun j => (LL.out.kz.below_all h).frozen j⟩
            have hbX : Hid (Below wr.heap.size wr wr.drew) := hid (Below.refl _ _).drew
            clear LL hf15 hz3
            by_cases hgt : Bal.lt (bstOf d2 k).bal v.bal
            · have hE : Hid (bstOf d2 (k + 1) = v) := hid (by rw [hnx.out]; exact if_pos ⟨hp, hgt⟩)
              have t3 : decide (Bal.lt (bstOf d2 k).bal v.bal) = true := decide_eq_true hgt
              clear hgt hnx ff fzz
              go_wp2_with fail
              go_region_held3 (fun w' => w'.cell? ⟨b, q * 15 + 14, none⟩ = some (.slice (some ⟨b2, 0, none⟩) d2.ans.length z.c) ∧ w'.cell? ⟨b2, k * 4 + 1, none⟩ = some (.int .i64 v.bal.rd) ∧ w'.cell? ⟨b2, k * 4 + 2, none⟩ = some (.int .i64 v.bal.nd) ∧ w'.cell? ⟨zb, 0, none⟩ = some (.int .i64 (bstOf d2 k).bal.rd) ∧ w'.cell? ⟨zb, 1, none⟩ = some (.int .i64 (bstOf d2 k).bal.nd)) (first | exact hkeep.out _ hbX.out | exact hkeep.out _ (Below.refl _ _) | exact hkeep.out _ (Below.refl _ _).drew) ((go_at_call 22; refine (below_any (bstOf d2 k).bal v.bal _).mono ?_; rintro e wb ⟨rfl, hbb⟩; have hbX := hid (hbX.out.trans (hbb.mono hbX.out.size)); clear hbb))
              obtain ⟨m14, m1, m2, _, _⟩ := hkeep.out _ hbX.out
              obtain ⟨⟨m3, u13, m13⟩, ff, fzz⟩ := hmore.out _ hbX.out
              have hnew := hid (hmove.out wb hbX.out hE.out)
              go_wp2_with fail
              go_roundw
              case rel => exact ⟨k + 1, by go_num, hlt, hnew.out⟩
              case measure => simp [intOf]; omega
            · have hE : Hid (bstOf d2 (k + 1) = bstOf d2 k) := hid (by rw [hnx.out]; exact if_neg fun h => hgt h.2)
              have t3 : decide (Bal.lt (bstOf d2 k).bal v.bal) = false := decide_eq_false hgt
              clear hgt hnx ff fzz
              go_wp2_with fail
              go_region_held3 (fun w' => w'.cell? ⟨b, q * 15 + 14, none⟩ = some (.slice (some ⟨b2, 0, none⟩) d2.ans.length z.c) ∧ w'.cell? ⟨b2, k * 4 + 1, none⟩ = some (.int .i64 v.bal.rd) ∧ w'.cell? ⟨b2, k * 4 + 2, none⟩ = some (.int .i64 v.bal.nd) ∧ w'.cell? ⟨zb, 0, none⟩ = some (.int .i64 (bstOf d2 k).bal.rd) ∧ w'.cell? ⟨zb, 1, none⟩ = some (.int .i64 (bstOf d2 k).bal.nd)) (first | exact hkeep.out _ hbX.out | exact hkeep.out _ (Below.refl _ _) | exact hkeep.out _ (Below.refl _ _).drew) ((go_at_call 22; refine (below_any (bstOf d2 k).bal v.bal _).mono ?_; rintro e wb ⟨rfl, hbb⟩; have hbX := hid (hbX.out.trans (hbb.mono hbX.out.size)); clear hbb))
              have hnew := hid (hstay.out wb hbX.out hE.out)
              go_wp2_with fail
              go_roundw
              case rel => exact ⟨k + 1, by go_num, hlt, hnew.out⟩
              case measure => simp [intOf]; omega
          · have t1 : decide (0 < v.bal.rd) = false := decide_eq_false hp
            have hE : Hid (bstOf d2 (k + 1) = bstOf d2 k) := hid (by rw [hnx.out]; exact if_neg fun h => hp h.1)
            clear LL hf15 hnx hmove hp
            go_wp2_with fail
            go_quiet (fail)
            go_wp2_with fail
            go_roundw
            case rel => exact ⟨k + 1, by go_num, hlt, hstay.out _ (below_drewN (Below.refl _ _) _) hE.out⟩
            case measure => simp [intOf]; omega
        · obtain rfl : k = d2.ans.length := by omega
          have g10 : wr.cell? ⟨b, q * 15 + 10, none⟩ = some (.bool z.asks) := hc 10 (by omega)
          have nmb : w.heap.size ≠ b := fun e => by have := hSlt b hSb; omega
          have hu5 : Hid (Upd (fun k => k = b) wr ((wr.setCell ⟨b, q * 15 + 10, none⟩ (.bool true)).setCell ⟨b, q * 15 + 14, none⟩ (.slice none 0 0))) := hid (((Upd.refl (fun k => k = b) wr).setCell (p := ⟨b, q * 15 + 10, none⟩) (fun _ => rfl) _).setCell (p := ⟨b, q * 15 + 14, none⟩) (fun _ => rfl) _)
          have q5 : Hid (RSl S3 ((wr.setCell ⟨b, q * 15 + 10, none⟩ (.bool true)).setCell ⟨b, q * 15 + 14, none⟩ (.slice none 0 0)) r An cn Am cm G i s b { x with bid := some ⟨d2.bal, (bstOf d2 d2.ans.length).text, true, []⟩ }) := hid (LL.out.sl.put hI.out hHO.out hQ.out hu5.out (by simp) fun z hz => ⟨{ z with asks := true, A := none, n := 0, c := 0 }, fun A B n c hr hA => own_seg (f := 14) (own_seg (f := 10) hr hA (by simp [rcells]) (.bool true)) hA (by simp [rcells]) (.slice none 0 0), fun d hd => by
            injection hd with hd
            subst hd
            obtain ⟨y1, y2, y3, y4, y5⟩ := hz _ rfl
            exact ⟨rfl, y2, y3, rfl, ⟨World.ownsRow_nil _ _ _ _, fun b hb => by cases hb⟩⟩, fun _ k hk => by cases hk⟩)
          have hkb5 : Hid (Blk ((wr.setCell ⟨b, q * 15 + 10, none⟩ (.bool true)).setCell ⟨b, q * 15 + 14, none⟩ (.slice none 0 0)) w.heap.size 78 #[.int .i64 m.kind, .int .i64 m.fr, .int .i64 m.dst, .int .i64 m.slot, .int .i64 m.bal.rd, .int .i64 m.bal.nd, .int .i64 m.had.rd, .int .i64 m.had.nd, .string m.text]) := hid (LL.out.kb.upd hu5.out nmb)
          have hu6 : Hid (Upd S w ((wr.setCell ⟨b, q * 15 + 10, none⟩ (.bool true)).setCell ⟨b, q * 15 + 14, none⟩ (.slice none 0 0))) := hid ((LL.out.up.setCell (p := ⟨b, q * 15 + 10, none⟩) (fun _ => hSb) _).setCell (p := ⟨b, q * 15 + 14, none⟩) (fun _ => hSb) _)
          clear L LL hc hz y1 y2 y3 y4 y5 hbk hf15
          go_upto_region 13 with fail
          clear g10 g14 ff fzz hu5
          generalize (wr.setCell ⟨b, q * 15 + 10, none⟩ (.bool true)).setCell ⟨b, q * 15 + 14, none⟩ (.slice none 0 0) = w5 at *
          obtain ⟨z, hz, hc, _, _, _⟩ := q5.out.cells hI.out hHO.out hQ.out
          obtain ⟨y1, y2, y3, _, _⟩ := hz _ rfl
          have y2 : z.bal = d2.bal := y2
          have y3 : z.own = (bstOf d2 d2.ans.length).text := y3
          have k11 : w5.cell? ⟨b, q * 15 + 11, none⟩ = some (.int .i64 z.bal.rd) := hc 11 (by omega)
          have k12 : w5.cell? ⟨b, q * 15 + 12, none⟩ = some (.int .i64 z.bal.nd) := hc 12 (by omega)
          have k13 : w5.cell? ⟨b, q * 15 + 13, none⟩ = some (.string z.own) := hc 13 (by omega)
          rw [y2] at k11 k12
          rw [y3] at k13
          have f2 : w5.cell? ⟨w.heap.size, 2, none⟩ = some (.int .i64 m.dst) := hkb5.out.cell 2
          have f3 : w5.cell? ⟨w.heap.size, 3, none⟩ = some (.int .i64 m.slot) := hkb5.out.cell 3
          clear hc hz y1 y2 y3
          go_still_tail 14, (by kernel_rfl)
          change wpList _ _ _ _ _ w5.drew
          go_wp2_with fail
          have hL5 : (G.setSl i s { x with bid := some ⟨d2.bal, (bstOf d2 d2.ans.length).text, true, []⟩ }).nds.length = G.nds.length := Gr.len_set _ _ _
          refine (rall_any ⟨3, m.dst, 0, m.slot, d2.bal, bal0, (bstOf d2 d2.ans.length).text⟩ (S := S3) (G := G.setSl i s { x with bid := some ⟨d2.bal, (bstOf d2 d2.ans.length).text, true, []⟩ }) (by obtain ⟨a', h', _⟩ := q5.out; exact ⟨_, _, _, _, _, h'.below (Below.refl _ w5).drew⟩) (by rw [hL5]; omega)).mono ?_
          rintro e w6 ⟨rfl, S6, h6, hS6, hu7⟩
          have hfin : Hid (RGo S w r (G.promised i s x m d2 (bstOf d2 d2.ans.length)) w6) := hid ⟨S6, h6, fun k hk => by
            have hz6 := hu6.out.size
            rcases hS6 k hk with h | h
            · exact (hS4.out k h).imp id (by omega)
            · exact .inr (Nat.le_trans hz6 h), hu6.out.trans ((Upd.of_below' (Below.refl _ w5).drew S3).trans hu7 fun _ _ h => h) fun k hk h => by
            rcases hS4.out k h with h | h
            · exact h
            · omega⟩
          clear h6 hS6 hu7 hL5
          go_wp2_with fail
          go_end0
          refine ⟨rfl, ?_⟩
          unfold Gr.rwon
          rw [hff.out]
          exact hfin.out
end

end Go.Proofs.Ytbgopicpdpkccaa

