/- Texts of the proof, joined: GRFew. -/
import Derived.Test.YtbgopicpdpkccaaJ19
import Derived.Test.YtbgopicpdpkccaaJ04
import Derived.Test.YtbgopicpdpkccaaJ10
namespace Go.Proofs.Ytbgopicpdpkccaa
open Go.RowKit
set_option linter.unusedVariables false
set_option linter.unusedSimpArgs false

theorem info_rans : (Try.prog.info? 118).map (fun i => (i.zero, i.size, i.bytes)) = some (some (.agg #[.int .i64 0, .int .i64 0, .int .i64 0, .string ⟨#[]⟩]), 4, 40) := by kernel_rfl
theorem setA_at {s : Int} {x x' : Sl} : ∀ {l : List (Int × Sl)} {q : Nat}, Once l → l[q]? = some (s, x) → (setA s x' l)[q]? = some (s, x') := by
  intro l
  induction l with
  | nil => intro q _ h; cases h
  | cons p l ih =>
    intro q ho h
    unfold Once at ho
    rw [List.map_cons, List.nodup_cons] at ho
    unfold setA
    cases q with
    | zero =>
      simp only [List.getElem?_cons_zero, Option.some.injEq] at h
      subst h
      rw [if_pos rfl]; rfl
    | succ q =>
      have h' : l[q]? = some (s, x) := h
      rw [if_neg fun e => ho.1 (List.mem_map.2 ⟨(s, x), List.mem_of_getElem? h', e⟩)]
      exact ih ho.2 h'
theorem Gr.set_at {G : Gr} {i : Nat} {s : Int} {x x' : Sl} {q : Nat} (hi : i < G.nds.length) (ho : Once (G.nd i).sl) (hq : (G.nd i).sl[q]? = some (s, x)) : ((G.setSl i s x').nd i).sl[q]? = some (s, x') := by
  unfold Gr.setSl
  rw [Gr.nd_set _ _ _ _ hi, if_pos rfl]
  exact setA_at ho hq
section
variable {S : Nat → Prop} {w w' : World} {r : Nat} {An Am : Option Addr} {cn cm : Nat} {G : Gr} {a : Ra}
def Gr.rdone (G : Gr) (i : Nat) (s : Int) (x : Sl) (m : Ml) (d2 : Bd) : Gr := if d2.ans.length < G.nds.length / 2 + 1 then G.setSl i s { x with bid := some d2 } else (G.setSl i s { x with bid := none }).sendAll ⟨5, m.dst, 0, m.slot, d2.bal, bal0, d2.text⟩
def RAns (S : Nat → Prop) (W2 : World) (r : Nat) (An : Option Addr) (cn : Nat) (Am : Option Addr) (cm : Nat) (G2 : Gr) (i b : Nat) (wx : World) : Prop := ∃ S' a', RIn S' wx r An cn Am cm G2 a' ∧ a'.lA i = some ⟨b, 0, none⟩ ∧ (∀ k, S' k → S k ∨ W2.heap.size ≤ k) ∧ Upd S W2 wx
/-- a bid's row is new -/
theorem RIn.answer {x : Sl} {i : Nat} {s : Int} {q b : Nat} {d d2 : Bd} {A2 : Option Addr} {c2 : Nat} {w2 : World} (h : RIn S w r An cn Am cm G a) (hi : i < G.nds.length) (hq : (G.nd i).sl[q]? = some (s, x)) (hb : a.lA i = some ⟨b, 0, none⟩) (hd : x.bid = some d ∧ d2.bal = d.bal ∧ d2.text = d.text ∧ d2.acc = d.acc ∧ (a.z i s).asks = d.acc ∧ (a.z i s).bal = d.bal ∧ (a.z i s).own = d.text)
    (hu1 : Upd (fun k => (a.z i s).blk = some k) w w2) (ho : w2.ownsRow 0 118 4 (.slice A2 d2.ans.length c2) d2.ans.length (acells d2.acc d2.ans)) (hat : ∀ k, (Value.slice A2 d2.ans.length c2).ownBlock = some k → (a.z i s).blk = some k ∨ w.heap.size ≤ k) :
    RIn (fun k => S k ∨ w.heap.size ≤ k ∧ k < w2.heap.size) (w2.setCell ⟨b, q * 15 + 14, none⟩ (.slice A2 d2.ans.length c2)) r An cn Am cm (G.setSl i s { x with bid := some d2 }) (a.setZ i s { a.z i s with A := A2, n := d2.ans.length, c := c2 }) := by
  obtain ⟨hd, e1, e2, e3, e4, e5, e6⟩ := hd
  have hx : x.bid.isSome := by rw [hd]; rfl
  obtain ⟨_, _, _, z4, z5⟩ := h.ans i hi (s, x) (List.mem_of_getElem? hq) d hd
  obtain ⟨b', hb', hbl, hSb, ⟨cs, hbk⟩, _⟩ := h.seg hi hq
  rw [hb] at hb'
  injection hb' with hb'
  injection hb' with hb'
  subst hb'
  have hblk : ∀ k, (a.z i s).blk = some k → (∃ cs, Blk w k 118 cs) ∧ S k := fun k hk => own_blk z5 hk
  have hu2 : Upd (fun k => k = b ∨ (a.z i s).blk = some k) w (w2.setCell ⟨b, q * 15 + 14, none⟩ (.slice A2 d2.ans.length c2)) := (hu1.mono fun k _ h => .inr h).setCell (p := ⟨b, q * 15 + 14, none⟩) (fun _ => .inl rfl) _
  have hz := hu1.size
  have hzz : (w2.setCell ⟨b, q * 15 + 14, none⟩ (.slice A2 d2.ans.length c2)).heap.size = w2.heap.size := by simp
  have hbk2 : Blk w2 b 103 cs := hbk.upd hu1 fun hm => by
    obtain ⟨⟨cs', hb2⟩, _⟩ := hblk b hm
    exact hbk.ne_ hb2 (by decide) rfl
  have hat2 : ∀ k, (Value.slice A2 d2.ans.length c2).ownBlock = some k → S k ∨ w.heap.size ≤ k ∧ k < w2.heap.size := fun k hk => by
    have hlt := (ho.lt k hk).2
    rcases hat k hk with h1 | h1
    · exact .inl (hblk k h1).2
    · exact .inr ⟨h1, hlt⟩
  refine h.put hi hq hb hu2 (fun k hk => hk.imp id fun h => ⟨hx, h⟩) (fun k h => .inl h) (fun k hk => ?_) (fun A B hr hA => ?_) ?_ fun _ k hk => ?_
  · rw [hzz]
    rcases hk with hk | hk
    · exact Nat.lt_of_lt_of_le (h.lt k hk) hz
    · exact hk.2
  · have hr1 : OwnS (fun k => S k ∨ w.heap.size ≤ k ∧ k < w2.heap.size) w2 103 15 (.slice (some ⟨b, 0, none⟩) (G.nd i).sl.length (a.lc i)) (G.nd i).sl.length (A ++ rcells s x (a.z i s) ++ B) := hr.keepB (fun k h => .inl h) fun k hk => by
      injection hk with hk
      subst hk
      exact hbk2.trans hbk.symm
    have hr2 := own_seg (f := 14) hr1 hA (by simp [rcells]) (.slice A2 d2.ans.length c2)
    have e : (rcells s x (a.z i s)).set 14 (.slice A2 d2.ans.length c2) = rcells s { x with bid := some d2 } { a.z i s with A := A2, n := d2.ans.length, c := c2 } := by
      unfold rcells
      rw [hd]
      rfl
    rwa [e] at hr2
  · intro d' hd'
    injection hd' with hd'
    subst hd'
    refine ⟨by rw [e4, e3], by rw [e5, e1], by rw [e6, e2], rfl, ?_⟩
    refine OwnS.keepT (w := w2) ⟨ho, hat2⟩ fun k cs' hk => Below.heap_setCell _ _ _ _ fun e => hbk2.ne_ hk (by decide) e.symm
  · rcases hat k hk with h1 | h1
    · exact .inl ⟨hx, h1⟩
    · exact .inr h1
set_option maxRecDepth 100000 in
set_option maxHeartbeats 4000000 in
theorem raccepted_some (m : Ml) (x : Sl) (i : Nat) (s : Int) {q b : Nat} (h : RIn S w r An cn Am cm G a) (hi : i < G.nds.length) (hq : (G.nd i).sl[q]? = some (s, x)) (hb : a.lA i = some ⟨b, 0, none⟩) (d d2 : Bd) (hd : x.bid = some d) (h1 : d.acc = true) (h2 : d.bal = m.bal) (hag : getA m.fr d.ans = none) (hd2 : d2 = { d with ans := setA m.fr ⟨m.had, m.text⟩ d.ans }) (hN : G.nds.length ≤ 9) (hln : d.ans.length ≤ 9) : Calls Try.prog 70 #[.pointer (some ⟨r, 0, none⟩), .pointer (some ⟨b, q * 15, none⟩), .agg #[.int .i64 m.kind, .int .i64 m.fr, .int .i64 m.dst, .int .i64 m.slot, .int .i64 m.bal.rd, .int .i64 m.bal.nd, .int .i64 m.had.rd, .int .i64 m.had.nd, .string m.text]] w fun e w' => e = .returned (.tuple #[]) ∧ RGo S w r (G.rdone i s x m d2) w' := by
  have hn9 : (G.nds.length : Int) ≤ 9 := by omega
  have hB0 : Below w.heap.size w (w.alloc (.cells #[.int .i64 m.kind, .int .i64 m.fr, .int .i64 m.dst, .int .i64 m.slot, .int .i64 m.bal.rd, .int .i64 m.bal.nd, .int .i64 m.had.rd, .int .i64 m.had.nd, .string m.text] 78)) := (Below.refl _ _).alloc (Nat.le_refl _) _
  have kb := Blk.new w 78 #[.int .i64 m.kind, .int .i64 m.fr, .int .i64 m.dst, .int .i64 m.slot, .int .i64 m.bal.rd, .int .i64 m.bal.nd, .int .i64 m.had.rd, .int .i64 m.had.nd, .string m.text]
  have hSlt := h.lt
  have q1 := h.below hB0
  have hB := hid hB0
  obtain ⟨b', hb', hbl, hSb, hbk, hc0⟩ := q1.seg hi hq
  rw [hb] at hb'
  injection hb' with hb'
  injection hb' with hb'
  subst hb'
  have hz := q1.ans i hi (s, x) (List.mem_of_getElem? hq)
  clear h hB0
  have s9 : (w.alloc (.cells #[.int .i64 m.kind, .int .i64 m.fr, .int .i64 m.dst, .int .i64 m.slot, .int .i64 m.bal.rd, .int .i64 m.bal.nd, .int .i64 m.had.rd, .int .i64 m.had.nd, .string m.text] 78)).cell? ⟨b, q * 15 + 9, none⟩ = some (.bool x.bid.isSome) := hc0 9 (by omega)
  have s10 : (w.alloc (.cells #[.int .i64 m.kind, .int .i64 m.fr, .int .i64 m.dst, .int .i64 m.slot, .int .i64 m.bal.rd, .int .i64 m.bal.nd, .int .i64 m.had.rd, .int .i64 m.had.nd, .string m.text] 78)).cell? ⟨b, q * 15 + 10, none⟩ = some (.bool (a.z i s).asks) := hc0 10 (by omega)
  have s11 : (w.alloc (.cells #[.int .i64 m.kind, .int .i64 m.fr, .int .i64 m.dst, .int .i64 m.slot, .int .i64 m.bal.rd, .int .i64 m.bal.nd, .int .i64 m.had.rd, .int .i64 m.had.nd, .string m.text] 78)).cell? ⟨b, q * 15 + 11, none⟩ = some (.int .i64 (a.z i s).bal.rd) := hc0 11 (by omega)
  have s12 : (w.alloc (.cells #[.int .i64 m.kind, .int .i64 m.fr, .int .i64 m.dst, .int .i64 m.slot, .int .i64 m.bal.rd, .int .i64 m.bal.nd, .int .i64 m.had.rd, .int .i64 m.had.nd, .string m.text] 78)).cell? ⟨b, q * 15 + 12, none⟩ = some (.int .i64 (a.z i s).bal.nd) := hc0 12 (by omega)
  have s13 : (w.alloc (.cells #[.int .i64 m.kind, .int .i64 m.fr, .int .i64 m.dst, .int .i64 m.slot, .int .i64 m.bal.rd, .int .i64 m.bal.nd, .int .i64 m.had.rd, .int .i64 m.had.nd, .string m.text] 78)).cell? ⟨b, q * 15 + 13, none⟩ = some (.string (a.z i s).own) := hc0 13 (by omega)
  have s14 : (w.alloc (.cells #[.int .i64 m.kind, .int .i64 m.fr, .int .i64 m.dst, .int .i64 m.slot, .int .i64 m.bal.rd, .int .i64 m.bal.nd, .int .i64 m.had.rd, .int .i64 m.had.nd, .string m.text] 78)).cell? ⟨b, q * 15 + 14, none⟩ = some (.slice (a.z i s).A (a.z i s).n (a.z i s).c) := hc0 14 (by omega)
  have e0 : (w.alloc (.cells #[.int .i64 m.kind, .int .i64 m.fr, .int .i64 m.dst, .int .i64 m.slot, .int .i64 m.bal.rd, .int .i64 m.bal.nd, .int .i64 m.had.rd, .int .i64 m.had.nd, .string m.text] 78)).cell? ⟨w.heap.size, 0, none⟩ = some (.int .i64 m.kind) := kb.cell 0
  have e1 : (w.alloc (.cells #[.int .i64 m.kind, .int .i64 m.fr, .int .i64 m.dst, .int .i64 m.slot, .int .i64 m.bal.rd, .int .i64 m.bal.nd, .int .i64 m.had.rd, .int .i64 m.had.nd, .string m.text] 78)).cell? ⟨w.heap.size, 1, none⟩ = some (.int .i64 m.fr) := kb.cell 1
  have e2 : (w.alloc (.cells #[.int .i64 m.kind, .int .i64 m.fr, .int .i64 m.dst, .int .i64 m.slot, .int .i64 m.bal.rd, .int .i64 m.bal.nd, .int .i64 m.had.rd, .int .i64 m.had.nd, .string m.text] 78)).cell? ⟨w.heap.size, 2, none⟩ = some (.int .i64 m.dst) := kb.cell 2
  have e3 : (w.alloc (.cells #[.int .i64 m.kind, .int .i64 m.fr, .int .i64 m.dst, .int .i64 m.slot, .int .i64 m.bal.rd, .int .i64 m.bal.nd, .int .i64 m.had.rd, .int .i64 m.had.nd, .string m.text] 78)).cell? ⟨w.heap.size, 3, none⟩ = some (.int .i64 m.slot) := kb.cell 3
  have e4 : (w.alloc (.cells #[.int .i64 m.kind, .int .i64 m.fr, .int .i64 m.dst, .int .i64 m.slot, .int .i64 m.bal.rd, .int .i64 m.bal.nd, .int .i64 m.had.rd, .int .i64 m.had.nd, .string m.text] 78)).cell? ⟨w.heap.size, 4, none⟩ = some (.int .i64 m.bal.rd) := kb.cell 4
  have e5 : (w.alloc (.cells #[.int .i64 m.kind, .int .i64 m.fr, .int .i64 m.dst, .int .i64 m.slot, .int .i64 m.bal.rd, .int .i64 m.bal.nd, .int .i64 m.had.rd, .int .i64 m.had.nd, .string m.text] 78)).cell? ⟨w.heap.size, 5, none⟩ = some (.int .i64 m.bal.nd) := kb.cell 5
  have e6 : (w.alloc (.cells #[.int .i64 m.kind, .int .i64 m.fr, .int .i64 m.dst, .int .i64 m.slot, .int .i64 m.bal.rd, .int .i64 m.bal.nd, .int .i64 m.had.rd, .int .i64 m.had.nd, .string m.text] 78)).cell? ⟨w.heap.size, 6, none⟩ = some (.int .i64 m.had.rd) := kb.cell 6
  have e7 : (w.alloc (.cells #[.int .i64 m.kind, .int .i64 m.fr, .int .i64 m.dst, .int .i64 m.slot, .int .i64 m.bal.rd, .int .i64 m.bal.nd, .int .i64 m.had.rd, .int .i64 m.had.nd, .string m.text] 78)).cell? ⟨w.heap.size, 7, none⟩ = some (.int .i64 m.had.nd) := kb.cell 7
  have e8 : (w.alloc (.cells #[.int .i64 m.kind, .int .i64 m.fr, .int .i64 m.dst, .int .i64 m.slot, .int .i64 m.bal.rd, .int .i64 m.bal.nd, .int .i64 m.had.rd, .int .i64 m.had.nd, .string m.text] 78)).cell? ⟨w.heap.size, 8, none⟩ = some (.string m.text) := kb.cell 8
  have hgd := guardBal
  obtain ⟨z1, z2, z3, z4, z5⟩ := hz d hd
  have z1 : (a.z i s).asks = d.acc := z1
  have z2 : (a.z i s).bal = d.bal := z2
  have z3 : (a.z i s).own = d.text := z3
  have z4 : (a.z i s).n = d.ans.length := z4
  have z5 : OwnS S (w.alloc (.cells #[.int .i64 m.kind, .int .i64 m.fr, .int .i64 m.dst, .int .i64 m.slot, .int .i64 m.bal.rd, .int .i64 m.bal.nd, .int .i64 m.had.rd, .int .i64 m.had.nd, .string m.text] 78)) 118 4 (.slice (a.z i s).A (a.z i s).n (a.z i s).c) (a.z i s).n (acells d.acc d.ans) := z5
  rw [z4] at z5 s14
  rw [hd] at s9
  have s9 : (w.alloc (.cells #[.int .i64 m.kind, .int .i64 m.fr, .int .i64 m.dst, .int .i64 m.slot, .int .i64 m.bal.rd, .int .i64 m.bal.nd, .int .i64 m.had.rd, .int .i64 m.had.nd, .string m.text] 78)).cell? ⟨b, q * 15 + 9, none⟩ = some (.bool true) := s9
  rw [z1] at s10
  rw [z2] at s11 s12
  rw [z3] at s13
  have hnq : ∀ W', (binOp .neq 35 (.agg #[.int .i64 d.bal.rd, .int .i64 d.bal.nd]) (.agg #[.int .i64 m.bal.rd, .int .i64 m.bal.nd])).run Try.prog W' = .ok (.bool false) W' := fun W' => by rw [run_neqBal, decide_eq_true h2]; rfl
  have hl : (d.ans.length : Int) ≤ 1000 := by omega
  have hln9 : (d.ans.length : Int) ≤ 9 := by omega
  have hans0 : ∀ n, Calls Try.prog 76 #[.pointer (some ⟨b, q * 15, none⟩), .int .i64 m.fr] ((w.alloc (.cells #[.int .i64 m.kind, .int .i64 m.fr, .int .i64 m.dst, .int .i64 m.slot, .int .i64 m.bal.rd, .int .i64 m.bal.nd, .int .i64 m.had.rd, .int .i64 m.had.nd, .string m.text] 78)).drewN n) fun e w' => e = .returned (.bool false) ∧ w' = (w.alloc (.cells #[.int .i64 m.kind, .int .i64 m.fr, .int .i64 m.dst, .int .i64 m.slot, .int .i64 m.bal.rd, .int .i64 m.bal.nd, .int .i64 m.had.rd, .int .i64 m.had.nd, .string m.text] 78)).drewN n := fun n => by
    have := ranswered_any (w := (w.alloc (.cells #[.int .i64 m.kind, .int .i64 m.fr, .int .i64 m.dst, .int .i64 m.slot, .int .i64 m.bal.rd, .int .i64 m.bal.nd, .int .i64 m.had.rd, .int .i64 m.had.nd, .string m.text] 78)).drewN n) (S := S) m.fr b (q * 15) (c := (a.z i s).c) (acc := d.acc) (l := d.ans) s14 ((OwnS.keepB z5 (fun _ => id) fun b _ => rfl)) hl
    rw [hag] at this
    exact this
  have hans := hid hans0
  rw [h1] at s10
  have hl2 : Hid (d2.ans.length = d.ans.length + 1) := hid (by rw [hd2]; exact setA_len hag)
  have hcells : Hid (acells true d.ans ++ [.int .i64 m.fr, .int .i64 0, .int .i64 0, .string ⟨#[]⟩] = acells d2.acc d2.ans) := hid (by
    rw [hd2]
    show _ = acells d.acc (setA m.fr ⟨m.had, m.text⟩ d.ans)
    rw [h1, setA_fresh (getA_none hag)]
    unfold acells
    rw [List.flatMap_append]
    congr 1)
  rw [h1] at z5
  have hkb := hid (show ∀ k, Blk ((w.alloc (.cells #[.int .i64 m.kind, .int .i64 m.fr, .int .i64 m.dst, .int .i64 m.slot, .int .i64 m.bal.rd, .int .i64 m.bal.nd, .int .i64 m.had.rd, .int .i64 m.had.nd, .string m.text] 78)).drewN k) w.heap.size 78 #[.int .i64 m.kind, .int .i64 m.fr, .int .i64 m.dst, .int .i64 m.slot, .int .i64 m.bal.rd, .int .i64 m.bal.nd, .int .i64 m.had.rd, .int .i64 m.had.nd, .string m.text] from fun k => kb)
  have hqq := hid (show ∀ k, RIn S ((w.alloc (.cells #[.int .i64 m.kind, .int .i64 m.fr, .int .i64 m.dst, .int .i64 m.slot, .int .i64 m.bal.rd, .int .i64 m.bal.nd, .int .i64 m.had.rd, .int .i64 m.had.nd, .string m.text] 78)).drewN k) r An cn Am cm G a from fun k => q1.below (below_drewN (Below.refl _ _) k))
  have hz5 := hid (show ∀ k, OwnS S ((w.alloc (.cells #[.int .i64 m.kind, .int .i64 m.fr, .int .i64 m.dst, .int .i64 m.slot, .int .i64 m.bal.rd, .int .i64 m.bal.nd, .int .i64 m.had.rd, .int .i64 m.had.nd, .string m.text] 78)).drewN k) 118 4 (.slice (a.z i s).A d.ans.length (a.z i s).c) d.ans.length (acells true d.ans) from fun k => OwnS.keepB z5 (fun _ => id) fun b _ => rfl)
  have hfz : ∀ j, (w.alloc (.cells #[.int .i64 m.kind, .int .i64 m.fr, .int .i64 m.dst, .int .i64 m.slot, .int .i64 m.bal.rd, .int .i64 m.bal.nd, .int .i64 m.had.rd, .int .i64 m.had.nd, .string m.text] 78)).frozen? ⟨b, j, none⟩ = false := fun j => by
    obtain ⟨cs, hk⟩ := hbk
    exact hk.frozen j
  have hD := hid (show x.bid = some d ∧ d2.bal = d.bal ∧ d2.text = d.text ∧ d2.acc = d.acc ∧ (a.z i s).asks = d.acc ∧ (a.z i s).bal = d.bal ∧ (a.z i s).own = d.text from ⟨hd, by rw [hd2], by rw [hd2], by rw [hd2], z1, z2, z3⟩)
  have hbE : Hid ((Value.slice (a.z i s).A d.ans.length (a.z i s).c).ownBlock = (a.z i s).blk) := hid (by unfold Rj.blk; rw [z4])
  have hHO := hid (q1.nd i hi).2.2.2
  have hDA : Hid (d.acc = true) := hid h1
  have hI := hid hi; have hQ := hid hq; have hBB := hid hb
  have hzw : Hid ((w.alloc (.cells #[.int .i64 m.kind, .int .i64 m.fr, .int .i64 m.dst, .int .i64 m.slot, .int .i64 m.bal.rd, .int .i64 m.bal.nd, .int .i64 m.had.rd, .int .i64 m.had.nd, .string m.text] 78)).heap.size = w.heap.size + 1) := hid (by simp)
  obtain ⟨im, him, hm0, hm1, hm2⟩ := info_parts info_rans
  clear hz hd z1 z2 z3 z4 z5 q1 kb hc0 hbk hq hd2 h1 h2 hag hans0 hb hi
  go_enter Try.func70, Try.ntmps70
  go_upto_region 1 with fail
  generalize (w.alloc (.cells #[.int .i64 m.kind, .int .i64 m.fr, .int .i64 m.dst, .int .i64 m.slot, .int .i64 m.bal.rd, .int .i64 m.bal.nd, .int .i64 m.had.rd, .int .i64 m.had.nd, .string m.text] 78)) = W1 at *
  go_quiet ((go_at_call 76; exact Calls.quiet_of_same (hans.out _)))
  have f14 : (W1.drewN nq).cell? ⟨b, q * 15 + 14, none⟩ = some (.slice (a.z i s).A d.ans.length (a.z i s).c) := s14
  have f0 : (W1.drewN nq).cell? ⟨w.heap.size, 0, none⟩ = some (.int .i64 m.kind) := e0
  have f1 : (W1.drewN nq).cell? ⟨w.heap.size, 1, none⟩ = some (.int .i64 m.fr) := e1
  have f2 : (W1.drewN nq).cell? ⟨w.heap.size, 2, none⟩ = some (.int .i64 m.dst) := e2
  have f3 : (W1.drewN nq).cell? ⟨w.heap.size, 3, none⟩ = some (.int .i64 m.slot) := e3
  have f4 : (W1.drewN nq).cell? ⟨w.heap.size, 4, none⟩ = some (.int .i64 m.bal.rd) := e4
  have f5 : (W1.drewN nq).cell? ⟨w.heap.size, 5, none⟩ = some (.int .i64 m.bal.nd) := e5
  have f6 : (W1.drewN nq).cell? ⟨w.heap.size, 6, none⟩ = some (.int .i64 m.had.rd) := e6
  have f7 : (W1.drewN nq).cell? ⟨w.heap.size, 7, none⟩ = some (.int .i64 m.had.nd) := e7
  have f8 : (W1.drewN nq).cell? ⟨w.heap.size, 8, none⟩ = some (.string m.text) := e8
  have fz : ∀ j, (W1.drewN nq).frozen? ⟨b, j, none⟩ = false := hfz
  have hqq' := hid (hqq.out nq); have hz5' := hid (hz5.out nq); have hkb' := hid (hkb.out nq)
  clear hqq hz5 hkb
  have hqq := hqq'; have hz5 := hz5'; have hkb := hkb'
  clear hqq' hz5' hkb'
  have hzw' : Hid ((W1.drewN nq).heap.size = w.heap.size + 1) := hzw
  clear hzw
  have hzw := hzw'
  clear hzw'
  have hB2 := hid (below_drewN hB.out nq)
  clear s9 s10 s11 s12 s13 s14 e0 e1 e2 e3 e4 e5 e6 e7 e8 hfz hans hB hnq hgd
  generalize W1.drewN nq = W2 at *
  have fa : (W2.alloc (.cells #[.int .i64 m.fr, .int .i64 0, .int .i64 0, .string ⟨#[]⟩] 118)).cell? ⟨b, q * 15 + 14, none⟩ = some (.slice (a.z i s).A d.ans.length (a.z i s).c) := (World.cell?_of_block (w := W2) (a := ⟨b, q * 15 + 14, none⟩) ((((Below.refl W2.heap.size W2).alloc (Nat.le_refl _) _)).block b (by rw [hzw.out]; have := hSlt b hSb; omega))).trans f14
  have hrow0 := hz5.out.1
  have hne : Hid ((∃ cs, Blk W2 b 103 cs) ∧ ¬ (a.z i s).blk = some b) := hid (by
    obtain ⟨b', hb', _, _, ⟨cs, hk⟩, _⟩ := hqq.out.seg hI.out hQ.out
    rw [hBB.out] at hb'
    injection hb' with hb'
    injection hb' with hb'
    subst hb'
    refine ⟨⟨cs, hk⟩, fun hm => ?_⟩
    rw [← hbE.out] at hm
    obtain ⟨⟨cs', hb2⟩, _⟩ := own_blk hz5.out hm
    exact hk.ne_ hb2 (by decide) rfl)
  go_wp2_with fail
  have hfin : Hid (∀ A2 c2' w2, w2.ownsRow 0 118 4 (.slice A2 (d.ans.length + 1) c2') (d.ans.length + 1) (acells true d.ans ++ [.int .i64 m.fr, .int .i64 0, .int .i64 0, .string ⟨#[]⟩]) → Upd (fun k => (a.z i s).blk = some k) W2 w2 → ((Value.slice A2 (d.ans.length + 1) c2').ownBlock = (Value.slice (a.z i s).A d.ans.length (a.z i s).c).ownBlock ∨ (Value.slice A2 (d.ans.length + 1) c2').ownBlock = some (W2.heap.size + 1)) → RAns S W2 r An cn Am cm (G.setSl i s { x with bid := some d2 }) i b (w2.setCell ⟨b, q * 15 + 14, none⟩ (.slice A2 (d.ans.length + 1) c2'))) := hid (fun A2 c2' w2 hown2 hu2 hat2 => by
    have HG := hqq.out.answer (d2 := d2) (c2 := c2') (A2 := A2) hI.out hQ.out hBB.out hD.out hu2 (by rw [hl2.out, ← hcells.out]; exact hown2) (fun k hk => by
      rw [hl2.out] at hk
      rcases hat2 with h | h
      · exact .inl (by rw [h, hbE.out] at hk; exact hk)
      · rw [h] at hk; injection hk with hk; exact .inr (by omega))
    rw [hl2.out] at HG
    refine ⟨_, _, HG, hBB.out, fun k hk => hk.imp id (·.1), (hu2.mono (M' := S) fun k _ h => ?_).setCell (p := ⟨b, q * 15 + 14, none⟩) (fun _ => ?_) _⟩
    · rw [← hbE.out] at h
      exact (own_blk hz5.out h).2
    · exact hSb)
  go_cut [] (fun wx => RAns S W2 r An cn Am cm (G.setSl i s { x with bid := some d2 }) i b wx)
  case first =>
    go_region_law
      (refine step_append_rd _ rfl (.tmp 37) (.tmp 41) 101 rfl 0 118 im _ 4 40 Try.underlying101 him hm0 hm1 hm2 rfl (by omega) (.slice (a.z i s).A d.ans.length (a.z i s).c) d.ans.length (acells true d.ans) rfl ?_ (fun b => b = W2.heap.size) (some ⟨W2.heap.size, 0, none⟩) 1 1 [.int .i64 m.fr, .int .i64 0, .int .i64 0, .string ⟨#[]⟩] rfl ?_ ?_ ?_ ?_ ?_ (d.ans.length + 1) rfl (acells true d.ans ++ [.int .i64 m.fr, .int .i64 0, .int .i64 0, .string ⟨#[]⟩]) rfl ?_
       go_must (
         · exact (hrow0.alloc _).drew
         · exact (Rd.new W2 118 4 1 #[.int .i64 m.fr, .int .i64 0, .int .i64 0, .string ⟨#[]⟩] _ rfl rfl).drew
         · simp [Value.oneCell']
         · simp only [maxLen]; omega
         · omega
         · exact Nat.zero_le _
         intro A2 c2' w2 hown2 hg2 hat2
         have hu2 : Upd (fun k => (a.z i s).blk = some k) W2 w2 := (((Upd.refl _ W2).alloc _).drew).grown hg2 fun k hk _ => hbE.out ▸ hk
         have hk2 : w2.cell? ⟨b, q * 15 + 14, none⟩ = some (.slice (a.z i s).A d.ans.length (a.z i s).c) := hu2.cell f14 hne.out.2
         have hf2 : ∀ j, w2.frozen? ⟨b, j, none⟩ = false := fun j => by
           obtain ⟨cs, hk⟩ := hne.out.1
           exact (hk.upd hu2 hne.out.2).frozen j
         have hfin2 := hid (hfin.out A2 c2' w2 hown2 hu2 (hat2.imp id (fun h => h.trans (by simp))))
         clear hu2 hg2 hat2 hown2))
    all_goals
      go_wp2_with fail
      go_meet
      exact hfin2.out
  case rest =>
    obtain ⟨S3, a3, q3, hb3, hS3, hu3⟩ := hcut
    have hL : (G.setSl i s { x with bid := some d2 }).nds.length = G.nds.length := Gr.len_set _ _ _
    have hi3 : i < (G.setSl i s { x with bid := some d2 }).nds.length := by rw [hL]; exact hI.out
    have hq3 : ((G.setSl i s { x with bid := some d2 }).nd i).sl[q]? = some (s, { x with bid := some d2 }) := Gr.set_at hI.out (hqq.out.nd i hI.out).2.2.2 hQ.out
    have hz3 := q3.ans i hi3 _ (List.mem_of_getElem? hq3) d2 rfl
    obtain ⟨b', hb', hbl3, hSb3, hbk3, hc3⟩ := q3.seg hi3 hq3
    rw [hb3] at hb'
    injection hb' with hb'
    injection hb' with hb'
    subst hb'
    have g14 : wc.cell? ⟨b, q * 15 + 14, none⟩ = some (.slice (a3.z i s).A (a3.z i s).n (a3.z i s).c) := hc3 14 (by omega)
    have hn3 : (a3.z i s).n = d.ans.length + 1 := hz3.2.2.2.1.trans hl2.out
    rw [hn3] at g14
    have hmj0 : ∀ n, Calls Try.prog 72 #[.pointer (some ⟨r, 0, none⟩)] (wc.drewN n) fun e w' => e = .returned (.int .i64 ((G.nds.length : Int) / 2 + 1)) ∧ w' = wc.drewN n := fun n => by
      have := majority_any (q3.below (below_drewN (Below.refl _ _) n)) (by rw [hL]; exact hN)
      rwa [hL] at this
    have hmj := hid hmj0
    have HZ3 := hid hz3; have hb3' := hid hb3; have Q3 := hid q3; have HC3 := hid hc3; have HBK := hid hbk3; have HU3 := hid hu3
    clear hz3 hq3 hi3 hc3 hn3 hmj0 q3 f0 f1 f2 f3 f4 f5 f6 f7 f8 f14 fz fa hrow0 hb3 hbk3 hu3
    go_upto_region 3 with fail
    by_cases hf2 : d2.ans.length < G.nds.length / 2 + 1
    · have tt : decide ((d.ans.length : Int) + 1 < (G.nds.length : Int) / 2 + 1) = true := decide_eq_true (by have := hl2.out; omega)
      have tt2 : decide ((d.ans.length : Int) < (G.nds.length : Int) / 2) = true := decide_eq_true (by have := hl2.out; omega)
      have tt3 : (d.ans.length : Int) < (G.nds.length : Int) / 2 := (by have := hl2.out; omega)
      have hff : Hid (∀ a b : Gr, (if d2.ans.length < G.nds.length / 2 + 1 then a else b) = a) := hid (fun _ _ => if_pos hf2)
      clear hf2 hL
      go_quiet ((go_at_call 72; exact Calls.quiet_of_same (hmj.out _)))
      go_wp2_with fail
      refine bodyPost_ret (v := .tuple #[]) (by simp [results, Try.results70, go_sem]) rfl ?_
      have hzz := hzw.out
      refine ⟨rfl, ?_⟩
      unfold Gr.rdone
      rw [hff.out]
      refine ⟨S3, ⟨_, _, _, _, a3, Q3.out.below (below_drewN (Below.refl _ _) _)⟩, fun k hk => ?_, ((Upd.of_below' hB2.out S).trans HU3.out fun _ _ h => h).drewN _⟩
      rcases hS3 k hk with h | h
      · exact .inl h
      · exact .inr (by omega)
    · have tt : decide ((d.ans.length : Int) + 1 < (G.nds.length : Int) / 2 + 1) = false := decide_eq_false (by have := hl2.out; omega)
      have tt2 : decide ((d.ans.length : Int) < (G.nds.length : Int) / 2) = false := decide_eq_false (by have := hl2.out; omega)
      have tt3 : (G.nds.length : Int) / 2 ≤ (d.ans.length : Int) := (by have := hl2.out; omega)
      have hff : Hid (∀ a b : Gr, (if d2.ans.length < G.nds.length / 2 + 1 then a else b) = b) := hid (fun _ _ => if_neg hf2)
      have hLL := hid hL
      clear hf2 hL
      go_quiet ((go_at_call 72; exact Calls.quiet_of_same (hmj.out _)))
      have q4 := hid (Q3.out.below (below_drewN (Below.refl _ _) nq))
      have hb4 : Hid (a3.lA i = some ⟨b, 0, none⟩) := hb3'
      have hkb4 : Hid (Blk (wc.drewN nq) w.heap.size 78 #[.int .i64 m.kind, .int .i64 m.fr, .int .i64 m.dst, .int .i64 m.slot, .int .i64 m.bal.rd, .int .i64 m.bal.nd, .int .i64 m.had.rd, .int .i64 m.had.nd, .string m.text]) := hid (hkb.out.upd (HU3.out.drewN nq) fun h => absurd (hSlt _ h) (Nat.lt_irrefl _))
      have hu4 : Hid (Upd S w (wc.drewN nq)) := hid (((Upd.of_below' hB2.out S).trans HU3.out fun _ _ h => h).drewN _)
      have hS4 : Hid (∀ k, S3 k → S k ∨ w.heap.size + 1 ≤ k) := hid (fun k hk => by have h1 := hS3 k hk; rwa [hzw.out] at h1)
      have hi4 : Hid (i < (G.setSl i s { x with bid := some d2 }).nds.length) := hid (by rw [hLL.out]; exact hI.out)
      have hq4 : Hid (((G.setSl i s { x with bid := some d2 }).nd i).sl[q]? = some (s, { x with bid := some d2 })) := hid (Gr.set_at hI.out (hqq.out.nd i hI.out).2.2.2 hQ.out)
      clear hzw hqq hz5 hkb HU3 hB2 Q3 hmj g14 hfin HC3 HBK tt tt2 tt3
      generalize wc.drewN nq = w4 at *

      have f9 : w4.cell? ⟨b, q * 15 + 9, none⟩ = some (.bool true) := by
        obtain ⟨b', hb', _, _, _, hc⟩ := q4.out.seg hi4.out hq4.out
        rw [hb4.out] at hb'
        injection hb' with hb'
        injection hb' with hb'
        subst hb'
        exact hc 9 (by omega)
      have ff : ∀ j, w4.frozen? ⟨b, j, none⟩ = false := fun j => by
        obtain ⟨b', hb', _, _, ⟨cs, hk⟩, _⟩ := q4.out.seg hi4.out hq4.out
        rw [hb4.out] at hb'
        injection hb' with hb'
        injection hb' with hb'
        subst hb'
        exact hk.frozen j
      have hu5 : Hid (Upd (fun k => k = b) w4 (w4.setCell ⟨b, q * 15 + 9, none⟩ (.bool false))) := hid ((Upd.refl (fun k => k = b) w4).setCell (p := ⟨b, q * 15 + 9, none⟩) (fun _ => rfl) _)
      have hsz5 : (w4.setCell ⟨b, q * 15 + 9, none⟩ (.bool false)).heap.size = w4.heap.size := by simp
      have q5 : Hid (RIn S3 (w4.setCell ⟨b, q * 15 + 9, none⟩ (.bool false)) r An cn Am cm ((G.setSl i s { x with bid := some d2 }).setSl i s { x with bid := none }) (a3.setZ i s (a3.z i s))) := hid (q4.out.put hi4.out hq4.out hb4.out hu5.out (fun k hk => .inl hk) (fun k h => h) (fun k hk => by rw [hsz5]; exact q4.out.lt k hk) (fun A B hr hA => by
        have h1 := own_seg (f := 9) hr hA (by simp [rcells]) (.bool false)
        have e : (rcells s { x with bid := some d2 } (a3.z i s)).set 9 (.bool false) = rcells s { x with bid := none } (a3.z i s) := rfl
        rwa [e] at h1) (fun d hd => by cases hd) (fun h => by cases h))
      rw [setSl_setSl _ _ _ _ _ hI.out] at q5
      have hz5 : Hid ((a3.setZ i s (a3.z i s)).z i s = a3.z i s) := hid (by unfold Ra.setZ; simp)
      have hzA : Hid ((a3.z i s).bal = d2.bal ∧ (a3.z i s).own = d2.text) := hid ⟨HZ3.out.2.1, HZ3.out.2.2.1⟩
      have hL5 : Hid ((G.setSl i s { x with bid := none }).nds.length = G.nds.length) := hid (Gr.len_set _ _ _)
      have hi5 : Hid (i < (G.setSl i s { x with bid := none }).nds.length) := hid (by rw [hL5.out]; exact hI.out)
      have hq5 : Hid (((G.setSl i s { x with bid := none }).nd i).sl[q]? = some (s, { x with bid := none })) := hid (by
        have h1 := Gr.set_at (x' := { x with bid := none }) hi4.out (q4.out.nd i hi4.out).2.2.2 hq4.out
        rwa [setSl_setSl _ _ _ _ _ hI.out] at h1)
      have hb5 : Hid ((a3.setZ i s (a3.z i s)).lA i = some ⟨b, 0, none⟩) := hid hb4.out
      have hkb5 : Hid (Blk (w4.setCell ⟨b, q * 15 + 9, none⟩ (.bool false)) w.heap.size 78 #[.int .i64 m.kind, .int .i64 m.fr, .int .i64 m.dst, .int .i64 m.slot, .int .i64 m.bal.rd, .int .i64 m.bal.nd, .int .i64 m.had.rd, .int .i64 m.had.nd, .string m.text]) := hid (hkb4.out.upd hu5.out fun e => by have := hSlt b hSb; omega)
      have hu6 : Hid (Upd S w (w4.setCell ⟨b, q * 15 + 9, none⟩ (.bool false))) := hid (hu4.out.setCell (p := ⟨b, q * 15 + 9, none⟩) (fun _ => hSb) _)
      go_upto_region 5 with fail
      clear f9 ff hu5 hsz5 hkb4 hu4 q4 hb4 hi4 hq4
      generalize w4.setCell ⟨b, q * 15 + 9, none⟩ (.bool false) = w5 at *
      obtain ⟨b', hb', _, _, _, hc⟩ := q5.out.seg hi5.out hq5.out
      rw [hb5.out] at hb'
      injection hb' with hb'
      injection hb' with hb'
      subst hb'
      rw [hz5.out] at hc
      have k11 : w5.cell? ⟨b, q * 15 + 11, none⟩ = some (.int .i64 (a3.z i s).bal.rd) := hc 11 (by omega)
      have k12 : w5.cell? ⟨b, q * 15 + 12, none⟩ = some (.int .i64 (a3.z i s).bal.nd) := hc 12 (by omega)
      have k13 : w5.cell? ⟨b, q * 15 + 13, none⟩ = some (.string (a3.z i s).own) := hc 13 (by omega)
      rw [hzA.out.1] at k11 k12
      rw [hzA.out.2] at k13
      have f2 : w5.cell? ⟨w.heap.size, 2, none⟩ = some (.int .i64 m.dst) := hkb5.out.cell 2
      have f3 : w5.cell? ⟨w.heap.size, 3, none⟩ = some (.int .i64 m.slot) := hkb5.out.cell 3
      clear hc
      go_still_tail 14, (by kernel_rfl)
      change wpList _ _ _ _ _ w5.drew
      go_wp2_with fail
      refine (rall_any ⟨5, m.dst, 0, m.slot, d2.bal, bal0, d2.text⟩ (S := S3) ⟨_, _, _, _, _, q5.out.below (Below.refl _ w5).drew⟩ (by rw [hL5.out]; omega)).mono ?_
      rintro e w6 ⟨rfl, S6, h6, hS6, hu7⟩
      have hfin : Hid (RGo S w r ((G.setSl i s { x with bid := none }).sendAll ⟨5, m.dst, 0, m.slot, d2.bal, bal0, d2.text⟩) w6) := hid ⟨S6, h6, fun k hk => by
        have hz6 := hu6.out.size
        rcases hS6 k hk with h | h
        · exact (hS4.out k h).imp id (by omega)
        · exact .inr (Nat.le_trans hz6 h), hu6.out.trans ((Upd.of_below' (Below.refl _ w5).drew S3).trans hu7 fun _ _ h => h) fun k hk h => by
        rcases hS4.out k h with h | h
        · exact h
        · omega⟩
      clear h6 hS6 hu7
      go_wp2_with fail
      go_end0
      refine ⟨rfl, ?_⟩
      unfold Gr.rdone
      rw [hff.out]
      exact hfin.out
end

end Go.Proofs.Ytbgopicpdpkccaa

