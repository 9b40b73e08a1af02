/- Texts of the proof, joined: GRData, GRFoc, GRSend, GLive. -/
import Derived.Test.YtbgopicpdpkccaaJ07
import Derived.Test.YtbgopicpdpkccaaJ05
namespace Go.Proofs.Ytbgopicpdpkccaa
open Go.RowKit
set_option linter.unusedVariables false
set_option linter.unusedSimpArgs false

/-- what a slot of the document holds beside: it counts only under a bid -/
structure Rj where
  asks : Bool
  bal : Bal
  own : ByteArray
  A : Option Addr
  n : Nat
  c : Nat
def rj0 : Rj := ⟨false, bal0, ⟨#[]⟩, none, 0, 0⟩
def rcells (k : Int) (x : Sl) (z : Rj) : List Value := [.int .i64 k, .int .i64 x.rd, .int .i64 x.prom.rd, .int .i64 x.prom.nd, .int .i64 x.accd.bal.rd, .int .i64 x.accd.bal.nd, .string x.accd.text, .bool x.is, .string x.text, .bool x.bid.isSome, .bool z.asks, .int .i64 z.bal.rd, .int .i64 z.bal.nd, .string z.own, .slice z.A z.n z.c]
def rrow (sl : List (Int × Sl)) (z : Int → Rj) : List Value := sl.flatMap fun p => rcells p.1 p.2 (z p.1)
def acell (acc : Bool) (p : Int × Vt) : List Value := [.int .i64 p.1, .int .i64 (if acc = true then 0 else p.2.bal.rd), .int .i64 (if acc = true then 0 else p.2.bal.nd), .string (if acc = true then ⟨#[]⟩ else p.2.text)]
def acells (acc : Bool) (l : List (Int × Vt)) : List Value := l.flatMap (acell acc)
def Rj.blk (z : Rj) : Option Nat := (Value.slice z.A z.n z.c).ownBlock
def RjOk (S : Nat → Prop) (w : World) (x : Sl) (z : Rj) : Prop := ∀ d, x.bid = some d → z.asks = d.acc ∧ z.bal = d.bal ∧ z.own = d.text ∧ z.n = d.ans.length ∧ OwnS S w 118 4 (.slice z.A z.n z.c) z.n (acells d.acc d.ans)
structure Ra where
  nb : Nat → Nat
  lA : Nat → Option Addr
  lc : Nat → Nat
  z : Nat → Int → Rj
def Ra.row (a : Ra) (G : Gr) (i : Nat) : Value := .slice (a.lA i) (G.nd i).sl.length (a.lc i)
def Ra.setZ (a : Ra) (i : Nat) (s : Int) (z : Rj) : Ra := { a with z := fun j t => if j = i ∧ t = s then z else a.z j t }
structure RIn (S : Nat → Prop) (w : World) (r : Nat) (An : Option Addr) (cn : Nat) (Am : Option Addr) (cm : Nat) (G : Gr) (a : Ra) : Prop where
  blk : Blk w r 94 #[.slice An G.nds.length cn, .slice Am G.mail.length cm]
  nrow : OwnS S w 95 1 (.slice An G.nds.length cn) G.nds.length ((List.range G.nds.length).map fun i => .pointer (some ⟨a.nb i, 0, none⟩))
  mrow : OwnS S w 78 9 (.slice Am G.mail.length cm) G.mail.length (mcells G.mail)
  nd : ∀ i, i < G.nds.length → Blk w (a.nb i) 98 #[.bool (G.nd i).up, a.row G i] ∧ S (a.nb i) ∧ OwnS S w 103 15 (a.row G i) (G.nd i).sl.length (rrow (G.nd i).sl (a.z i)) ∧ Once (G.nd i).sl
  ans : ∀ i, i < G.nds.length → ∀ p ∈ (G.nd i).sl, RjOk S w p.2 (a.z i p.1)
  nbI : ∀ i j, i < G.nds.length → j < G.nds.length → a.nb i = a.nb j → i = j
  laI : ∀ i j b, i < G.nds.length → j < G.nds.length → (a.row G i).ownBlock = some b → (a.row G j).ownBlock = some b → i = j
  aI : ∀ i j b, i < G.nds.length → j < G.nds.length → ∀ p ∈ (G.nd i).sl, ∀ q ∈ (G.nd j).sl, p.2.bid.isSome → q.2.bid.isSome → (a.z i p.1).blk = some b → (a.z j q.1).blk = some b → i = j ∧ p.1 = q.1
  inS : S r
  lt : ∀ k, S k → k < w.heap.size
def RAt (S : Nat → Prop) (w : World) (r : Nat) (G : Gr) : Prop := ∃ An cn Am cm a, RIn S w r An cn Am cm G a
def RGo (S : Nat → Prop) (w : World) (r : Nat) (G' : Gr) (w' : World) : Prop := ∃ S', RAt S' w' r G' ∧ (∀ k, S' k → S k ∨ w.heap.size ≤ k) ∧ Upd S w w'
/-- a row of one's own lies in one block of its type -/
theorem own_blk {S : Nat → Prop} {w : World} {e : TypeId} {size n : Nat} {v : Value} {xs : List Value} (h : OwnS S w e size v n xs) {b : Nat} (hb : v.ownBlock = some b) : (∃ cs, Blk w b e cs) ∧ S b := by
  refine ⟨?_, h.2 b hb⟩
  rcases h.1.2 with ⟨rfl, _⟩ | ⟨g, cap, cur, rfl, _, hh, _⟩
  · cases hb
  · injection hb with hb
    subst hb
    exact ⟨cur, hh⟩
/-- kept, where its own block is -/
theorem OwnS.keepB {S S' : Nat → Prop} {w w' : World} {e : TypeId} {size n : Nat} {v : Value} {xs : List Value} (h : OwnS S w e size v n xs) (hS : ∀ k, S k → S' k) (hk : ∀ b, v.ownBlock = some b → w'.heap[b]? = w.heap[b]?) : OwnS S' w' e size v n xs := by
  refine ⟨⟨h.1.1, ?_⟩, fun b hb => hS b (h.2 b hb)⟩
  rcases h.1.2 with hn | ⟨g, cap, cur, rfl, hg, hh, rest⟩
  · exact .inl hn
  · exact .inr ⟨g, cap, cur, rfl, hg, (hk g rfl).trans hh, rest⟩
/-- a cell is set in place -/
theorem OwnS.set {S : Nat → Prop} {w : World} {e : TypeId} {size n b c : Nat} {xs : List Value} (h : OwnS S w e size (.slice (some ⟨b, 0, none⟩) n c) n xs) (j : Nat) (v : Value) : OwnS S (w.setCell ⟨b, j, none⟩ v) e size (.slice (some ⟨b, 0, none⟩) n c) n (xs.set j v) := by
  refine ⟨⟨by rw [List.length_set]; exact h.1.1, ?_⟩, h.2⟩
  rcases h.1.2 with ⟨hn, _⟩ | ⟨g, cap, cur, hv, hg, hh, h1, h2, h3, h4⟩
  · cases hn
  · injection hv with e1 _ e2
    injection e1 with e1
    injection e1 with e1
    subst e1 e2
    refine .inr ⟨b, c, cur.setIfInBounds j v, rfl, hg, Blk.set_ (cs := cur) hh j v, h1, h2, by simpa using h3, ?_⟩
    rw [Array.toList_setIfInBounds, List.take_set, h4]
section
variable {S S' : Nat → Prop} {w w' : World} {r : Nat} {An Am : Option Addr} {cn cm : Nat} {G : Gr} {a : Ra}
theorem RjOk.keep {x : Sl} {z : Rj} (h : RjOk S w x z) (hS : ∀ k, S k → S' k) (hk : ∀ b, x.bid.isSome → z.blk = some b → w'.heap[b]? = w.heap[b]?) : RjOk S' w' x z := fun d hd => by
  obtain ⟨h1, h2, h3, h4, h5⟩ := h d hd
  exact ⟨h1, h2, h3, h4, h5.keepB hS fun b hb => hk b (by rw [hd]; rfl) hb⟩
theorem RIn.far {M : Nat → Prop} (h : RIn S w r An cn Am cm G a) (hu : Upd M w w') (hM : ∀ k, S k → ¬ M k) : RIn S w' r An cn Am cm G a :=
  { h with
    blk := h.blk.upd hu (hM _ h.inS)
    nrow := h.nrow.keep fun b hb hl => hu.block b hl (hM b hb)
    mrow := h.mrow.keep fun b hb hl => hu.block b hl (hM b hb)
    nd := fun i hi => by
      obtain ⟨h1, h2, h3, h4⟩ := h.nd i hi
      exact ⟨h1.upd hu (hM _ h2), h2, h3.keep fun b hb hl => hu.block b hl (hM b hb), h4⟩
    ans := fun i hi p hp => (h.ans i hi p hp).keep (fun _ => id) fun b hs hb => by
      obtain ⟨d, hd⟩ := Option.isSome_iff_exists.1 hs
      obtain ⟨_, _, _, _, h5⟩ := h.ans i hi p hp d hd
      have hb2 := (own_blk h5 hb).2
      exact hu.block b (h.lt b hb2) (hM b hb2)
    lt := fun k hk => Nat.lt_of_lt_of_le (h.lt k hk) hu.size }
theorem RIn.below (h : RIn S w r An cn Am cm G a) (hb : Below w.heap.size w w') : RIn S w' r An cn Am cm G a := h.far (M := Nil) (.of_below' hb _) fun _ _ => id
theorem RAt.below (h : RAt S w r G) (hb : Below w.heap.size w w') : RAt S w' r G := by
  obtain ⟨An, cn, Am, cm, a, h⟩ := h
  exact ⟨An, cn, Am, cm, a, h.below hb⟩
theorem RAt.lt (h : RAt S w r G) : (∀ k, S k → k < w.heap.size) ∧ S r := by
  obtain ⟨An, cn, Am, cm, a, h⟩ := h
  exact ⟨h.lt, h.inS⟩
theorem RGo.stay (h : RAt S w r G) : RGo S w r G w := ⟨S, h, fun _ h => .inl h, Upd.refl _ _⟩
theorem RGo.of_below (h : RAt S w r G) (hb : Below w.heap.size w w') : RGo S w r G w' := ⟨S, h.below hb, fun _ h => .inl h, .of_below' hb _⟩
theorem RGo.then {w1 w2 : World} {G2 : Gr} (h : ∃ S1, (∀ k, S1 k → S k ∨ w.heap.size ≤ k) ∧ Upd S w w1 ∧ RGo S1 w1 r G2 w2) : RGo S w r G2 w2 := by
  obtain ⟨S1, h1, hu1, S2, h2, h3, hu2⟩ := h
  refine ⟨S2, h2, fun k hk => ?_, hu1.trans hu2 fun k hk h => ?_⟩
  · rcases h3 k hk with h | h
    · exact h1 k h
    · exact .inr (Nat.le_trans hu1.size h)
  · rcases h1 k h with h | h
    · exact h
    · omega
theorem RIn.cells (h : RIn S w r An cn Am cm G a) : w.cell? ⟨r, 0, none⟩ = some (.slice An G.nds.length cn) ∧ w.cell? ⟨r, 1, none⟩ = some (.slice Am G.mail.length cm) := ⟨h.blk.cell 0, h.blk.cell 1⟩
theorem RIn.ptr (h : RIn S w r An cn Am cm G a) {i : Nat} (hi : i < G.nds.length) : ∃ b o, An = some ⟨b, o, none⟩ ∧ b < w.heap.size ∧ w.cell? ⟨b, o + i, none⟩ = some (.pointer (some ⟨a.nb i, 0, none⟩)) := by
  obtain ⟨b, o, e, _, hl, hc⟩ := h.nrow.rd.at_ hi
  exact ⟨b, o, e, hl, hc i _ (by simp [hi])⟩
/-- the mail is new -/
theorem RIn.post {M : Nat → Prop} {Am' : Option Addr} {cm' : Nat} {l : List Ml} (h : RIn S w r An cn Am cm G a) (hu : Upd M w w') (hM : ∀ k, M k → k = r ∨ ∃ cs, Blk w k 78 cs) (hS : ∀ k, S k → S' k) (hl : ∀ k, S' k → k < w'.heap.size)
    (hb : Blk w' r 94 #[.slice An G.nds.length cn, .slice Am' l.length cm']) (hr : OwnS S' w' 78 9 (.slice Am' l.length cm') l.length (mcells l)) : RIn S' w' r An cn Am' cm' (G.setMail l) a := by
  have hk : ∀ (e : TypeId) b cs, e ≠ 78 → e ≠ 94 → Blk w b e cs → w'.heap[b]? = w.heap[b]? := fun e b cs h1 h2 hb' => hu.block b hb'.lt fun hm => by
    rcases hM b hm with rfl | ⟨cs', hb2⟩
    · exact hb'.ne_ h.blk h2 rfl
    · exact hb'.ne_ hb2 h1 rfl
  refine ⟨hb, (h.nrow.keepT fun b cs hb' => hk _ b cs (by decide) (by decide) hb').more' hS, hr, fun i hi => ?_, fun i hi p hp => ?_, h.nbI, h.laI, h.aI, hS _ h.inS, hl⟩
  · obtain ⟨h1, h2, h3, h4⟩ := h.nd i hi
    exact ⟨(hk _ _ _ (by decide) (by decide) h1).trans h1, hS _ h2, (h3.keepT fun b cs hb' => hk _ b cs (by decide) (by decide) hb').more' hS, h4⟩
  · refine (h.ans i hi p hp).keep hS fun b hs hb' => ?_
    obtain ⟨d, hd⟩ := Option.isSome_iff_exists.1 hs
    obtain ⟨_, _, _, _, h5⟩ := h.ans i hi p hp d hd
    obtain ⟨⟨cs, hc⟩, _⟩ := own_blk h5 hb'
    exact hk _ b cs (by decide) (by decide) hc
/-- up or down -/
theorem RIn.up {i : Nat} {u : Bool} (h : RIn S w r An cn Am cm G a) (hi : i < G.nds.length) (hu : Upd (fun k => k = a.nb i) w w') (hb : Blk w' (a.nb i) 98 #[.bool u, a.row G i]) :
    RIn S w' r An cn Am cm (G.setNd i { G.nd i with up := u }) a := by
  obtain ⟨n1, n2, n3, ho⟩ := h.nd i hi
  have kB : ∀ (e : TypeId) b cs, e ≠ 98 → Blk w b e cs → w'.heap[b]? = w.heap[b]? := fun e b cs he hb => hu.block b hb.lt fun hk => hb.ne_ n1 he hk
  have hlen : (G.setNd i { G.nd i with up := u }).nds.length = G.nds.length := Gr.len_set _ _ _
  have hsl : ∀ j, ((G.setNd i { G.nd i with up := u }).nd j).sl = (G.nd j).sl := fun j => by
    rw [Gr.nd_set _ _ _ _ hi]
    by_cases e : j = i
    · subst e; rw [if_pos rfl]
    · rw [if_neg e]
  have hrow : ∀ j, a.row (G.setNd i { G.nd i with up := u }) j = a.row G j := fun j => by unfold Ra.row; rw [hsl]
  refine ⟨?_, ?_, ?_, fun j hj => ?_, fun j hj p hp => ?_, ?_, fun j k b hj hk => ?_, fun j k b hj hk p hp q hq => ?_, h.inS, fun k hk => Nat.lt_of_lt_of_le (h.lt k hk) hu.size⟩
  · rw [hlen]; exact (kB _ _ _ (by decide) h.blk).trans h.blk
  · rw [hlen]; exact h.nrow.keepT fun b cs hb => kB _ b cs (by decide) hb
  · exact h.mrow.keepT fun b cs hb => kB _ b cs (by decide) hb
  · rw [hlen] at hj
    obtain ⟨h1, h2, h3, h4⟩ := h.nd j hj
    rw [hrow, hsl]
    refine ⟨?_, h2, h3.keepT fun b cs hb => kB _ b cs (by decide) hb, h4⟩
    rw [Gr.nd_set _ _ _ _ hi]
    by_cases e : j = i
    · subst e; rw [if_pos rfl]; exact hb
    · rw [if_neg e]
      exact (hu.block _ h1.lt fun hk => e (h.nbI j i hj hi hk)).trans h1
  · rw [hlen] at hj
    rw [hsl] at hp
    refine (h.ans j hj p hp).keep (fun _ => id) fun b hs hb' => ?_
    obtain ⟨d, hd⟩ := Option.isSome_iff_exists.1 hs
    obtain ⟨_, _, _, _, h5⟩ := h.ans j hj p hp d hd
    obtain ⟨⟨cs, hc⟩, _⟩ := own_blk h5 hb'
    exact kB _ b cs (by decide) hc
  · rw [hlen]; exact h.nbI
  · rw [hlen] at hj hk
    rw [hrow, hrow]
    exact h.laI j k b hj hk
  · rw [hlen] at hj hk
    rw [hsl] at hp hq
    exact h.aI j k b hj hk p hp q hq
end
/-- where a slot lies in its row -/
theorem slot_pos {s : Int} {x : Sl} : ∀ {l : List (Int × Sl)}, getA s l = some x → ∃ q : Nat, l[q]? = some (s, x) ∧ ∀ (j : Nat) (p : Int × Sl), j < q → l[j]? = some p → p.1 ≠ s := by
  intro l
  induction l with
  | nil => intro h; cases h
  | cons p l ih =>
    intro h
    by_cases e : s = p.1
    · simp only [getA, e, if_true, Option.some.injEq] at h
      exact ⟨0, by subst h; rw [e]; rfl, fun j p h => absurd h (Nat.not_lt_zero _)⟩
    · simp only [getA, e, if_false] at h
      obtain ⟨q, h1, h2⟩ := ih h
      refine ⟨q + 1, h1, fun j p' hj hp => ?_⟩
      cases j with
      | zero =>
        simp only [List.getElem?_cons_zero, Option.some.injEq] at hp
        rw [← hp]; exact fun h => e h.symm
      | succ j => exact h2 j p' (by omega) hp
theorem slot_none {s : Int} : ∀ {l : List (Int × Sl)}, getA s l = none → ∀ p ∈ l, p.1 ≠ s := by
  intro l
  induction l with
  | nil => intro _ p hp; cases hp
  | cons q l ih =>
    intro h p hp
    by_cases e : s = q.1
    · simp [getA, e] at h
    · simp only [getA, e, if_false] at h
      rcases List.mem_cons.1 hp with rfl | hp
      · exact fun h => e h.symm
      · exact ih h p hp
theorem rrow_cons (p : Int × Sl) (l : List (Int × Sl)) (z : Int → Rj) : rrow (p :: l) z = rcells p.1 p.2 (z p.1) ++ rrow l z := rfl
theorem rrow_len (l : List (Int × Sl)) (z : Int → Rj) : (rrow l z).length = l.length * 15 := by
  induction l with
  | nil => rfl
  | cons p l ih =>
    show (rcells p.1 p.2 (z p.1) ++ rrow l z).length = _
    rw [List.length_append, ih, List.length_cons]
    simp [rcells]; omega
theorem rrow_congr {l : List (Int × Sl)} {z z' : Int → Rj} (h : ∀ p ∈ l, z p.1 = z' p.1) : rrow l z = rrow l z' := by
  induction l with
  | nil => rfl
  | cons p l ih =>
    show rcells p.1 p.2 (z p.1) ++ rrow l z = rcells p.1 p.2 (z' p.1) ++ rrow l z'
    rw [h p List.mem_cons_self, ih fun q hq => h q (List.mem_cons_of_mem _ hq)]
/-- the row, parted at a slot -/
theorem rrow_part {s : Int} {x : Sl} {z : Int → Rj} : ∀ {l : List (Int × Sl)} {q : Nat}, Once l → l[q]? = some (s, x) → ∃ A B, rrow l z = A ++ rcells s x (z s) ++ B ∧ A.length = q * 15 ∧ ∀ x' z', rrow (setA s x' l) (fun t => if t = s then z' else z t) = A ++ rcells s x' z' ++ B := by
  intro l
  induction l with
  | nil => intro q _ h; cases h
  | cons p l ih =>
    intro q ho h
    have ho' := ho
    unfold Once at ho'
    rw [List.map_cons, List.nodup_cons] at ho'
    cases q with
    | zero =>
      simp only [List.getElem?_cons_zero, Option.some.injEq] at h
      subst h
      refine ⟨[], rrow l z, rfl, by simp, fun x' z' => ?_⟩
      simp only [setA, if_true]
      rw [rrow_cons]
      simp only [if_true]
      rw [rrow_congr (z' := z) fun p hp => ?_]
      · simp
      · rw [if_neg]
        intro e
        exact ho'.1 (List.mem_map.2 ⟨p, hp, e⟩)
    | succ q =>
      have hne : ¬ s = p.1 := fun e => by
        have hm := List.mem_of_getElem? h
        rcases List.mem_cons.1 hm with hm | hm
        · have h' : l[q]? = some (s, x) := h
          exact ho'.1 (List.mem_map.2 ⟨(s, x), List.mem_of_getElem? h', e⟩)
        · exact ho'.1 (List.mem_map.2 ⟨(s, x), hm, e⟩)
      obtain ⟨A, B, h1, h2, h3⟩ := ih (show Once l from ho'.2) (show l[q]? = some (s, x) from h)
      refine ⟨rcells p.1 p.2 (z p.1) ++ A, B, ?_, by rw [List.length_append, h2]; simp [rcells]; omega, fun x' z' => ?_⟩
      · show rcells p.1 p.2 (z p.1) ++ rrow l z = _
        rw [h1]; simp
      · simp only [setA, hne, if_false]
        rw [rrow_cons, h3]
        rw [if_neg fun e => hne e.symm]
        simp

end Go.Proofs.Ytbgopicpdpkccaa

namespace Go.Proofs.Ytbgopicpdpkccaa
open Go.RowKit
set_option linter.unusedVariables false
set_option linter.unusedSimpArgs false

theorem setA_lenS {s : Int} {x x0 : Sl} : ∀ {l : List (Int × Sl)}, getA s l = some x0 → (setA s x l).length = l.length := by
  intro l
  induction l with
  | nil => intro h; cases h
  | cons p l ih =>
    intro h
    unfold getA at h
    unfold setA
    by_cases e : s = p.1
    · rw [if_pos e]; simp
    · rw [if_neg e] at h; rw [if_neg e]; simp [ih h]
theorem setA_none {s : Int} {x : Sl} : ∀ {l : List (Int × Sl)}, getA s l = none → setA s x l = l ++ [(s, x)] := by
  intro l
  induction l with
  | nil => intro _; rfl
  | cons p l ih =>
    intro h
    by_cases e : s = p.1
    · simp [getA, e] at h
    · simp only [getA, e, if_false] at h
      simp only [setA, e, if_false, ih h, List.cons_append]
section
variable {S S' : Nat → Prop} {w w' : World} {r : Nat} {An Am : Option Addr} {cn cm : Nat} {G : Gr} {a : Ra}
theorem RIn.slot {M : Nat → Prop} {i : Nat} {s : Int} {x0 x' : Sl} {z' : Rj} (h : RIn S w r An cn Am cm G a) (hi : i < G.nds.length) (hx0 : getA s (G.nd i).sl = some x0)
    (hu : Upd M w w') (hM : ∀ k, M k → (a.row G i).ownBlock = some k ∨ (x0.bid.isSome ∧ (a.z i s).blk = some k)) (hS : ∀ k, S k → S' k) (hl : ∀ k, S' k → k < w'.heap.size)
    (hrow : OwnS S' w' 103 15 (a.row G i) (G.nd i).sl.length (rrow (setA s x' (G.nd i).sl) (fun t => if t = s then z' else a.z i t)))
    (hz : RjOk S' w' x' z') (hf : x'.bid.isSome → ∀ b, z'.blk = some b → (x0.bid.isSome ∧ (a.z i s).blk = some b) ∨ w.heap.size ≤ b) :
    RIn S' w' r An cn Am cm (G.setSl i s x') (a.setZ i s z') := by
  have hm0 := getA_mem hx0
  obtain ⟨n1, n2, n3, ho⟩ := h.nd i hi
  have rowB : ∀ k, (a.row G i).ownBlock = some k → ∃ cs, Blk w k 103 cs := fun k hk => (own_blk n3 hk).1
  have ansB : ∀ j, j < G.nds.length → ∀ p ∈ (G.nd j).sl, p.2.bid.isSome → ∀ b, (a.z j p.1).blk = some b → (∃ cs, Blk w b 118 cs) ∧ S b := fun j hj p hp hs b hb => by
    obtain ⟨d, hd⟩ := Option.isSome_iff_exists.1 hs
    obtain ⟨_, _, _, _, h5⟩ := h.ans j hj p hp d hd
    exact own_blk h5 hb
  have kB : ∀ (e : TypeId) b cs, e ≠ 103 → e ≠ 118 → Blk w b e cs → w'.heap[b]? = w.heap[b]? := fun e b cs h1 h2 hb => hu.block b hb.lt fun hm => by
    rcases hM b hm with hk | ⟨hs, hk⟩
    · obtain ⟨cs', hb2⟩ := rowB b hk
      exact hb.ne_ hb2 h1 rfl
    · obtain ⟨⟨cs', hb2⟩, _⟩ := ansB i hi _ hm0 hs b hk
      exact hb.ne_ hb2 h2 rfl
  have hlen : (G.setSl i s x').nds.length = G.nds.length := Gr.len_set _ _ _
  have hnd : ∀ j, (G.setSl i s x').nd j = if j = i then ⟨(G.nd i).up, setA s x' (G.nd i).sl⟩ else G.nd j := fun j => by
    unfold Gr.setSl; rw [Gr.nd_set _ _ _ _ hi]
  have hrowE : ∀ j, (a.setZ i s z').row (G.setSl i s x') j = a.row G j := fun j => by
    unfold Ra.row Ra.setZ
    rw [hnd]
    by_cases e : j = i
    · subst e
      rw [if_pos rfl]
      simp only
      rw [setA_lenS hx0]
    · rw [if_neg e]
  have hmem := fun {j p} => Gr.sl_set (G := G) (j := j) (p := p) i s x' hi ho
  refine ⟨?_, ?_, ?_, fun j hj => ?_, fun j hj p hp => ?_, ?_, fun j k b hj hk => ?_, fun j k b hj hk p hp q hq hp1 hq1 hb1 hb2 => ?_, hS _ h.inS, hl⟩
  · rw [hlen]; exact (kB _ _ _ (by decide) (by decide) h.blk).trans h.blk
  · rw [hlen]; exact (h.nrow.keepT fun b cs hb => kB _ b cs (by decide) (by decide) hb).more' hS
  · exact (h.mrow.keepT fun b cs hb => kB _ b cs (by decide) (by decide) hb).more' hS
  · rw [hlen] at hj
    obtain ⟨h1, h2, h3, h4⟩ := h.nd j hj
    rw [hrowE, hnd]
    have k1 := (kB _ _ _ (by decide) (by decide) h1).trans h1
    by_cases e : j = i
    · subst e
      rw [if_pos rfl]
      refine ⟨k1, hS _ h2, ?_, h4.set⟩
      show OwnS S' w' _ 15 (a.row G j) (setA s x' (G.nd j).sl).length (rrow (setA s x' (G.nd j).sl) _)
      rw [setA_lenS hx0]
      have ez : (a.setZ j s z').z j = fun t => if t = s then z' else a.z j t := by
        funext t
        unfold Ra.setZ
        simp
      rw [ez]
      exact hrow
    · rw [if_neg e]
      have ez : (a.setZ i s z').z j = a.z j := by
        funext t
        unfold Ra.setZ
        simp only
        rw [if_neg fun h => e h.1]
      rw [ez]
      refine ⟨k1, hS _ h2, h3.keepB hS fun b hb => hu.block b (h.lt b (h3.2 b hb)) fun hm => ?_, h4⟩
      rcases hM b hm with hk | ⟨hs, hk⟩
      · exact e (h.laI j i b hj hi hb hk)
      · obtain ⟨⟨cs', hb2⟩, _⟩ := ansB i hi _ hm0 hs b hk
        obtain ⟨⟨cs, hb1⟩, _⟩ := own_blk h3 hb
        exact hb1.ne_ hb2 (by decide) rfl
  · rw [hlen] at hj
    rcases hmem hp with ⟨rfl, rfl⟩ | ⟨hp2, hne⟩
    · show RjOk S' w' x' (if j = j ∧ s = s then z' else a.z j s)
      rw [if_pos ⟨rfl, rfl⟩]
      exact hz
    · show RjOk S' w' p.2 (if j = i ∧ p.1 = s then z' else a.z j p.1)
      rw [if_neg hne]
      refine (h.ans j hj p hp2).keep hS fun b hs hb => hu.block b (h.lt b (ansB j hj p hp2 hs b hb).2) fun hm => ?_
      obtain ⟨⟨cs, hb1⟩, _⟩ := ansB j hj p hp2 hs b hb
      rcases hM b hm with hk | ⟨hs2, hk⟩
      · obtain ⟨cs', hb2⟩ := rowB b hk
        exact hb1.ne_ hb2 (by decide) rfl
      · exact hne (h.aI j i b hj hi p hp2 (s, x0) hm0 hs hs2 hb hk)
  · rw [hlen]; exact h.nbI
  · rw [hlen] at hj hk
    rw [hrowE, hrowE]
    exact h.laI j k b hj hk
  · rw [hlen] at hj hk
    have hb1 : (if j = i ∧ p.1 = s then z' else a.z j p.1).blk = some b := hb1
    have hb2 : (if k = i ∧ q.1 = s then z' else a.z k q.1).blk = some b := hb2
    rcases hmem hp with ⟨rfl, rfl⟩ | ⟨hp2, hne⟩
    · rcases hmem hq with ⟨rfl, rfl⟩ | ⟨hq2, hne2⟩
      · exact ⟨rfl, rfl⟩
      · rw [if_pos ⟨rfl, rfl⟩] at hb1
        rw [if_neg hne2] at hb2
        rcases hf hp1 b hb1 with ⟨e1, e2⟩ | e
        · exact h.aI j k b hj hk (s, x0) hm0 q hq2 e1 hq1 e2 hb2
        · have := h.lt b (ansB k hk q hq2 hq1 b hb2).2
          omega
    · rcases hmem hq with ⟨rfl, rfl⟩ | ⟨hq2, hne2⟩
      · rw [if_neg hne] at hb1
        rw [if_pos ⟨rfl, rfl⟩] at hb2
        rcases hf hq1 b hb2 with ⟨e1, e2⟩ | e
        · exact h.aI j k b hj hk p hp2 (s, x0) hm0 hp1 e1 hb1 e2
        · have := h.lt b (ansB j hj p hp2 hp1 b hb1).2
          omega
      · rw [if_neg hne] at hb1
        rw [if_neg hne2] at hb2
        exact h.aI j k b hj hk p hp2 q hq2 hp1 hq1 hb1 hb2
/-- a slot more, at the end -/
theorem RIn.add {M : Nat → Prop} {i : Nat} {s : Int} {A' : Option Addr} {c' : Nat} (h : RIn S w r An cn Am cm G a) (hi : i < G.nds.length) (hx0 : getA s (G.nd i).sl = none)
    (hu : Upd M w w') (hM : ∀ k, M k → k = a.nb i ∨ (a.row G i).ownBlock = some k) (hS : ∀ k, S k → S' k) (hl : ∀ k, S' k → k < w'.heap.size)
    (hb : Blk w' (a.nb i) 98 #[.bool (G.nd i).up, .slice A' ((G.nd i).sl.length + 1) c'])
    (hrow : OwnS S' w' 103 15 (.slice A' ((G.nd i).sl.length + 1) c') ((G.nd i).sl.length + 1) (rrow (G.nd i).sl (a.z i) ++ rcells s sl0 rj0))
    (hf : ∀ b, (Value.slice A' ((G.nd i).sl.length + 1) c').ownBlock = some b → (a.row G i).ownBlock = some b ∨ w.heap.size ≤ b) :
    RIn S' w' r An cn Am cm (G.setSl i s sl0) ({ a with lA := fun j => if j = i then A' else a.lA j, lc := fun j => if j = i then c' else a.lc j, z := fun j t => if j = i ∧ t = s then rj0 else a.z j t }) := by
  obtain ⟨n1, n2, n3, ho⟩ := h.nd i hi
  have rowB : ∀ k, (a.row G i).ownBlock = some k → ∃ cs, Blk w k 103 cs := fun k hk => (own_blk n3 hk).1
  have ansB : ∀ j, j < G.nds.length → ∀ p ∈ (G.nd j).sl, p.2.bid.isSome → ∀ b, (a.z j p.1).blk = some b → (∃ cs, Blk w b 118 cs) ∧ S b := fun j hj p hp hs b hb => by
    obtain ⟨d, hd⟩ := Option.isSome_iff_exists.1 hs
    obtain ⟨_, _, _, _, h5⟩ := h.ans j hj p hp d hd
    exact own_blk h5 hb
  have kB : ∀ (e : TypeId) b cs, e ≠ 103 → e ≠ 98 → Blk w b e cs → w'.heap[b]? = w.heap[b]? := fun e b cs h1 h2 hb => hu.block b hb.lt fun hm => by
    rcases hM b hm with rfl | hk
    · exact hb.ne_ n1 h2 rfl
    · obtain ⟨cs', hb2⟩ := rowB b hk
      exact hb.ne_ hb2 h1 rfl
  have hlen : (G.setSl i s sl0).nds.length = G.nds.length := Gr.len_set _ _ _
  have hnd : ∀ j, (G.setSl i s sl0).nd j = if j = i then ⟨(G.nd i).up, (G.nd i).sl ++ [(s, sl0)]⟩ else G.nd j := fun j => by
    unfold Gr.setSl; rw [Gr.nd_set _ _ _ _ hi, setA_none hx0]
  have hmem : ∀ {j p}, p ∈ ((G.setSl i s sl0).nd j).sl → (j = i ∧ p = (s, sl0)) ∨ (p ∈ (G.nd j).sl ∧ ¬ (j = i ∧ p.1 = s)) := fun {j p} hp => by
    rw [hnd] at hp
    by_cases e : j = i
    · subst e
      rw [if_pos rfl] at hp
      rcases List.mem_append.1 hp with hp | hp
      · exact .inr ⟨hp, fun h => slot_none hx0 p hp h.2⟩
      · exact .inl ⟨rfl, by simpa using hp⟩
    · rw [if_neg e] at hp
      exact .inr ⟨hp, fun h => e h.1⟩
  obtain ⟨a', ha'⟩ : ∃ a' : Ra, a' = { a with lA := fun j => if j = i then A' else a.lA j, lc := fun j => if j = i then c' else a.lc j, z := fun j t => if j = i ∧ t = s then rj0 else a.z j t } := ⟨_, rfl⟩
  rw [← ha']
  have hrowI : a'.row (G.setSl i s sl0) i = .slice A' ((G.nd i).sl.length + 1) c' := by
    rw [ha']
    unfold Ra.row
    rw [hnd, if_pos rfl]
    simp
  have hrowE : ∀ j, j ≠ i → a'.row (G.setSl i s sl0) j = a.row G j := fun j e => by
    rw [ha']
    unfold Ra.row
    rw [hnd, if_neg e]
    simp [e]
  have hnbE : a'.nb = a.nb := by rw [ha']
  have hzE : ∀ j t, a'.z j t = if j = i ∧ t = s then rj0 else a.z j t := fun j t => by rw [ha']
  refine ⟨?_, ?_, ?_, fun j hj => ?_, fun j hj p hp => ?_, ?_, fun j k b hj hk hb1 hb2 => ?_, fun j k b hj hk p hp q hq hp1 hq1 hb1 hb2 => ?_, hS _ h.inS, hl⟩
  · rw [hlen]; exact (kB _ _ _ (by decide) (by decide) h.blk).trans h.blk
  · rw [hlen, hnbE]; exact (h.nrow.keepT fun b cs hb => kB _ b cs (by decide) (by decide) hb).more' hS
  · exact (h.mrow.keepT fun b cs hb => kB _ b cs (by decide) (by decide) hb).more' hS
  · rw [hlen] at hj
    obtain ⟨h1, h2, h3, h4⟩ := h.nd j hj
    rw [hnbE]
    by_cases e : j = i
    · subst e
      rw [hrowI, hnd, if_pos rfl]
      refine ⟨hb, hS _ h2, ?_, ?_⟩
      · simp only [List.length_append, List.length_singleton]
        have e2 : rrow ((G.nd j).sl ++ [(s, sl0)]) (a'.z j) = rrow (G.nd j).sl (a.z j) ++ rcells s sl0 rj0 := by
          unfold rrow
          rw [List.flatMap_append]
          congr 1
          · exact rrow_congr fun p hp => by rw [hzE, if_neg fun h => slot_none hx0 p hp h.2]
          · simp [hzE]
        rw [e2]
        exact hrow
      · have := (h4.set (k := s) (v := sl0))
        rwa [setA_none hx0] at this
    · rw [hrowE j e, hnd, if_neg e]
      have ez : a'.z j = a.z j := by funext t; rw [hzE, if_neg fun h => e h.1]
      rw [ez]
      refine ⟨(hu.block _ h1.lt fun hm => ?_).trans h1, hS _ h2, h3.keepB hS fun b hb' => hu.block b (h.lt b (h3.2 b hb')) fun hm => ?_, h4⟩
      · rcases hM _ hm with hk | hk
        · exact e (h.nbI j i hj hi hk)
        · obtain ⟨cs', hb2⟩ := rowB _ hk
          exact h1.ne_ hb2 (by decide) rfl
      · obtain ⟨⟨cs, hb1⟩, _⟩ := own_blk h3 hb'
        rcases hM b hm with rfl | hk
        · exact hb1.ne_ n1 (by decide) rfl
        · exact e (h.laI j i b hj hi hb' hk)
  · rw [hlen] at hj
    rcases hmem hp with ⟨rfl, rfl⟩ | ⟨hp2, hne⟩
    · exact fun d hd => by cases hd
    · rw [hzE, if_neg hne]
      refine (h.ans j hj p hp2).keep hS fun b hs hb' => ?_
      obtain ⟨⟨cs, hb1⟩, _⟩ := ansB j hj p hp2 hs b hb'
      exact kB _ b cs (by decide) (by decide) hb1
  · rw [hlen, hnbE]; exact h.nbI
  · rw [hlen] at hj hk
    by_cases e1 : j = i
    · by_cases e2 : k = i
      · rw [e1, e2]
      · rw [e1, hrowI] at hb1
        rw [hrowE k e2] at hb2
        rcases hf b hb1 with hb1 | hb1
        · exact absurd (h.laI i k b hi hk hb1 hb2).symm e2
        · have := h.lt b ((h.nd k hk).2.2.1.2 b hb2)
          omega
    · rw [hrowE j e1] at hb1
      by_cases e2 : k = i
      · rw [e2, hrowI] at hb2
        rcases hf b hb2 with hb2 | hb2
        · exact absurd (h.laI j i b hj hi hb1 hb2) e1
        · have := h.lt b ((h.nd j hj).2.2.1.2 b hb1)
          omega
      · rw [hrowE k e2] at hb2
        exact h.laI j k b hj hk hb1 hb2
  · rw [hlen] at hj hk
    rcases hmem hp with ⟨_, rfl⟩ | ⟨hp2, hne⟩
    · cases hp1
    · rcases hmem hq with ⟨_, rfl⟩ | ⟨hq2, hne2⟩
      · cases hq1
      · rw [hzE, if_neg hne] at hb1
        rw [hzE, if_neg hne2] at hb2
        exact h.aI j k b hj hk p hp2 q hq2 hp1 hq1 hb1 hb2
end

end Go.Proofs.Ytbgopicpdpkccaa

namespace Go.Proofs.Ytbgopicpdpkccaa
open Go.RowKit
set_option linter.unusedVariables false
set_option linter.unusedSimpArgs false

section
variable {S : Nat → Prop} {w w' : World} {g : Nat} {G : Gr}
set_option maxRecDepth 100000 in
set_option maxHeartbeats 2000000 in
theorem rsend_any (m : Ml) (h : RAt S w g G) : Calls Try.prog 68 #[.pointer (some ⟨g, 0, none⟩), .agg #[.int .i64 m.kind, .int .i64 m.fr, .int .i64 m.dst, .int .i64 m.slot, .int .i64 m.bal.rd, .int .i64 m.bal.nd, .int .i64 m.had.rd, .int .i64 m.had.nd, .string m.text]] w fun e w' => e = .returned (.tuple #[]) ∧ RGo S w g (G.send m) w' := by
  have hB : Below w.heap.size w (w.alloc (.cells #[.int .i64 m.kind, .int .i64 m.fr, .int .i64 m.dst, .int .i64 m.slot, .int .i64 m.bal.rd, .int .i64 m.bal.nd, .int .i64 m.had.rd, .int .i64 m.had.nd, .string m.text] 78)) := (Below.refl _ _).alloc (Nat.le_refl _) _
  have kb := Blk.new w 78 #[.int .i64 m.kind, .int .i64 m.fr, .int .i64 m.dst, .int .i64 m.slot, .int .i64 m.bal.rd, .int .i64 m.bal.nd, .int .i64 m.had.rd, .int .i64 m.had.nd, .string m.text]
  obtain ⟨An, cn, Am, cm, a, q0⟩ := h
  have hSlt := q0.lt
  have q := q0.below hB
  clear q0
  obtain ⟨c0, c1⟩ := q.cells
  by_cases hfull : G.mail.length < 4096
  · have hsend : G.send m = G.setMail (G.mail ++ [m]) := by unfold Gr.send; rw [if_pos hfull]
    rw [hsend]
    clear hsend
    have dd : decide ((G.mail.length : Int) < 4096) = true := decide_eq_true (by omega)
    have dd2 : decide (G.mail.length < 4096) = true := by simpa using hfull
    obtain ⟨im, him, hm0, hm1, hm2⟩ := info_parts info_mail
    go_enter Try.func68, Try.ntmps68
    go_upto_region 1 with fail
    generalize w.alloc (.cells #[.int .i64 m.kind, .int .i64 m.fr, .int .i64 m.dst, .int .i64 m.slot, .int .i64 m.bal.rd, .int .i64 m.bal.nd, .int .i64 m.had.rd, .int .i64 m.had.nd, .string m.text] 78) = W1 at *
    have e0 : W1.cell? ⟨w.heap.size, 0, none⟩ = some (.int .i64 m.kind) := kb.cell 0
    have e1 : W1.cell? ⟨w.heap.size, 1, none⟩ = some (.int .i64 m.fr) := kb.cell 1
    have e2 : W1.cell? ⟨w.heap.size, 2, none⟩ = some (.int .i64 m.dst) := kb.cell 2
    have e3 : W1.cell? ⟨w.heap.size, 3, none⟩ = some (.int .i64 m.slot) := kb.cell 3
    have e4 : W1.cell? ⟨w.heap.size, 4, none⟩ = some (.int .i64 m.bal.rd) := kb.cell 4
    have e5 : W1.cell? ⟨w.heap.size, 5, none⟩ = some (.int .i64 m.bal.nd) := kb.cell 5
    have e6 : W1.cell? ⟨w.heap.size, 6, none⟩ = some (.int .i64 m.had.rd) := kb.cell 6
    have e7 : W1.cell? ⟨w.heap.size, 7, none⟩ = some (.int .i64 m.had.nd) := kb.cell 7
    have e8 : W1.cell? ⟨w.heap.size, 8, none⟩ = some (.string m.text) := kb.cell 8
    have hgl := q.blk.lt
    have qf := fun j => q.blk.frozen j
    have hrow0 := q.mrow.1
    have hne0 : ∀ k, (Value.slice Am G.mail.length cm).ownBlock = some k → k ≠ g ∧ S k ∧ ∃ cs, Blk W1 k 78 cs := fun k hk => by
      have hSk := q.mrow.2 k hk
      rcases q.mrow.1.2 with ⟨h0, _⟩ | ⟨gr, cap, cur, hvv, _, hbb, _⟩
      · rw [h0] at hk; simp [Value.ownBlock] at hk
      · rw [hvv] at hk
        have : gr = k := by simpa [Value.ownBlock] using hk
        subst this
        exact ⟨(q.blk.ne_ (t' := 78) (cs' := cur) hbb (by decide)).symm, hSk, _, hbb⟩
    have hne := hid hne0
    have hq := hid q
    clear q hne0 kb
    go_wp2_with fail
    go_region_law
      (refine step_append_rd _ rfl (.tmp 14) (.tmp 16) 58 rfl 0 78 im _ 9 80 Try.underlying58 him hm0 hm1 hm2 rfl (by omega) (.slice Am G.mail.length cm) G.mail.length (mcells G.mail) rfl ?_ (fun b => b = W1.heap.size) (some ⟨W1.heap.size, 0, none⟩) 1 1 m.cells rfl ?_ ?_ ?_ ?_ ?_ (G.mail.length + 1) rfl (mcells G.mail ++ m.cells) rfl ?_
       go_must (
         · exact (hrow0.alloc _).drew
         · exact (Rd.new W1 78 9 1 m.cells.toArray _ rfl rfl).drew
         · exact fun u hu => mcells_one [m] u (by simpa [mcells] using hu)
         · simp only [maxLen]; omega
         · omega
         · exact Nat.zero_le _
         intro A2 c2' w2 hown2 hg2 hat2
         have hu2 : Upd (fun k => (Value.slice Am G.mail.length cm).ownBlock = some k) W1 w2 := (((Upd.refl _ W1).alloc _).drew).grown hg2 fun k hk _ => hk
         have hk2 : w2.cell? ⟨g, 1, none⟩ = some (.slice Am G.mail.length cm) := hu2.cell c1 fun hm => (hne.out g hm).1 rfl
         have hb2' := hq.out.blk.upd hu2 fun hm => (hne.out g hm).1 rfl
         have hf2' := fun j => hb2'.frozen j
         have hb2 := hid hb2'
         clear hb2'))
    all_goals
      go_wp2_with fail
      go_end0
      have q := hq.out
      have hu3 : Upd (fun k => (Value.slice Am G.mail.length cm).ownBlock = some k ∨ k = g) W1 (w2.setCell ⟨g, 1, none⟩ (.slice A2 (G.mail.length + 1) c2')) := (hu2.mono fun k _ h => .inl h).setCell (p := ⟨g, 1, none⟩) (fun _ => .inr rfl) _
      have hl1 : (G.mail ++ [m]).length = G.mail.length + 1 := by simp
      have hpc : mcells (G.mail ++ [m]) = mcells G.mail ++ m.cells := by rw [mcells_app]; simp [mcells]
      have hz2 := hu2.size
      have hzB := hB.size
      refine ⟨rfl, fun k => S k ∨ w.heap.size ≤ k ∧ k < w2.heap.size, ⟨_, _, A2, c2', _, q.post hu3 ?_ (fun k h => .inl h) ?_ (by rw [hl1]; exact hb2.out.set_ 1 _) ?_⟩, fun k h => h.imp id (·.1), ?_⟩
      · rintro k (h | h)
        · exact .inr (hne.out k h).2.2
        · exact .inl h
      · rintro k (h | h)
        · have := q.lt k h; simp; omega
        · simpa using h.2
      · rw [hl1, hpc]
        refine OwnS.keepT (w := w2) ⟨hown2, fun b hb => ?_⟩ fun b cs hb => Below.heap_setCell _ _ _ _ fun e => hb2.out.ne_ hb (by decide) e.symm
        have hlt := (hown2.lt b hb).2
        rcases hat2 with h | h
        · rw [h] at hb; exact .inl (hne.out b hb).2.1
        · rw [h] at hb; injection hb with hb; simp at hb; exact .inr ⟨by omega, hlt⟩
      · refine (Upd.of_below' hB _).trans (hu3.mono (M' := S) fun k _ h => ?_) fun k _ h => h
        rcases h with h | rfl
        · exact (hne.out k h).2.1
        · exact q.inS
  · have hsend : G.send m = G := by unfold Gr.send; rw [if_neg hfull]
    rw [hsend]
    have hfin : Hid (RGo S w g G (w.alloc (.cells #[.int .i64 m.kind, .int .i64 m.fr, .int .i64 m.dst, .int .i64 m.slot, .int .i64 m.bal.rd, .int .i64 m.bal.nd, .int .i64 m.had.rd, .int .i64 m.had.nd, .string m.text] 78))) := hid ⟨S, ⟨_, _, _, _, _, q⟩, fun _ h => .inl h, .of_below' hB _⟩
    have dd : decide ((G.mail.length : Int) < 4096) = false := decide_eq_false (by omega)
    have dd2 : decide (G.mail.length < 4096) = false := decide_eq_false hfull
    clear q hsend
    go_enter Try.func68, Try.ntmps68
    go_wp2_with fail
    go_end0
    exact ⟨rfl, hfin.out⟩
end
section
variable {S : Nat → Prop} {w w' : World} {g : Nat} {An Am : Option Addr} {cn cm : Nat} {G : Gr} {a : Ra}
set_option maxRecDepth 100000 in
set_option maxHeartbeats 2000000 in
theorem rall_any (m : Ml) (h : RAt S w g G) (hn : G.nds.length ≤ 1000) : Calls Try.prog 67 #[.pointer (some ⟨g, 0, none⟩), .agg #[.int .i64 m.kind, .int .i64 m.fr, .int .i64 m.dst, .int .i64 m.slot, .int .i64 m.bal.rd, .int .i64 m.bal.nd, .int .i64 m.had.rd, .int .i64 m.had.nd, .string m.text]] w fun e w' => e = .returned (.tuple #[]) ∧ RGo S w g (G.sendAll m) w' := by
  have hB : Below w.heap.size w (w.alloc (.cells #[.int .i64 m.kind, .int .i64 m.fr, .int .i64 m.dst, .int .i64 m.slot, .int .i64 m.bal.rd, .int .i64 m.bal.nd, .int .i64 m.had.rd, .int .i64 m.had.nd, .string m.text] 78)) := (Below.refl _ _).alloc (Nat.le_refl _) _
  have kb := Blk.new w 78 #[.int .i64 m.kind, .int .i64 m.fr, .int .i64 m.dst, .int .i64 m.slot, .int .i64 m.bal.rd, .int .i64 m.bal.nd, .int .i64 m.had.rd, .int .i64 m.had.nd, .string m.text]
  have hSlt := h.lt.1
  have h1 := h.below hB
  obtain ⟨An, cn, Am, cm, a, q⟩ := id h1
  obtain ⟨c0, c1⟩ := q.cells
  have hz := kb.lt
  have hsz1 : w.heap.size + 1 = (w.alloc (.cells #[.int .i64 m.kind, .int .i64 m.fr, .int .i64 m.dst, .int .i64 m.slot, .int .i64 m.bal.rd, .int .i64 m.bal.nd, .int .i64 m.had.rd, .int .i64 m.had.nd, .string m.text] 78)).heap.size := by simp
  clear q h
  go_enter Try.func67, Try.ntmps67
  go_upto_region 1 with fail
  generalize w.alloc (.cells #[.int .i64 m.kind, .int .i64 m.fr, .int .i64 m.dst, .int .i64 m.slot, .int .i64 m.bal.rd, .int .i64 m.bal.nd, .int .i64 m.had.rd, .int .i64 m.had.nd, .string m.text] 78) = W1 at *
  go_wp2_with fail
  go_loopw [4] (fun v wr => ∃ (k : Nat) (S' : Nat → Prop) (d : Int), v = .int .i64 k ∧ k ≤ G.nds.length ∧ RAt S' wr g (G.sendTo m k) ∧ (∀ k, S' k → S k ∨ W1.heap.size ≤ k) ∧ Upd S w wr ∧ Blk wr w.heap.size 78 #[.int .i64 m.kind, .int .i64 m.fr, .int .i64 d, .int .i64 m.slot, .int .i64 m.bal.rd, .int .i64 m.bal.nd, .int .i64 m.had.rd, .int .i64 m.had.nd, .string m.text]) (fun v _ => G.nds.length - (intOf v).toNat)
  case atStart => exact ⟨0, S, m.dst, rfl, Nat.zero_le _, h1, fun _ h => .inl h, .of_below' hB _, kb⟩
  case round =>
    clear h1 kb c0 c1
    obtain ⟨k, S', d, rfl, hk, q, hS, hu, kb⟩ := hrel
    obtain ⟨Anr, cnr, Amr, cmr, ar, qr⟩ := id q
    have c0 := qr.cells.1
    rw [Gr.sendTo_nds] at c0
    clear qr
    have hqz := q.lt.1
    have hWz : W1.heap.size ≤ wr.heap.size := hsz1 ▸ kb.lt
    by_cases hlt : k < G.nds.length
    · have i1 : (k : Int) < (G.nds.length : Int) := by omega
      have x2 : wr.cell? ⟨w.heap.size, 2, none⟩ = some (.int .i64 d) := kb.cell 2
      have qz := fun j => kb.frozen j
      have hne : ∀ k, S' k → k ≠ w.heap.size := fun k hk => by
        rcases hS k hk with h | h
        · have := hSlt k h; omega
        · omega
      have q2 : RAt S' (wr.setCell ⟨w.heap.size, 2, none⟩ (.int .i64 (k : Int))) g (G.sendTo m k) := by
        obtain ⟨An, cn, Am, cm, a, q⟩ := q
        exact ⟨An, cn, Am, cm, a, q.far (M := fun k => k = w.heap.size) ((Upd.refl (fun k => k = w.heap.size) wr).setCell (p := ⟨w.heap.size, 2, none⟩) (fun _ => rfl) _) fun k hk e => hne k hk e⟩
      have kb2 : Blk (wr.setCell ⟨w.heap.size, 2, none⟩ (.int .i64 (k : Int))) w.heap.size 78 #[.int .i64 m.kind, .int .i64 m.fr, .int .i64 (k : Int), .int .i64 m.slot, .int .i64 m.bal.rd, .int .i64 m.bal.nd, .int .i64 m.had.rd, .int .i64 m.had.nd, .string m.text] := kb.set_ 2 _
      have hu2 : Upd S w (wr.setCell ⟨w.heap.size, 2, none⟩ (.int .i64 (k : Int))) := hu.setCell (p := ⟨w.heap.size, 2, none⟩) (fun h => absurd h (Nat.lt_irrefl _)) _
      have hzz : (wr.setCell ⟨w.heap.size, 2, none⟩ (.int .i64 (k : Int))).heap.size = wr.heap.size := by simp
      clear q
      go_upto_region 5 with fail
      generalize wr.setCell ⟨w.heap.size, 2, none⟩ (.int .i64 (k : Int)) = w2 at *
      have e0 : w2.cell? ⟨w.heap.size, 0, none⟩ = some (.int .i64 m.kind) := kb2.cell 0
      have e1 : w2.cell? ⟨w.heap.size, 1, none⟩ = some (.int .i64 m.fr) := kb2.cell 1
      have e2 : w2.cell? ⟨w.heap.size, 2, none⟩ = some (.int .i64 (k : Int)) := kb2.cell 2
      have e3 : w2.cell? ⟨w.heap.size, 3, none⟩ = some (.int .i64 m.slot) := kb2.cell 3
      have e4 : w2.cell? ⟨w.heap.size, 4, none⟩ = some (.int .i64 m.bal.rd) := kb2.cell 4
      have e5 : w2.cell? ⟨w.heap.size, 5, none⟩ = some (.int .i64 m.bal.nd) := kb2.cell 5
      have e6 : w2.cell? ⟨w.heap.size, 6, none⟩ = some (.int .i64 m.had.rd) := kb2.cell 6
      have e7 : w2.cell? ⟨w.heap.size, 7, none⟩ = some (.int .i64 m.had.nd) := kb2.cell 7
      have e8 : w2.cell? ⟨w.heap.size, 8, none⟩ = some (.string m.text) := kb2.cell 8
      clear x2 qz
      go_wp2_with fail
      refine (rsend_any { m with dst := (k : Int) } q2).mono ?_
      rintro e w3 ⟨rfl, S3, h3, hS3, hu3⟩
      have hst := G.sendTo_succ m k
      rw [← hst] at h3
      have hst := 0
      have kb3 := kb2.upd hu3 fun h => hne _ h rfl
      have hz2 := hu3.size
      clear q2 kb2
      go_wp2_with fail
      go_roundw
      case rel =>
        refine ⟨k + 1, S3, k, by go_num, hlt, h3, fun j hj => ?_, ?_, kb3⟩
        · rcases hS3 j hj with h | h
          · exact hS j h
          · exact .inr (by omega)
        · exact hu2.trans hu3 fun j hj h => by
            rcases hS j h with h | h
            · exact h
            · have := hB.size; omega
      case measure => simp [intOf]; omega
    · obtain rfl : k = G.nds.length := by omega
      go_wp2_with fail
      go_end0
      refine ⟨rfl, S', q, fun j hj => ?_, ?_⟩
      · rcases hS j hj with h | h
        · exact .inl h
        · have := hB.size; exact .inr (by omega)
      · exact hu
end

end Go.Proofs.Ytbgopicpdpkccaa

namespace Go.Proofs.Ytbgopicpdpkccaa
open Go.RowKit
set_option linter.unusedVariables false
set_option linter.unusedSimpArgs false

/-- a message handled, as if no answer had an older text -/
def Gr.hand1 (G : Gr) (i : Nat) (s : Int) (x : Sl) (m : Ml) : Gr :=
  if m.kind = 1 then G.prepare i s x m else if m.kind = 2 then (match x.cnts m false with
    | none => G
    | some d2 => if d2.ans.length = G.nds.length / 2 + 1 then G.promised i s x m d2 ⟨bal0, d2.text⟩ else G.setSl i s { x with bid := some d2 })
  else if m.kind = 3 then G.accept i s x m else if m.kind = 4 then G.acceptedOf i s x m else if m.kind = 5 then G.learn i s x m else G.ask m
def Gr.plain (x : Sl) (m : Ml) : Bool := match x.cnts m false with
  | none => true
  | some d2 => d2.ans.all fun p => decide (p.2.bal.rd ≤ 0)
theorem handle_one {G G' : Gr} {i : Nat} {s : Int} {x : Sl} {m : Ml} (hp : Gr.plain x m = true) (h : G.Handle i s x m G') : G' = G.hand1 i s x m := by
  unfold Gr.Handle at h
  unfold Gr.hand1
  by_cases h1 : m.kind = 1
  · rw [if_pos h1] at h; rw [if_pos h1]; exact h
  rw [if_neg h1] at h; rw [if_neg h1]
  by_cases h2 : m.kind = 2
  · rw [if_pos h2] at h; rw [if_pos h2]
    unfold Gr.Promise at h
    unfold Gr.plain at hp
    cases hc : x.cnts m false with
    | none => rw [hc] at h; exact h
    | some d2 =>
      rw [hc] at h hp
      simp only at h hp ⊢
      by_cases h3 : d2.ans.length = G.nds.length / 2 + 1
      · rw [if_pos h3] at h; rw [if_pos h3]
        obtain ⟨best, ⟨hb, _⟩, h⟩ := h
        rcases hb with rfl | ⟨p, hp1, rfl, hp2⟩
        · exact h
        · have := List.all_eq_true.1 hp p hp1
          have := of_decide_eq_true this
          omega
      · rw [if_neg h3] at h; rw [if_neg h3]; exact h
  rw [if_neg h2] at h; rw [if_neg h2]
  exact (by
    split at h
    · rename_i h3; rw [if_pos h3]; exact h
    · rename_i h3; rw [if_neg h3]
      split at h
      · rename_i h4; rw [if_pos h4]; exact h
      · rename_i h4; rw [if_neg h4]
        split at h
        · rename_i h5; rw [if_pos h5]; exact h
        · rename_i h5; rw [if_neg h5]; exact h)
/-- the first message comes -/
def Gr.step0 (G : Gr) : Gr := match G.mail with
  | [] => G
  | m :: _ => if (G.nd m.dst.toNat).up = true then ((G.gone 0).touch m.dst.toNat m.slot).hand1 m.dst.toNat m.slot ((G.gone 0).at_ m.dst.toNat m.slot) m else G.gone 0
def Gr.good0 (G : Gr) : Bool := match G.mail with
  | [] => true
  | m :: _ => decide (1 ≤ m.kind) && decide (m.kind ≤ 6) && decide (0 ≤ m.dst) && decide (m.dst < G.nds.length) && decide (0 ≤ m.slot) && decide (m.slot ≤ 1000) && decide (G.nds.length ≤ 1000) && decide (G.mail.length ≤ 100000) && Gr.plain ((G.gone 0).at_ m.dst.toNat m.slot) m
def liveG : Nat → Gr
  | 0 => (grN 3).propose 0 0 ⟨#[120]⟩
  | n + 1 => (liveG n).step0
/-- where the loop of live stands -/
def LGo (w wr : World) (k : Nat) : Prop := ∃ S, GAt S wr w.heap.size (liveG k) ∧ (∀ j, S j → w.heap.size ≤ j) ∧ Below w.heap.size w wr
def Gr.same (G H : Gr) : Bool := decide (G = H)
theorem live_good : (List.range 40).all (fun i => (liveG i).good0) = true := by decide +kernel
theorem live_code : (grN 3).code 0 0 ⟨#[120]⟩ = 0 := by decide +kernel
theorem live_rd : ((grN 3).at_ 0 0).rd = 0 := by decide +kernel
theorem live_end : (((liveG 40).st 2 0).text = ⟨#[120]⟩ ∧ ((liveG 40).st 2 0).is = true) ∧ (liveG 40).mail = [] := by decide +kernel
section
variable {S : Nat → Prop} {w w' : World} {g : Nat} {An Am : Option Addr} {cn cm : Nat} {G : Gr} {a : Ad}
set_option maxRecDepth 100000 in
set_option maxHeartbeats 1000000 in
theorem deliver_no (k : Int) (h : GAt S w g G) (hk : k < 0 ∨ (G.mail.length : Int) ≤ k) : Calls Try.prog 19 #[.pointer (some ⟨g, 0, none⟩), .int .i64 k] w fun e w' => e = .returned (.bool false) ∧ w' = w := by
  obtain ⟨An, cn, Am, cm, a, q⟩ := h
  obtain ⟨c0, c1⟩ := q.cells
  clear q
  by_cases h0 : k < 0
  · have t1 : decide (k < 0) = true := decide_eq_true h0
    clear h0 hk
    go_enter Try.func19, Try.ntmps19
    go_wp2_with fail
    go_ret
    exact ⟨rfl, rfl⟩
  · have t1 : decide (k < 0) = false := decide_eq_false h0
    have t2 : decide ((G.mail.length : Int) ≤ k) = true := decide_eq_true (by omega)
    clear h0 hk
    go_enter Try.func19, Try.ntmps19
    go_wp2_with fail
    go_ret
    exact ⟨rfl, rfl⟩
/-- the first message, if there is any -/
theorem deliver_first (h : GAt S w g G) (hg : G.good0 = true) : Calls Try.prog 19 #[.pointer (some ⟨g, 0, none⟩), .int .i64 0] w fun e w' => (∃ b, e = .returned (.bool b)) ∧ GGo S w g G.step0 w' := by
  cases hm : G.mail with
  | nil =>
    have hs : G.step0 = G := by unfold Gr.step0; rw [hm]
    rw [hs]
    refine (deliver_no 0 h (.inr (by rw [hm]; simp))).mono ?_
    rintro e w' ⟨rfl, rfl⟩
    exact ⟨⟨_, rfl⟩, GGo.stay h⟩
  | cons m l =>
    unfold Gr.good0 at hg
    rw [hm] at hg
    simp only [Bool.and_eq_true, decide_eq_true_eq] at hg
    obtain ⟨⟨⟨⟨⟨⟨⟨⟨g1, g2⟩, g3⟩, g4⟩, g5⟩, g6⟩, g7⟩, g8⟩, g9⟩ := hg
    have hk : 0 < G.mail.length := by rw [hm]; simp
    refine (deliver_yes 0 m h hk (by simp [hm]) ⟨g1, g2⟩ ⟨g3, g4⟩ ⟨g5, g6⟩ g7 (by rw [hm]; exact g8)).mono ?_
    rintro e w' ⟨rfl, G', hd, hgo⟩
    have : G' = G.step0 := by
      unfold Gr.step0
      rw [hm]
      unfold Gr.Deliver at hd
      simp only
      by_cases hu : (G.nd m.dst.toNat).up = true
      · rw [if_pos hu] at hd; rw [if_pos hu]
        exact handle_one g9 hd
      · rw [if_neg hu] at hd; rw [if_neg hu]; exact hd
    exact ⟨⟨_, rfl⟩, this ▸ hgo⟩
theorem num_any (n : Int) (w : World) : Calls Try.prog 10 #[.int .i64 n] w fun e w' => e = .returned (.int .i64 n) ∧ w' = w := by
  go_enter Try.func10, Try.ntmps10
  go_wp2_with fail
  go_ret
  exact ⟨rfl, rfl⟩
set_option maxRecDepth 100000 in
set_option maxHeartbeats 2000000 in
theorem live_any (w : World) : Calls Try.prog 11 #[] w fun e w' => e = .returned (.bool true) ∧ Below w.heap.size w w' := by
  go_enter Try.func11, Try.ntmps11
  go_wp2_with fail
  refine (new_ok 3 w (by omega)).mono ?_
  rintro e w1 ⟨S1, rfl, h1, hS1, hb1⟩
  have H1 := hid h1; have HS1 := hid hS1; have Hb1 := hid hb1
  clear h1 hS1 hb1
  go_wp2_with (go_at_call 10; refine (num_any _ _).mono ?_; rintro e w2 ⟨rfl, rfl⟩)
  refine (propose_any 0 0 ⟨#[120]⟩ H1.out ⟨by decide, by decide⟩ ?_).mono ?_
  · have e : ((grN 3).at_ (Int.toNat 0) 0).rd = 0 := live_rd; omega
  rintro e w2 ⟨rfl, hgo2⟩
  rw [live_code]
  obtain ⟨S2, k2, kS2, ku2⟩ := hgo2
  have h0 : Hid (LGo w w2 0) := hid ⟨S2, k2, fun j hj => (kS2 j hj).elim (fun h => HS1.out j h) fun h => Nat.le_trans Hb1.out.size h, Hb1.out.trans (Upd.below ku2 Hb1.out.size fun j hj hm => by have := HS1.out j hm; omega)⟩
  clear k2 kS2 ku2
  go_wp2_with (go_at_call 10; refine (num_any _ _).mono ?_; rintro e w3 ⟨rfl, rfl⟩)
  go_loopw [3] (fun v wr => ∃ k : Nat, v = .int .i64 k ∧ k ≤ 40 ∧ LGo w wr k) (fun v _ => 40 - (intOf v).toNat)
  case atStart => exact ⟨0, rfl, by omega, h0.out⟩
  case round =>
    clear h0 H1 HS1 Hb1
    obtain ⟨k, rfl, hk, hL0⟩ := hrel
    have hL := hid hL0
    clear hL0
    by_cases hlt : k < 40
    · have i1 : (k : Int) < 40 := by omega
      obtain ⟨S, q, hS, hB⟩ := hL.out
      have hg : (liveG k).good0 = true := List.all_eq_true.1 live_good k (List.mem_range.2 hlt)
      have hd := hid (deliver_first q hg)
      have HS := hid hS; have HB := hid hB
      clear q hS hB hL
      go_wp2_with fail
      refine hd.out.mono ?_
      rintro e w4 ⟨⟨b, rfl⟩, S4, k4, kS4, ku4⟩
      have h4 : Hid (LGo w w4 (k + 1)) := hid ⟨S4, k4, fun j hj => (kS4 j hj).elim (fun h => HS.out j h) fun h => Nat.le_trans HB.out.size h, HB.out.trans (Upd.below ku4 HB.out.size fun j hj hm => by have := HS.out j hm; omega)⟩
      clear k4 kS4 ku4
      have hw : IntKind.i64.wrap ((k : Int) + 1) = (k : Int) + 1 := IntWalk.i64_in _ (by omega)
      go_wp2_with fail
      exact ⟨⟨k + 1, by simp, by omega, h4.out⟩, by simp [intOf]; omega⟩
    · obtain rfl : k = 40 := by omega
      obtain ⟨S, q, hS, hB⟩ := hL.out
      have hld := hid (learned_any 2 0 q)
      have Hq := hid q; have HS := hid hS; have HB := hid hB
      clear q hS hB hL
      go_wp2_with fail
      refine hld.out.mono ?_
      rintro e w4 ⟨rfl, hb4⟩
      obtain ⟨⟨le1, le2⟩, le3⟩ := live_end
      rw [le1, le2]
      have hml := mail_any (Hq.out.below hb4) (by rw [le3]; simp)
      rw [le3] at hml
      have hml2 := hid hml
      clear hml
      have Hb4 := hid hb4
      clear hb4
      go_wp2_with fail
      refine hml2.out.mono ?_
      rintro e w5 ⟨v, rfl, hv⟩
      obtain ⟨A5, c5, rfl, hc5, _⟩ := own_form hv.1
      have hb5 := hid hv.2
      have hbf : Hid (Below w.heap.size w w5) := hid (HB.out.trans ((Hb4.out.mono HB.out.size).trans (hb5.out.mono (Nat.le_trans HB.out.size Hb4.out.size))))
      clear hv
      go_wp2_with fail
      go_ret
      exact ⟨rfl, hbf.out⟩
end

end Go.Proofs.Ytbgopicpdpkccaa

