/- Texts of the proof, joined: GData, GFoc, GSend, GNew, GNode, GCmp. -/
import Derived.Test.YtbgopicpdpkccaaJ01
namespace Go.Proofs.Ytbgopicpdpkccaa
open Go.RowKit
set_option linter.unusedVariables false
set_option linter.unusedSimpArgs false

structure Bal where
  rd : Int
  nd : Int
deriving DecidableEq
structure Vt where
  bal : Bal
  text : ByteArray
deriving DecidableEq
structure Bd where
  bal : Bal
  text : ByteArray
  acc : Bool
  ans : List (Int × Vt)
deriving DecidableEq
structure Sl where
  rd : Int
  prom : Bal
  accd : Vt
  is : Bool
  text : ByteArray
  bid : Option Bd
deriving DecidableEq
structure Nd where
  up : Bool
  sl : List (Int × Sl)
deriving DecidableEq
structure Ml where
  kind : Int
  fr : Int
  dst : Int
  slot : Int
  bal : Bal
  had : Bal
  text : ByteArray
deriving DecidableEq
structure Gr where
  nds : List Nd
  mail : List Ml
deriving DecidableEq
def bal0 : Bal := ⟨0, 0⟩
def vt0 : Vt := ⟨bal0, ⟨#[]⟩⟩
def sl0 : Sl := ⟨0, bal0, vt0, false, ⟨#[]⟩, none⟩
def nd0 : Nd := ⟨false, []⟩
def Gr.nd (G : Gr) (i : Nat) : Nd := G.nds.getD i nd0
def Gr.setNd (G : Gr) (i : Nat) (N : Nd) : Gr := { G with nds := G.nds.set i N }
def Gr.setSl (G : Gr) (i : Nat) (s : Int) (x : Sl) : Gr := G.setNd i { G.nd i with sl := setA s x (G.nd i).sl }
def Gr.setMail (G : Gr) (l : List Ml) : Gr := { G with mail := l }
theorem Gr.nd_set (G : Gr) (i j : Nat) (N : Nd) (h : i < G.nds.length) : (G.setNd i N).nd j = if j = i then N else G.nd j := by
  unfold Gr.setNd Gr.nd
  simp only [List.getD_eq_getElem?_getD]
  by_cases e : j = i
  · subst e; rw [if_pos rfl, List.getElem?_set_self h]; rfl
  · rw [if_neg e, List.getElem?_set_ne (fun h => e h.symm)]
theorem Gr.len_set (G : Gr) (i : Nat) (N : Nd) : (G.setNd i N).nds.length = G.nds.length := List.length_set
/-- a ballot's two cells, a vote's three -/
def Ml.cells (m : Ml) : List Value := [.int .i64 m.kind, .int .i64 m.fr, .int .i64 m.dst, .int .i64 m.slot, .int .i64 m.bal.rd, .int .i64 m.bal.nd, .int .i64 m.had.rd, .int .i64 m.had.nd, .string m.text]
def mcells (l : List Ml) : List Value := l.flatMap Ml.cells
theorem mcells_len (l : List Ml) : (mcells l).length = l.length * 9 := by
  induction l with
  | nil => rfl
  | cons m l ih => simp only [mcells, List.flatMap_cons, List.length_append, List.length_cons] at *; rw [ih]; simp [Ml.cells]; omega
theorem mcells_app (l m : List Ml) : mcells (l ++ m) = mcells l ++ mcells m := by simp [mcells]
theorem mcells_at (l : List Ml) (k j : Nat) (h : k < l.length) (hj : j < 9) : (mcells l)[k * 9 + j]? = l[k].cells[j]? := by
  induction l generalizing k with
  | nil => simp at h
  | cons m l ih =>
    cases k with
    | zero =>
      simp only [mcells, List.flatMap_cons, Nat.zero_mul, Nat.zero_add, List.getElem_cons_zero]
      rw [List.getElem?_append_left (by show j < 9; exact hj)]
    | succ k =>
      simp only [mcells, List.flatMap_cons, List.getElem_cons_succ]
      rw [List.getElem?_append_right (by show 9 ≤ _; omega), show (k + 1) * 9 + j - (Ml.cells m).length = k * 9 + j from by show (k + 1) * 9 + j - 9 = _; omega]
      exact ih k (by simpa using h)
theorem mcells_one (l : List Ml) : ∀ u ∈ mcells l, u.oneCell' = true := by
  intro u hu
  obtain ⟨m, _, hm⟩ := List.mem_flatMap.1 hu
  simp only [Ml.cells, List.mem_cons, List.not_mem_nil, or_false] at hm
  rcases hm with h | h | h | h | h | h | h | h | h <;> subst h <;> rfl
def vtV (v : Vt) : Value := .agg #[.int .i64 v.bal.rd, .int .i64 v.bal.nd, .string v.text]
def Sl.cells (s : Sl) (bb : Nat) : Array Value := #[.int .i64 s.rd, .int .i64 s.prom.rd, .int .i64 s.prom.nd, .int .i64 s.accd.bal.rd, .int .i64 s.accd.bal.nd, .string s.accd.text, .bool s.is, .string s.text, .pointer (if s.bid.isSome then some ⟨bb, 0, none⟩ else none)]
def Bd.cells (d : Bd) (ab : Nat) : Array Value := #[.int .i64 d.bal.rd, .int .i64 d.bal.nd, .string d.text, .bool d.acc, .map (some ab)]
/-- what a node has of a slot -/
def SlAt (S : Nat → Prop) (w : World) (b bb ab : Nat) (s : Sl) : Prop :=
  Blk w b 74 (s.cells bb) ∧ S b ∧ ∀ d, s.bid = some d → Blk w bb 83 (d.cells ab) ∧ S bb ∧ S ab ∧ MapIs intE w ab (d.ans.map fun p => (p.1, vtV p.2)) ∧ Once d.ans
/-- where all lies -/
structure Ad where
  nb : Nat → Nat
  mb : Nat → Nat
  sb : Nat → Int → Nat
  bb : Nat → Int → Nat
  ab : Nat → Int → Nat
def Ad.setB (a : Ad) (i : Nat) (s : Int) (b c : Nat) : Ad := { a with bb := fun j t => if j = i ∧ t = s then b else a.bb j t, ab := fun j t => if j = i ∧ t = s then c else a.ab j t }
def Ad.setS (a : Ad) (i : Nat) (s : Int) (b : Nat) : Ad := { a with sb := fun j t => if j = i ∧ t = s then b else a.sb j t }
structure GIn (S : Nat → Prop) (w : World) (g : Nat) (An : Option Addr) (cn : Nat) (Am : Option Addr) (cm : Nat) (G : Gr) (a : Ad) : Prop where
  blk : Blk w g 63 #[.slice An G.nds.length cn, .slice Am G.mail.length cm]
  nrow : OwnS S w 64 1 (.slice An G.nds.length cn) G.nds.length ((List.range G.nds.length).map fun i => .pointer (some ⟨a.nb i, 0, none⟩))
  mrow : OwnS S w 78 9 (.slice Am G.mail.length cm) G.mail.length (mcells G.mail)
  nd : ∀ i, i < G.nds.length → Blk w (a.nb i) 67 #[.bool (G.nd i).up, .map (some (a.mb i))] ∧ S (a.nb i) ∧ S (a.mb i) ∧ MapIs intE w (a.mb i) ((G.nd i).sl.map fun p => (p.1, .pointer (some ⟨a.sb i p.1, 0, none⟩))) ∧ Once (G.nd i).sl
  sl : ∀ i, i < G.nds.length → ∀ p ∈ (G.nd i).sl, SlAt S w (a.sb i p.1) (a.bb i p.1) (a.ab i p.1) p.2
  nbI : ∀ i j, i < G.nds.length → j < G.nds.length → a.nb i = a.nb j → i = j
  mbI : ∀ i j, i < G.nds.length → j < G.nds.length → a.mb i = a.mb j → i = j
  sbI : ∀ i j, i < G.nds.length → j < G.nds.length → ∀ p ∈ (G.nd i).sl, ∀ q ∈ (G.nd j).sl, a.sb i p.1 = a.sb j q.1 → i = j ∧ p.1 = q.1
  bbI : ∀ i j, i < G.nds.length → j < G.nds.length → ∀ p ∈ (G.nd i).sl, ∀ q ∈ (G.nd j).sl, p.2.bid.isSome → q.2.bid.isSome → a.bb i p.1 = a.bb j q.1 → i = j ∧ p.1 = q.1
  abI : ∀ i j, i < G.nds.length → j < G.nds.length → ∀ p ∈ (G.nd i).sl, ∀ q ∈ (G.nd j).sl, p.2.bid.isSome → q.2.bid.isSome → a.ab i p.1 = a.ab j q.1 → i = j ∧ p.1 = q.1
  mab : ∀ i j, i < G.nds.length → j < G.nds.length → ∀ q ∈ (G.nd j).sl, q.2.bid.isSome → a.mb i ≠ a.ab j q.1
  inS : S g
  lt : ∀ k, S k → k < w.heap.size
def GAt (S : Nat → Prop) (w : World) (g : Nat) (G : Gr) : Prop := ∃ An cn Am cm a, GIn S w g An cn Am cm G a
section
variable {S S' : Nat → Prop} {w w' : World} {g : Nat} {An Am : Option Addr} {cn cm : Nat} {G : Gr} {a : Ad}
theorem SlAt.keep {b bb ab : Nat} {s : Sl} (h : SlAt S w b bb ab s) (hk : ∀ k, k = b ∨ (s.bid.isSome ∧ (k = bb ∨ k = ab)) → k < w.heap.size → w'.heap[k]? = w.heap[k]?) (hS : ∀ k, S k → S' k) : SlAt S' w' b bb ab s := by
  obtain ⟨h1, h2, h3⟩ := h
  refine ⟨(hk b (.inl rfl) h1.lt).trans h1, hS _ h2, fun d hd => ?_⟩
  obtain ⟨h4, h5, h6, h7, h8⟩ := h3 d hd
  have hs : s.bid.isSome := by rw [hd]; rfl
  exact ⟨(hk bb (.inr ⟨hs, .inl rfl⟩) h4.lt).trans h4, hS _ h5, hS _ h6, h7.keep (hk ab (.inr ⟨hs, .inr rfl⟩) h7.lt), h8⟩
theorem GIn.far {M : Nat → Prop} (h : GIn S w g An cn Am cm G a) (hu : Upd M w w') (hM : ∀ k, S k → ¬ M k) : GIn S w' g An cn Am cm G a :=
  { h with
    blk := h.blk.upd hu (hM _ h.inS)
    nrow := h.nrow.keep fun b hb hl => hu.block b hl (hM b hb)
    mrow := h.mrow.keep fun b hb hl => hu.block b hl (hM b hb)
    nd := fun i hi => by
      obtain ⟨h1, h2, h3, h4, h5⟩ := h.nd i hi
      exact ⟨h1.upd hu (hM _ h2), h2, h3, h4.upd hu (hM _ h3), h5⟩
    sl := fun i hi p hp => (h.sl i hi p hp).keep (fun k hk hl => hu.block k hl (by
      obtain ⟨_, h2, h3⟩ := h.sl i hi p hp
      rcases hk with rfl | ⟨hs, hk⟩
      · exact hM _ h2
      · obtain ⟨d, hd⟩ := Option.isSome_iff_exists.1 hs
        obtain ⟨_, h5, h6, _, _⟩ := h3 d hd
        rcases hk with rfl | rfl
        · exact hM _ h5
        · exact hM _ h6)) fun _ => id
    lt := fun k hk => Nat.lt_of_lt_of_le (h.lt k hk) hu.size }
theorem GIn.below (h : GIn S w g An cn Am cm G a) (hb : Below w.heap.size w w') : GIn S w' g An cn Am cm G a := h.far (M := Nil) (.of_below' hb _) fun _ _ => id
/-- the mail is new -/
theorem GIn.post {M : Nat → Prop} {Am' : Option Addr} {cm' : Nat} {l : List Ml} (h : GIn S w g An cn Am cm G a) (hu : Upd M w w') (hM : ∀ k, M k → k = g ∨ ∃ cs, Blk w k 78 cs) (hS : ∀ k, S k → S' k) (hl : ∀ k, S' k → k < w'.heap.size)
    (hb : Blk w' g 63 #[.slice An G.nds.length cn, .slice Am' l.length cm']) (hr : OwnS S' w' 78 9 (.slice Am' l.length cm') l.length (mcells l)) : GIn S' w' g An cn Am' cm' (G.setMail l) a := by
  have hk : ∀ (e : TypeId) b cs, e ≠ 78 → e ≠ 63 → Blk w b e cs → w'.heap[b]? = w.heap[b]? := fun e b cs h1 h2 hb' => hu.block b hb'.lt fun hm => by
    rcases hM b hm with rfl | ⟨cs', hb2⟩
    · exact hb'.ne_ h.blk h2 rfl
    · exact hb'.ne_ hb2 h1 rfl
  have hm : ∀ {l : List (Int × Value)} {b}, MapIs intE w b l → w'.heap[b]? = w.heap[b]? := fun {l b} hm' => hu.block b hm'.lt fun hm => by
    rcases hM b hm with rfl | ⟨cs', hb2⟩
    · exact hm'.ne_blk h.blk rfl
    · exact hm'.ne_blk hb2 rfl
  refine ⟨hb, (h.nrow.keepT fun b cs hb' => hk _ b cs (by decide) (by decide) hb').more' hS, hr, fun i hi => ?_, fun i hi p hp => ?_, h.nbI, h.mbI, h.sbI, h.bbI, h.abI, h.mab, hS _ h.inS, hl⟩
  · obtain ⟨h1, h2, h3, h4, h5⟩ := h.nd i hi
    exact ⟨(hk _ _ _ (by decide) (by decide) h1).trans h1, hS _ h2, hS _ h3, h4.keep (hm h4), h5⟩
  · have hx := h.sl i hi p hp
    obtain ⟨h1, h2, h3⟩ := hx
    refine ⟨(hk _ _ _ (by decide) (by decide) h1).trans h1, hS _ h2, fun d hd => ?_⟩
    obtain ⟨h4, h5, h6, h7, h8⟩ := h3 d hd
    exact ⟨(hk _ _ _ (by decide) (by decide) h4).trans h4, hS _ h5, hS _ h6, h7.keep (hm h7), h8⟩
end

end Go.Proofs.Ytbgopicpdpkccaa

namespace Go.Proofs.Ytbgopicpdpkccaa
open Go.RowKit
set_option linter.unusedVariables false
set_option linter.unusedSimpArgs false

theorem setA_keys {α β : Type} (f : Int → β) {k : Int} {v v0 : α} : ∀ {l : List (Int × α)}, getA k l = some v0 → (setA k v l).map (fun p => f p.1) = l.map (fun p => f p.1) := by
  intro l
  induction l with
  | nil => intro h; cases h
  | cons p l ih =>
    intro h
    unfold getA at h
    unfold setA
    by_cases e : k = p.1
    · rw [if_pos e]; simp [e]
    · rw [if_neg e] at h; rw [if_neg e]; simp [ih h]
section
variable {S S' : Nat → Prop} {w w' : World} {g : Nat} {An Am : Option Addr} {cn cm : Nat} {G : Gr} {a : Ad}
theorem Gr.sl_set (i : Nat) (s : Int) (x : Sl) (hi : i < G.nds.length) (ho : Once (G.nd i).sl) {j : Nat} {p : Int × Sl} (hp : p ∈ ((G.setSl i s x).nd j).sl) : (j = i ∧ p = (s, x)) ∨ (p ∈ (G.nd j).sl ∧ ¬ (j = i ∧ p.1 = s)) := by
  unfold Gr.setSl at hp
  rw [Gr.nd_set _ _ _ _ hi] at hp
  by_cases e : j = i
  · subst e
    rw [if_pos rfl] at hp
    rcases setA_mem' ho hp with h | ⟨h1, h2⟩
    · exact .inl ⟨rfl, h⟩
    · exact .inr ⟨h1, fun h => h2 h.2⟩
  · rw [if_neg e] at hp
    exact .inr ⟨hp, fun h => e h.1⟩
theorem GIn.slot {M : Nat → Prop} {i : Nat} {s : Int} {x0 x' : Sl} {bb' ab' : Nat} (h : GIn S w g An cn Am cm G a) (hi : i < G.nds.length) (hx0 : getA s (G.nd i).sl = some x0)
    (hu : Upd M w w') (hM : ∀ k, M k → k = a.sb i s ∨ (x0.bid.isSome ∧ (k = a.bb i s ∨ k = a.ab i s))) (hS : ∀ k, S k → S' k) (hl : ∀ k, S' k → k < w'.heap.size)
    (hx : SlAt S' w' (a.sb i s) bb' ab' x') (hf : x'.bid.isSome → (x0.bid.isSome ∧ bb' = a.bb i s ∧ (ab' = a.ab i s ∨ w.heap.size ≤ ab')) ∨ (w.heap.size ≤ bb' ∧ w.heap.size ≤ ab')) :
    GIn S' w' g An cn Am cm (G.setSl i s x') (a.setB i s bb' ab') := by
  have hm0 := getA_mem hx0
  obtain ⟨y1, y2, y3⟩ := h.sl i hi (s, x0) hm0
  obtain ⟨n1, n2, n3, n4, ho⟩ := h.nd i hi
  have yb : x0.bid.isSome → ∃ cs l, Blk w (a.bb i s) 83 cs ∧ MapIs intE w (a.ab i s) l := fun hs => by
    obtain ⟨d, hd⟩ := Option.isSome_iff_exists.1 hs
    obtain ⟨h4, _, _, h7, _⟩ := y3 d hd
    exact ⟨_, _, h4, h7⟩
  have kB : ∀ (e : TypeId) b cs, e ≠ 74 → e ≠ 83 → Blk w b e cs → w'.heap[b]? = w.heap[b]? := fun e b cs h1 h2 hb => hu.block b hb.lt fun hm => by
    rcases hM b hm with rfl | ⟨hs, hk⟩
    · exact hb.ne_ y1 h1 rfl
    · obtain ⟨_, _, hb1, hb2⟩ := yb hs
      rcases hk with rfl | rfl
      · exact hb.ne_ hb1 h2 rfl
      · exact hb2.ne_blk hb rfl
  have kM : ∀ (l : List (Int × Value)) b, MapIs intE w b l → (x0.bid.isSome → b ≠ a.ab i s) → w'.heap[b]? = w.heap[b]? := fun l b hb hne => hu.block b hb.lt fun hm => by
    rcases hM b hm with rfl | ⟨hs, hk⟩
    · exact hb.ne_blk y1 rfl
    · obtain ⟨_, _, hb1, hb2⟩ := yb hs
      rcases hk with rfl | rfl
      · exact hb.ne_blk hb1 rfl
      · exact hne hs rfl
  have hlen : (G.setSl i s x').nds.length = G.nds.length := Gr.len_set _ _ _
  have hmem := fun {j p} => Gr.sl_set (G := G) (j := j) (p := p) i s x' hi ho
  have hbid : ∀ j, j < G.nds.length → ∀ q ∈ (G.nd j).sl, q.2.bid.isSome → a.bb j q.1 < w.heap.size ∧ a.ab j q.1 < w.heap.size := fun j hj q hq hs => by
    obtain ⟨d, hd⟩ := Option.isSome_iff_exists.1 hs
    obtain ⟨_, _, h3⟩ := h.sl j hj q hq
    obtain ⟨h4, _, _, h7, _⟩ := h3 d hd
    exact ⟨h4.lt, h7.lt⟩
  refine ⟨?_, ?_, ?_, fun j hj => ?_, fun j hj p hp => ?_, ?_, ?_, fun j k hj hk p hp q hq e => ?_, fun j k hj hk p hp q hq hp1 hq1 e => ?_, fun j k hj hk p hp q hq hp1 hq1 e => ?_, fun j k hj hk q hq hq1 e => ?_, hS _ h.inS, hl⟩
  · rw [hlen]; exact (kB _ _ _ (by decide) (by decide) h.blk).trans h.blk
  · rw [hlen]; exact (h.nrow.keepT fun b cs hb => kB _ b cs (by decide) (by decide) hb).more' hS
  · exact (h.mrow.keepT fun b cs hb => kB _ b cs (by decide) (by decide) hb).more' hS
  · rw [hlen] at hj
    obtain ⟨h1, h2, h3, h4, h5⟩ := h.nd j hj
    have k1 := (kB _ _ _ (by decide) (by decide) h1).trans h1
    have k4 := h4.keep (kM _ _ h4 fun hs => h.mab j i hj hi (s, x0) hm0 hs)
    unfold Gr.setSl
    rw [Gr.nd_set _ _ _ _ hi]
    by_cases e : j = i
    · subst e
      rw [if_pos rfl]
      refine ⟨k1, hS _ h2, hS _ h3, ?_, h5.set⟩
      show MapIs intE w' (a.mb j) ((setA s x' (G.nd j).sl).map fun p => (p.1, Value.pointer (some ⟨a.sb j p.1, 0, none⟩)))
      rw [setA_keys (fun t => (t, Value.pointer (some ⟨a.sb j t, 0, none⟩))) hx0]
      exact k4
    · rw [if_neg e]
      exact ⟨k1, hS _ h2, hS _ h3, k4, h5⟩
  · rw [hlen] at hj
    rcases hmem hp with ⟨rfl, rfl⟩ | ⟨hp2, hne⟩
    · show SlAt S' w' (a.sb j s) (if j = j ∧ s = s then bb' else a.bb j s) (if j = j ∧ s = s then ab' else a.ab j s) x'
      rw [if_pos ⟨rfl, rfl⟩, if_pos ⟨rfl, rfl⟩]
      exact hx
    · show SlAt S' w' (a.sb j p.1) (if j = i ∧ p.1 = s then bb' else a.bb j p.1) (if j = i ∧ p.1 = s then ab' else a.ab j p.1) p.2
      rw [if_neg hne, if_neg hne]
      have hq := h.sl j hj p hp2
      obtain ⟨q1, q2, q3⟩ := hq
      refine (h.sl j hj p hp2).keep (fun k hk hl' => hu.block k hl' fun hm => ?_) hS
      rcases hk with rfl | ⟨hs, hk⟩
      · rcases hM _ hm with e | ⟨hs, e | e⟩
        · exact hne (h.sbI j i hj hi p hp2 (s, x0) hm0 e)
        · obtain ⟨_, _, hb1, hb2⟩ := yb hs
          exact q1.ne_ hb1 (by decide) e
        · obtain ⟨_, _, hb1, hb2⟩ := yb hs
          exact hb2.ne_blk q1 e.symm
      · obtain ⟨d, hd⟩ := Option.isSome_iff_exists.1 hs
        obtain ⟨q4, _, _, q7, _⟩ := q3 d hd
        rcases hk with rfl | rfl
        · rcases hM _ hm with e | ⟨hs2, e | e⟩
          · exact q4.ne_ y1 (by decide) e
          · exact hne (h.bbI j i hj hi p hp2 (s, x0) hm0 hs hs2 e)
          · obtain ⟨_, _, hb1, hb2⟩ := yb hs2
            exact hb2.ne_blk q4 e.symm
        · rcases hM _ hm with e | ⟨hs2, e | e⟩
          · exact q7.ne_blk y1 e
          · obtain ⟨_, _, hb1, hb2⟩ := yb hs2
            exact q7.ne_blk hb1 e
          · exact hne (h.abI j i hj hi p hp2 (s, x0) hm0 hs hs2 e)
  · rw [hlen]; exact h.nbI
  · rw [hlen]; exact h.mbI
  · rw [hlen] at hj hk
    have e : a.sb j p.1 = a.sb k q.1 := e
    rcases hmem hp with ⟨rfl, rfl⟩ | ⟨hp2, hne⟩
    · rcases hmem hq with ⟨rfl, rfl⟩ | ⟨hq2, hne2⟩
      · exact ⟨rfl, rfl⟩
      · exact h.sbI j k hj hk (s, x0) hm0 q hq2 e
    · rcases hmem hq with ⟨rfl, rfl⟩ | ⟨hq2, hne2⟩
      · exact h.sbI j k hj hk p hp2 (s, x0) hm0 e
      · exact h.sbI j k hj hk p hp2 q hq2 e
  · rw [hlen] at hj hk
    have e : (if j = i ∧ p.1 = s then bb' else a.bb j p.1) = (if k = i ∧ q.1 = s then bb' else a.bb k q.1) := e
    rcases hmem hp with ⟨rfl, rfl⟩ | ⟨hp2, hne⟩
    · rcases hmem hq with ⟨rfl, rfl⟩ | ⟨hq2, hne2⟩
      · exact ⟨rfl, rfl⟩
      · rw [if_pos ⟨rfl, rfl⟩, if_neg hne2] at e
        have hb := hbid k hk q hq2 hq1
        rcases hf hp1 with ⟨hs, h1, _⟩ | ⟨h1, _⟩
        · exact h.bbI j k hj hk (s, x0) hm0 q hq2 hs hq1 (h1 ▸ e)
        · omega
    · rcases hmem hq with ⟨rfl, rfl⟩ | ⟨hq2, hne2⟩
      · rw [if_neg hne, if_pos ⟨rfl, rfl⟩] at e
        have hb := hbid j hj p hp2 hp1
        rcases hf hq1 with ⟨hs, h1, _⟩ | ⟨h1, _⟩
        · exact h.bbI j k hj hk p hp2 (s, x0) hm0 hp1 hs (h1 ▸ e)
        · omega
      · rw [if_neg hne, if_neg hne2] at e
        exact h.bbI j k hj hk p hp2 q hq2 hp1 hq1 e
  · rw [hlen] at hj hk
    have e : (if j = i ∧ p.1 = s then ab' else a.ab j p.1) = (if k = i ∧ q.1 = s then ab' else a.ab k q.1) := e
    rcases hmem hp with ⟨rfl, rfl⟩ | ⟨hp2, hne⟩
    · rcases hmem hq with ⟨rfl, rfl⟩ | ⟨hq2, hne2⟩
      · exact ⟨rfl, rfl⟩
      · rw [if_pos ⟨rfl, rfl⟩, if_neg hne2] at e
        have hb := hbid k hk q hq2 hq1
        rcases hf hp1 with ⟨hs, _, h1 | h1⟩ | ⟨_, h1⟩
        · exact h.abI j k hj hk (s, x0) hm0 q hq2 hs hq1 (h1 ▸ e)
        · omega
        · omega
    · rcases hmem hq with ⟨rfl, rfl⟩ | ⟨hq2, hne2⟩
      · rw [if_neg hne, if_pos ⟨rfl, rfl⟩] at e
        have hb := hbid j hj p hp2 hp1
        rcases hf hq1 with ⟨hs, _, h1 | h1⟩ | ⟨_, h1⟩
        · exact h.abI j k hj hk p hp2 (s, x0) hm0 hp1 hs (h1 ▸ e)
        · omega
        · omega
      · rw [if_neg hne, if_neg hne2] at e
        exact h.abI j k hj hk p hp2 q hq2 hp1 hq1 e
  · rw [hlen] at hj hk
    have e : a.mb j = (if k = i ∧ q.1 = s then ab' else a.ab k q.1) := e
    rcases hmem hq with ⟨rfl, rfl⟩ | ⟨hq2, hne2⟩
    · rw [if_pos ⟨rfl, rfl⟩] at e
      have := (h.nd j hj).2.2.2.1.lt
      rcases hf hq1 with ⟨hs, _, h1 | h1⟩ | ⟨_, h1⟩
      · exact h.mab j k hj hk (s, x0) hm0 hs (e.trans h1)
      · omega
      · omega
    · rw [if_neg hne2] at e
      exact h.mab j k hj hk q hq2 hq1 e
end

end Go.Proofs.Ytbgopicpdpkccaa

namespace Go.Proofs.Ytbgopicpdpkccaa
open Go.RowKit
set_option linter.unusedVariables false
set_option linter.unusedSimpArgs false

def maxMail : Nat := 4096
def Gr.send (G : Gr) (m : Ml) : Gr := if G.mail.length < 4096 then G.setMail (G.mail ++ [m]) else G
/-- the group goes on -/
def GGo (S : Nat → Prop) (w : World) (g : Nat) (G' : Gr) (w' : World) : Prop := ∃ S', GAt S' w' g G' ∧ (∀ k, S' k → S k ∨ w.heap.size ≤ k) ∧ Upd S w w'
theorem info_mail : (Try.prog.info? 78).map (fun i => (i.zero, i.size, i.bytes)) = some (some (.agg #[.int .i64 0, .int .i64 0, .int .i64 0, .int .i64 0, .int .i64 0, .int .i64 0, .int .i64 0, .int .i64 0, .string ⟨#[]⟩]), 9, 80) := by kernel_rfl
section
variable {S : Nat → Prop} {w w' : World} {g : Nat} {An Am : Option Addr} {cn cm : Nat} {G : Gr} {a : Ad}
theorem GAt.below (h : GAt S w g G) (hb : Below w.heap.size w w') : GAt S w' g G := by
  obtain ⟨An, cn, Am, cm, a, h⟩ := h
  exact ⟨An, cn, Am, cm, a, h.below hb⟩
theorem GAt.lt (h : GAt S w g G) : (∀ k, S k → k < w.heap.size) ∧ S g := by
  obtain ⟨An, cn, Am, cm, a, h⟩ := h
  exact ⟨h.lt, h.inS⟩
theorem GGo.stay (h : GAt S w g G) : GGo S w g G w := ⟨S, h, fun _ h => .inl h, Upd.refl _ _⟩
theorem GGo.of_below (h : GAt S w g G) (hb : Below w.heap.size w w') : GGo S w g G w' := ⟨S, h.below hb, fun _ h => .inl h, .of_below' hb _⟩
theorem GIn.cells (h : GIn S w g An cn Am cm G a) : w.cell? ⟨g, 0, none⟩ = some (.slice An G.nds.length cn) ∧ w.cell? ⟨g, 1, none⟩ = some (.slice Am G.mail.length cm) := ⟨h.blk.cell 0, h.blk.cell 1⟩
/-- a node's pointer -/
theorem GIn.ptr (h : GIn S w g An cn Am cm G a) {i : Nat} (hi : i < G.nds.length) : ∃ b o, An = some ⟨b, o, none⟩ ∧ b < w.heap.size ∧ w.cell? ⟨b, o + i, none⟩ = some (.pointer (some ⟨a.nb i, 0, none⟩)) := by
  obtain ⟨b, o, e, _, hl, hc⟩ := h.nrow.rd.at_ hi
  exact ⟨b, o, e, hl, hc i _ (by simp [hi])⟩
set_option maxRecDepth 100000 in
set_option maxHeartbeats 2000000 in
theorem send_any (m : Ml) (h : GAt S w g G) : Calls Try.prog 43 #[.pointer (some ⟨g, 0, none⟩), .agg #[.int .i64 m.kind, .int .i64 m.fr, .int .i64 m.dst, .int .i64 m.slot, .int .i64 m.bal.rd, .int .i64 m.bal.nd, .int .i64 m.had.rd, .int .i64 m.had.nd, .string m.text]] w fun e w' => e = .returned (.tuple #[]) ∧ GGo S w g (G.send m) w' := by
  have hB : Below w.heap.size w (w.alloc (.cells #[.int .i64 m.kind, .int .i64 m.fr, .int .i64 m.dst, .int .i64 m.slot, .int .i64 m.bal.rd, .int .i64 m.bal.nd, .int .i64 m.had.rd, .int .i64 m.had.nd, .string m.text] 78)) := (Below.refl _ _).alloc (Nat.le_refl _) _
  have kb := Blk.new w 78 #[.int .i64 m.kind, .int .i64 m.fr, .int .i64 m.dst, .int .i64 m.slot, .int .i64 m.bal.rd, .int .i64 m.bal.nd, .int .i64 m.had.rd, .int .i64 m.had.nd, .string m.text]
  obtain ⟨An, cn, Am, cm, a, q0⟩ := h
  have hSlt := q0.lt
  have q := q0.below hB
  clear q0
  obtain ⟨c0, c1⟩ := q.cells
  by_cases hfull : G.mail.length < 4096
  · have hsend : G.send m = G.setMail (G.mail ++ [m]) := by unfold Gr.send; rw [if_pos hfull]
    rw [hsend]
    clear hsend
    have dd : decide ((G.mail.length : Int) < 4096) = true := decide_eq_true (by omega)
    have dd2 : decide (G.mail.length < 4096) = true := by simpa using hfull
    obtain ⟨im, him, hm0, hm1, hm2⟩ := info_parts info_mail
    go_enter Try.func43, Try.ntmps43
    go_upto_region 1 with fail
    generalize w.alloc (.cells #[.int .i64 m.kind, .int .i64 m.fr, .int .i64 m.dst, .int .i64 m.slot, .int .i64 m.bal.rd, .int .i64 m.bal.nd, .int .i64 m.had.rd, .int .i64 m.had.nd, .string m.text] 78) = W1 at *
    have e0 : W1.cell? ⟨w.heap.size, 0, none⟩ = some (.int .i64 m.kind) := kb.cell 0
    have e1 : W1.cell? ⟨w.heap.size, 1, none⟩ = some (.int .i64 m.fr) := kb.cell 1
    have e2 : W1.cell? ⟨w.heap.size, 2, none⟩ = some (.int .i64 m.dst) := kb.cell 2
    have e3 : W1.cell? ⟨w.heap.size, 3, none⟩ = some (.int .i64 m.slot) := kb.cell 3
    have e4 : W1.cell? ⟨w.heap.size, 4, none⟩ = some (.int .i64 m.bal.rd) := kb.cell 4
    have e5 : W1.cell? ⟨w.heap.size, 5, none⟩ = some (.int .i64 m.bal.nd) := kb.cell 5
    have e6 : W1.cell? ⟨w.heap.size, 6, none⟩ = some (.int .i64 m.had.rd) := kb.cell 6
    have e7 : W1.cell? ⟨w.heap.size, 7, none⟩ = some (.int .i64 m.had.nd) := kb.cell 7
    have e8 : W1.cell? ⟨w.heap.size, 8, none⟩ = some (.string m.text) := kb.cell 8
    have hgl := q.blk.lt
    have qf := fun j => q.blk.frozen j
    have hrow0 := q.mrow.1
    have hne0 : ∀ k, (Value.slice Am G.mail.length cm).ownBlock = some k → k ≠ g ∧ S k ∧ ∃ cs, Blk W1 k 78 cs := fun k hk => by
      have hSk := q.mrow.2 k hk
      rcases q.mrow.1.2 with ⟨h0, _⟩ | ⟨gr, cap, cur, hvv, _, hbb, _⟩
      · rw [h0] at hk; simp [Value.ownBlock] at hk
      · rw [hvv] at hk
        have : gr = k := by simpa [Value.ownBlock] using hk
        subst this
        exact ⟨(q.blk.ne_ (t' := 78) (cs' := cur) hbb (by decide)).symm, hSk, _, hbb⟩
    have hne := hid hne0
    have hq := hid q
    clear q hne0 kb
    go_wp2_with fail
    go_region_law
      (refine step_append_rd _ rfl (.tmp 14) (.tmp 16) 58 rfl 0 78 im _ 9 80 Try.underlying58 him hm0 hm1 hm2 rfl (by omega) (.slice Am G.mail.length cm) G.mail.length (mcells G.mail) rfl ?_ (fun b => b = W1.heap.size) (some ⟨W1.heap.size, 0, none⟩) 1 1 m.cells rfl ?_ ?_ ?_ ?_ ?_ (G.mail.length + 1) rfl (mcells G.mail ++ m.cells) rfl ?_
       go_must (
         · exact (hrow0.alloc _).drew
         · exact (Rd.new W1 78 9 1 m.cells.toArray _ rfl rfl).drew
         · exact fun u hu => mcells_one [m] u (by simpa [mcells] using hu)
         · simp only [maxLen]; omega
         · omega
         · exact Nat.zero_le _
         intro A2 c2' w2 hown2 hg2 hat2
         have hu2 : Upd (fun k => (Value.slice Am G.mail.length cm).ownBlock = some k) W1 w2 := (((Upd.refl _ W1).alloc _).drew).grown hg2 fun k hk _ => hk
         have hk2 : w2.cell? ⟨g, 1, none⟩ = some (.slice Am G.mail.length cm) := hu2.cell c1 fun hm => (hne.out g hm).1 rfl
         have hb2' := hq.out.blk.upd hu2 fun hm => (hne.out g hm).1 rfl
         have hf2' := fun j => hb2'.frozen j
         have hb2 := hid hb2'
         clear hb2'))
    all_goals
      go_wp2_with fail
      go_end0
      have q := hq.out
      have hu3 : Upd (fun k => (Value.slice Am G.mail.length cm).ownBlock = some k ∨ k = g) W1 (w2.setCell ⟨g, 1, none⟩ (.slice A2 (G.mail.length + 1) c2')) := (hu2.mono fun k _ h => .inl h).setCell (p := ⟨g, 1, none⟩) (fun _ => .inr rfl) _
      have hl1 : (G.mail ++ [m]).length = G.mail.length + 1 := by simp
      have hpc : mcells (G.mail ++ [m]) = mcells G.mail ++ m.cells := by rw [mcells_app]; simp [mcells]
      have hz2 := hu2.size
      have hzB := hB.size
      refine ⟨rfl, fun k => S k ∨ w.heap.size ≤ k ∧ k < w2.heap.size, ⟨_, _, A2, c2', _, q.post hu3 ?_ (fun k h => .inl h) ?_ (by rw [hl1]; exact hb2.out.set_ 1 _) ?_⟩, fun k h => h.imp id (·.1), ?_⟩
      · rintro k (h | h)
        · exact .inr (hne.out k h).2.2
        · exact .inl h
      · rintro k (h | h)
        · have := q.lt k h; simp; omega
        · simpa using h.2
      · rw [hl1, hpc]
        refine OwnS.keepT (w := w2) ⟨hown2, fun b hb => ?_⟩ fun b cs hb => Below.heap_setCell _ _ _ _ fun e => hb2.out.ne_ hb (by decide) e.symm
        have hlt := (hown2.lt b hb).2
        rcases hat2 with h | h
        · rw [h] at hb; exact .inl (hne.out b hb).2.1
        · rw [h] at hb; injection hb with hb; simp at hb; exact .inr ⟨by omega, hlt⟩
      · refine (Upd.of_below' hB _).trans (hu3.mono (M' := S) fun k _ h => ?_) fun k _ h => h
        rcases h with h | rfl
        · exact (hne.out k h).2.1
        · exact q.inS
  · have hsend : G.send m = G := by unfold Gr.send; rw [if_neg hfull]
    rw [hsend]
    have hfin : Hid (GGo S w g G (w.alloc (.cells #[.int .i64 m.kind, .int .i64 m.fr, .int .i64 m.dst, .int .i64 m.slot, .int .i64 m.bal.rd, .int .i64 m.bal.nd, .int .i64 m.had.rd, .int .i64 m.had.nd, .string m.text] 78))) := hid ⟨S, ⟨_, _, _, _, _, q⟩, fun _ h => .inl h, .of_below' hB _⟩
    have dd : decide ((G.mail.length : Int) < 4096) = false := decide_eq_false (by omega)
    have dd2 : decide (G.mail.length < 4096) = false := decide_eq_false hfull
    clear q hsend
    go_enter Try.func43, Try.ntmps43
    go_wp2_with fail
    go_end0
    exact ⟨rfl, hfin.out⟩
end

def Gr.sendTo (G : Gr) (m : Ml) (k : Nat) : Gr := (List.range k).foldl (fun (G : Gr) (i : Nat) => G.send { m with dst := (i : Int) }) G
def Gr.sendAll (G : Gr) (m : Ml) : Gr := G.sendTo m G.nds.length
theorem Gr.sendTo_succ (G : Gr) (m : Ml) (k : Nat) : G.sendTo m (k + 1) = (G.sendTo m k).send { m with dst := (k : Int) } := by
  unfold Gr.sendTo
  rw [List.range_succ, List.foldl_append]; rfl
theorem Gr.send_nds (G : Gr) (m : Ml) : (G.send m).nds = G.nds := by unfold Gr.send; split <;> rfl
theorem Gr.sendTo_nds (G : Gr) (m : Ml) (k : Nat) : (G.sendTo m k).nds = G.nds := by
  induction k with
  | zero => rfl
  | succ k ih => rw [Gr.sendTo_succ, Gr.send_nds, ih]
section
variable {S : Nat → Prop} {w w' : World} {g : Nat} {An Am : Option Addr} {cn cm : Nat} {G : Gr} {a : Ad}
set_option maxRecDepth 100000 in
set_option maxHeartbeats 2000000 in
theorem sendAll_any (m : Ml) (h : GAt S w g G) (hn : G.nds.length ≤ 1000) : Calls Try.prog 39 #[.pointer (some ⟨g, 0, none⟩), .agg #[.int .i64 m.kind, .int .i64 m.fr, .int .i64 m.dst, .int .i64 m.slot, .int .i64 m.bal.rd, .int .i64 m.bal.nd, .int .i64 m.had.rd, .int .i64 m.had.nd, .string m.text]] w fun e w' => e = .returned (.tuple #[]) ∧ GGo S w g (G.sendAll m) w' := by
  have hB : Below w.heap.size w (w.alloc (.cells #[.int .i64 m.kind, .int .i64 m.fr, .int .i64 m.dst, .int .i64 m.slot, .int .i64 m.bal.rd, .int .i64 m.bal.nd, .int .i64 m.had.rd, .int .i64 m.had.nd, .string m.text] 78)) := (Below.refl _ _).alloc (Nat.le_refl _) _
  have kb := Blk.new w 78 #[.int .i64 m.kind, .int .i64 m.fr, .int .i64 m.dst, .int .i64 m.slot, .int .i64 m.bal.rd, .int .i64 m.bal.nd, .int .i64 m.had.rd, .int .i64 m.had.nd, .string m.text]
  have hSlt := h.lt.1
  have h1 := h.below hB
  obtain ⟨An, cn, Am, cm, a, q⟩ := id h1
  obtain ⟨c0, c1⟩ := q.cells
  have hz := kb.lt
  have hsz1 : w.heap.size + 1 = (w.alloc (.cells #[.int .i64 m.kind, .int .i64 m.fr, .int .i64 m.dst, .int .i64 m.slot, .int .i64 m.bal.rd, .int .i64 m.bal.nd, .int .i64 m.had.rd, .int .i64 m.had.nd, .string m.text] 78)).heap.size := by simp
  clear q h
  go_enter Try.func39, Try.ntmps39
  go_upto_region 1 with fail
  generalize w.alloc (.cells #[.int .i64 m.kind, .int .i64 m.fr, .int .i64 m.dst, .int .i64 m.slot, .int .i64 m.bal.rd, .int .i64 m.bal.nd, .int .i64 m.had.rd, .int .i64 m.had.nd, .string m.text] 78) = W1 at *
  go_wp2_with fail
  go_loopw [10] (fun v wr => ∃ (k : Nat) (S' : Nat → Prop) (d : Int), v = .int .i64 k ∧ k ≤ G.nds.length ∧ GAt S' wr g (G.sendTo m k) ∧ (∀ k, S' k → S k ∨ W1.heap.size ≤ k) ∧ Upd S w wr ∧ Blk wr w.heap.size 78 #[.int .i64 m.kind, .int .i64 m.fr, .int .i64 d, .int .i64 m.slot, .int .i64 m.bal.rd, .int .i64 m.bal.nd, .int .i64 m.had.rd, .int .i64 m.had.nd, .string m.text]) (fun v _ => G.nds.length - (intOf v).toNat)
  case atStart => exact ⟨0, S, m.dst, rfl, Nat.zero_le _, h1, fun _ h => .inl h, .of_below' hB _, kb⟩
  case round =>
    clear h1 kb c0 c1
    obtain ⟨k, S', d, rfl, hk, q, hS, hu, kb⟩ := hrel
    have hqz := q.lt.1
    have hWz : W1.heap.size ≤ wr.heap.size := hsz1 ▸ kb.lt
    by_cases hlt : k < G.nds.length
    · have i1 : (k : Int) < (G.nds.length : Int) := by omega
      have x2 : wr.cell? ⟨w.heap.size, 2, none⟩ = some (.int .i64 d) := kb.cell 2
      have qz := fun j => kb.frozen j
      have hne : ∀ k, S' k → k ≠ w.heap.size := fun k hk => by
        rcases hS k hk with h | h
        · have := hSlt k h; omega
        · omega
      have q2 : GAt S' (wr.setCell ⟨w.heap.size, 2, none⟩ (.int .i64 (k : Int))) g (G.sendTo m k) := by
        obtain ⟨An, cn, Am, cm, a, q⟩ := q
        exact ⟨An, cn, Am, cm, a, q.far (M := fun k => k = w.heap.size) ((Upd.refl (fun k => k = w.heap.size) wr).setCell (p := ⟨w.heap.size, 2, none⟩) (fun _ => rfl) _) fun k hk e => hne k hk e⟩
      have kb2 : Blk (wr.setCell ⟨w.heap.size, 2, none⟩ (.int .i64 (k : Int))) w.heap.size 78 #[.int .i64 m.kind, .int .i64 m.fr, .int .i64 (k : Int), .int .i64 m.slot, .int .i64 m.bal.rd, .int .i64 m.bal.nd, .int .i64 m.had.rd, .int .i64 m.had.nd, .string m.text] := kb.set_ 2 _
      have hu2 : Upd S w (wr.setCell ⟨w.heap.size, 2, none⟩ (.int .i64 (k : Int))) := hu.setCell (p := ⟨w.heap.size, 2, none⟩) (fun h => absurd h (Nat.lt_irrefl _)) _
      have hzz : (wr.setCell ⟨w.heap.size, 2, none⟩ (.int .i64 (k : Int))).heap.size = wr.heap.size := by simp
      clear q
      go_upto_region 5 with fail
      generalize wr.setCell ⟨w.heap.size, 2, none⟩ (.int .i64 (k : Int)) = w2 at *
      have e0 : w2.cell? ⟨w.heap.size, 0, none⟩ = some (.int .i64 m.kind) := kb2.cell 0
      have e1 : w2.cell? ⟨w.heap.size, 1, none⟩ = some (.int .i64 m.fr) := kb2.cell 1
      have e2 : w2.cell? ⟨w.heap.size, 2, none⟩ = some (.int .i64 (k : Int)) := kb2.cell 2
      have e3 : w2.cell? ⟨w.heap.size, 3, none⟩ = some (.int .i64 m.slot) := kb2.cell 3
      have e4 : w2.cell? ⟨w.heap.size, 4, none⟩ = some (.int .i64 m.bal.rd) := kb2.cell 4
      have e5 : w2.cell? ⟨w.heap.size, 5, none⟩ = some (.int .i64 m.bal.nd) := kb2.cell 5
      have e6 : w2.cell? ⟨w.heap.size, 6, none⟩ = some (.int .i64 m.had.rd) := kb2.cell 6
      have e7 : w2.cell? ⟨w.heap.size, 7, none⟩ = some (.int .i64 m.had.nd) := kb2.cell 7
      have e8 : w2.cell? ⟨w.heap.size, 8, none⟩ = some (.string m.text) := kb2.cell 8
      clear x2 qz
      go_wp2_with fail
      refine (send_any { m with dst := (k : Int) } q2).mono ?_
      rintro e w3 ⟨rfl, S3, h3, hS3, hu3⟩
      have hst := G.sendTo_succ m k
      rw [← hst] at h3
      have hst := 0
      have kb3 := kb2.upd hu3 fun h => hne _ h rfl
      have hz2 := hu3.size
      clear q2 kb2
      go_wp2_with fail
      go_roundw
      case rel =>
        refine ⟨k + 1, S3, k, by go_num, hlt, h3, fun j hj => ?_, ?_, kb3⟩
        · rcases hS3 j hj with h | h
          · exact hS j h
          · exact .inr (by omega)
        · exact hu2.trans hu3 fun j hj h => by
            rcases hS j h with h | h
            · exact h
            · have := hB.size; omega
      case measure => simp [intOf]; omega
    · obtain rfl : k = G.nds.length := by omega
      go_wp2_with fail
      go_end0
      refine ⟨rfl, S', q, fun j hj => ?_, ?_⟩
      · rcases hS j hj with h | h
        · exact .inl h
        · have := hB.size; exact .inr (by omega)
      · exact hu
end

end Go.Proofs.Ytbgopicpdpkccaa

namespace Go.Proofs.Ytbgopicpdpkccaa
open Go.RowKit
set_option linter.unusedVariables false
set_option linter.unusedSimpArgs false

theorem getA_none {α : Type} {k : Int} : ∀ {l : List (Int × α)}, getA k l = none → ∀ p ∈ l, p.1 ≠ k := by
  intro l
  induction l with
  | nil => intro _ p hp; cases hp
  | cons q l ih =>
    intro h p hp
    unfold getA at h
    by_cases e : k = q.1
    · rw [if_pos e] at h; cases h
    · rw [if_neg e] at h
      rcases List.mem_cons.1 hp with rfl | hp
      · exact fun h => e h.symm
      · exact ih h p hp
theorem setA_fresh {α : Type} {k : Int} {v : α} : ∀ {l : List (Int × α)}, (∀ p ∈ l, p.1 ≠ k) → setA k v l = l ++ [(k, v)] := by
  intro l
  induction l with
  | nil => intro _; rfl
  | cons q l ih =>
    intro h
    unfold setA
    rw [if_neg fun e => h q List.mem_cons_self e.symm, ih fun p hp => h p (List.mem_cons_of_mem _ hp)]; rfl
theorem setK_fresh {k : Int} {v : Value} : ∀ {l : List (Int × Value)}, (∀ p ∈ l, p.1 ≠ k) → setK k v l = l ++ [(k, v)] := by
  intro l
  induction l with
  | nil => intro _; rfl
  | cons q l ih =>
    intro h
    unfold setK
    rw [if_neg fun e => h q List.mem_cons_self e.symm, ih fun p hp => h p (List.mem_cons_of_mem _ hp)]; rfl
section
variable {S S' : Nat → Prop} {w w' : World} {g : Nat} {An Am : Option Addr} {cn cm : Nat} {G : Gr} {a : Ad}
theorem GIn.fresh {M : Nat → Prop} {i : Nat} {s : Int} {b' : Nat} (h : GIn S w g An cn Am cm G a) (hi : i < G.nds.length) (hn : getA s (G.nd i).sl = none)
    (hu : Upd M w w') (hM : ∀ k, M k → k = a.mb i) (hS : ∀ k, S k → S' k) (hl : ∀ k, S' k → k < w'.heap.size)
    (hb : Blk w' b' 74 (sl0.cells 0)) (hSb : S' b') (hbw : w.heap.size ≤ b')
    (hm : MapIs intE w' (a.mb i) (setK s (.pointer (some ⟨b', 0, none⟩)) ((G.nd i).sl.map fun p => (p.1, .pointer (some ⟨a.sb i p.1, 0, none⟩))))) :
    GIn S' w' g An cn Am cm (G.setSl i s sl0) (a.setS i s b') := by
  obtain ⟨n1, n2, n3, n4, ho⟩ := h.nd i hi
  have hkeys := getA_none hn
  have kB : ∀ (e : TypeId) b cs, Blk w b e cs → w'.heap[b]? = w.heap[b]? := fun e b cs hb => hu.block b hb.lt fun hk => n4.ne_blk hb (hM b hk).symm
  have kM : ∀ (l : List (Int × Value)) b, MapIs intE w b l → b ≠ a.mb i → w'.heap[b]? = w.heap[b]? := fun l b hb hne => hu.block b hb.lt fun hk => hne (hM b hk)
  have hlen : (G.setSl i s sl0).nds.length = G.nds.length := Gr.len_set _ _ _
  have hmem := fun {j p} => Gr.sl_set (G := G) (j := j) (p := p) i s sl0 hi ho
  refine ⟨?_, ?_, ?_, fun j hj => ?_, fun j hj p hp => ?_, ?_, ?_, fun j k hj hk p hp q hq e => ?_, fun j k hj hk p hp q hq hp1 hq1 e => ?_, fun j k hj hk p hp q hq hp1 hq1 e => ?_, fun j k hj hk q hq hq1 e => ?_, hS _ h.inS, hl⟩
  · rw [hlen]; exact (kB _ _ _ h.blk).trans h.blk
  · rw [hlen]; exact (h.nrow.keepT fun b cs hb => kB _ b cs hb).more' hS
  · exact (h.mrow.keepT fun b cs hb => kB _ b cs hb).more' hS
  · rw [hlen] at hj
    obtain ⟨h1, h2, h3, h4, h5⟩ := h.nd j hj
    unfold Gr.setSl
    rw [Gr.nd_set _ _ _ _ hi]
    by_cases e : j = i
    · subst e
      rw [if_pos rfl]
      refine ⟨(kB _ _ _ h1).trans h1, hS _ h2, hS _ h3, ?_, h5.set⟩
      show MapIs intE w' (a.mb j) ((setA s sl0 (G.nd j).sl).map fun p => (p.1, Value.pointer (some ⟨if j = j ∧ p.1 = s then b' else a.sb j p.1, 0, none⟩)))
      rw [setK_fresh (fun p hp => by
        obtain ⟨q, hq, rfl⟩ := List.mem_map.1 hp
        exact hkeys q hq)] at hm
      rw [setA_fresh hkeys, List.map_append]
      have e1 : (G.nd j).sl.map (fun p => (p.1, Value.pointer (some ⟨if j = j ∧ p.1 = s then b' else a.sb j p.1, 0, none⟩))) = (G.nd j).sl.map (fun p => (p.1, Value.pointer (some ⟨a.sb j p.1, 0, none⟩))) :=
        List.map_congr_left fun p hp => by rw [if_neg fun h => hkeys p hp h.2]
      rw [e1]
      simpa using hm
    · rw [if_neg e]
      refine ⟨(kB _ _ _ h1).trans h1, hS _ h2, hS _ h3, ?_, h5⟩
      have e1 : (G.nd j).sl.map (fun p => (p.1, Value.pointer (some ⟨(a.setS i s b').sb j p.1, 0, none⟩))) = (G.nd j).sl.map (fun p => (p.1, Value.pointer (some ⟨a.sb j p.1, 0, none⟩))) :=
        List.map_congr_left fun p hp => by show (p.1, Value.pointer (some ⟨if j = i ∧ p.1 = s then b' else a.sb j p.1, 0, none⟩)) = _; rw [if_neg fun h => e h.1]
      rw [e1]
      exact h4.keep (kM _ _ h4 fun e2 => e (h.mbI j i hj hi e2))
  · rw [hlen] at hj
    rcases hmem hp with ⟨rfl, rfl⟩ | ⟨hp2, hne⟩
    · show SlAt S' w' (if j = j ∧ s = s then b' else a.sb j s) (a.bb j s) (a.ab j s) sl0
      rw [if_pos ⟨rfl, rfl⟩]
      exact ⟨hb, hSb, fun d hd => by cases hd⟩
    · show SlAt S' w' (if j = i ∧ p.1 = s then b' else a.sb j p.1) (a.bb j p.1) (a.ab j p.1) p.2
      rw [if_neg hne]
      obtain ⟨q1, q2, q3⟩ := h.sl j hj p hp2
      refine (h.sl j hj p hp2).keep (fun k hk hl' => ?_) hS
      rcases hk with rfl | ⟨hs, hk⟩
      · exact kB _ _ _ q1
      · obtain ⟨d, hd⟩ := Option.isSome_iff_exists.1 hs
        obtain ⟨q4, _, _, q7, _⟩ := q3 d hd
        rcases hk with rfl | rfl
        · exact kB _ _ _ q4
        · exact kM _ _ q7 fun e => h.mab i j hi hj p hp2 hs e.symm
  · rw [hlen]; exact h.nbI
  · rw [hlen]; exact h.mbI
  · rw [hlen] at hj hk
    have e : (if j = i ∧ p.1 = s then b' else a.sb j p.1) = (if k = i ∧ q.1 = s then b' else a.sb k q.1) := e
    rcases hmem hp with ⟨rfl, rfl⟩ | ⟨hp2, hne⟩
    · rcases hmem hq with ⟨rfl, rfl⟩ | ⟨hq2, hne2⟩
      · exact ⟨rfl, rfl⟩
      · rw [if_pos ⟨rfl, rfl⟩, if_neg hne2] at e
        have := (h.sl k hk q hq2).1.lt
        omega
    · rcases hmem hq with ⟨rfl, rfl⟩ | ⟨hq2, hne2⟩
      · rw [if_neg hne, if_pos ⟨rfl, rfl⟩] at e
        have := (h.sl j hj p hp2).1.lt
        omega
      · rw [if_neg hne, if_neg hne2] at e
        exact h.sbI j k hj hk p hp2 q hq2 e
  · rw [hlen] at hj hk
    rcases hmem hp with ⟨rfl, rfl⟩ | ⟨hp2, hne⟩
    · cases hp1
    · rcases hmem hq with ⟨rfl, rfl⟩ | ⟨hq2, hne2⟩
      · cases hq1
      · exact h.bbI j k hj hk p hp2 q hq2 hp1 hq1 e
  · rw [hlen] at hj hk
    rcases hmem hp with ⟨rfl, rfl⟩ | ⟨hp2, hne⟩
    · cases hp1
    · rcases hmem hq with ⟨rfl, rfl⟩ | ⟨hq2, hne2⟩
      · cases hq1
      · exact h.abI j k hj hk p hp2 q hq2 hp1 hq1 e
  · rw [hlen] at hj hk
    rcases hmem hq with ⟨rfl, rfl⟩ | ⟨hq2, hne2⟩
    · cases hq1
    · exact h.mab j k hj hk q hq2 hq1 e
theorem GIn.up {i : Nat} {u : Bool} (h : GIn S w g An cn Am cm G a) (hi : i < G.nds.length) (hu : Upd (fun k => k = a.nb i) w w') (hb : Blk w' (a.nb i) 67 #[.bool u, .map (some (a.mb i))]) :
    GIn S w' g An cn Am cm (G.setNd i { G.nd i with up := u }) a := by
  obtain ⟨n1, n2, n3, n4, ho⟩ := h.nd i hi
  have kB : ∀ (e : TypeId) b cs, e ≠ 67 → Blk w b e cs → w'.heap[b]? = w.heap[b]? := fun e b cs he hb => hu.block b hb.lt fun hk => hb.ne_ n1 he hk
  have kM : ∀ {l : List (Int × Value)} {b}, MapIs intE w b l → w'.heap[b]? = w.heap[b]? := fun {l b} hb => hu.block b hb.lt fun hk => hb.ne_blk n1 hk
  have hlen : (G.setNd i { G.nd i with up := u }).nds.length = G.nds.length := Gr.len_set _ _ _
  have hsl : ∀ j, ((G.setNd i { G.nd i with up := u }).nd j).sl = (G.nd j).sl := fun j => by
    rw [Gr.nd_set _ _ _ _ hi]
    by_cases e : j = i
    · subst e; rw [if_pos rfl]
    · rw [if_neg e]
  refine ⟨?_, ?_, ?_, fun j hj => ?_, fun j hj p hp => ?_, ?_, ?_, fun j k hj hk => ?_, fun j k hj hk => ?_, fun j k hj hk => ?_, fun j k hj hk => ?_, h.inS, fun k hk => Nat.lt_of_lt_of_le (h.lt k hk) hu.size⟩
  · rw [hlen]; exact (kB _ _ _ (by decide) h.blk).trans h.blk
  · rw [hlen]; exact h.nrow.keepT fun b cs hb => kB _ b cs (by decide) hb
  · exact h.mrow.keepT fun b cs hb => kB _ b cs (by decide) hb
  · rw [hlen] at hj
    rw [hsl]
    obtain ⟨h1, h2, h3, h4, h5⟩ := h.nd j hj
    refine ⟨?_, h2, h3, h4.keep (kM h4), h5⟩
    rw [Gr.nd_set _ _ _ _ hi]
    by_cases e : j = i
    · subst e; rw [if_pos rfl]; exact hb
    · rw [if_neg e]; exact h1.upd hu fun e2 => e (h.nbI j i hj hi e2)
  · rw [hlen] at hj
    rw [hsl] at hp
    obtain ⟨q1, q2, q3⟩ := h.sl j hj p hp
    refine (h.sl j hj p hp).keep (fun k hk hl' => ?_) fun _ => id
    rcases hk with rfl | ⟨hs, hk⟩
    · exact kB _ _ _ (by decide) q1
    · obtain ⟨d, hd⟩ := Option.isSome_iff_exists.1 hs
      obtain ⟨q4, _, _, q7, _⟩ := q3 d hd
      rcases hk with rfl | rfl
      · exact kB _ _ _ (by decide) q4
      · exact kM q7
  · rw [hlen]; exact h.nbI
  · rw [hlen]; exact h.mbI
  · rw [hlen] at hj hk; rw [hsl, hsl]; exact h.sbI j k hj hk
  · rw [hlen] at hj hk; rw [hsl, hsl]; exact h.bbI j k hj hk
  · rw [hlen] at hj hk; rw [hsl, hsl]; exact h.abI j k hj hk
  · rw [hlen] at hj hk; rw [hsl]; exact h.mab j k hj hk
end

end Go.Proofs.Ytbgopicpdpkccaa

namespace Go.Proofs.Ytbgopicpdpkccaa
open Go.RowKit
set_option linter.unusedVariables false
set_option linter.unusedSimpArgs false

def Gr.at_ (G : Gr) (i : Nat) (s : Int) : Sl := (getA s (G.nd i).sl).getD sl0
def Gr.touch (G : Gr) (i : Nat) (s : Int) : Gr := if (getA s (G.nd i).sl).isSome then G else G.setSl i s sl0
theorem zero_sptr (w : World) : (zeroValue 79).run Try.prog w = .ok (.pointer none) w := by kernel_rfl
theorem getK_mapk {α : Type} (f : Int → α → Value) (k : Int) : ∀ (l : List (Int × α)), getK k (l.map fun p => (p.1, f p.1 p.2)) = (getA k l).map (f k) := by
  have : ∀ (l : List (Int × α)) (i : Nat), (look k (l.map fun p => (p.1, f p.1 p.2)) i).map (·.2) = (getA k l).map (f k) := by
    intro l
    induction l with
    | nil => intro i; rfl
    | cons p l ih =>
      intro i
      simp only [List.map_cons, look, getA]
      by_cases e : k = p.1
      · simp [e]
      · simp [e, ih]
  exact fun l => this l 0
section
variable {S : Nat → Prop} {w w' : World} {g : Nat} {An Am : Option Addr} {cn cm : Nat} {G : Gr} {a : Ad}
theorem node_yes (i : Nat) (h : GIn S w g An cn Am cm G a) (hi : i < G.nds.length) : Calls Try.prog 35 #[.pointer (some ⟨g, 0, none⟩), .int .i64 i] w fun e w' => e = .returned (.tuple #[.pointer (some ⟨a.nb i, 0, none⟩), .bool true]) ∧ w' = w := by
  obtain ⟨c0, c1⟩ := h.cells
  obtain ⟨b, o, rfl, hb, x⟩ := h.ptr hi
  have t1 : decide ((i : Int) < 0) = false := by simp
  have t2 : decide ((G.nds.length : Int) ≤ (i : Int)) = false := decide_eq_false (by omega)
  have t3 : decide (G.nds.length ≤ i) = false := decide_eq_false (by omega)
  have i1 : (i : Int) < (G.nds.length : Int) := by omega
  clear h
  go_enter Try.func35, Try.ntmps35
  go_wp2_with fail
  go_ret2
  exact ⟨rfl, rfl⟩
theorem node_no (n : Int) (h : GIn S w g An cn Am cm G a) (hn : n < 0 ∨ (G.nds.length : Int) ≤ n) : Calls Try.prog 35 #[.pointer (some ⟨g, 0, none⟩), .int .i64 n] w fun e w' => e = .returned (.tuple #[.pointer none, .bool false]) ∧ w' = w := by
  obtain ⟨c0, c1⟩ := h.cells
  clear h
  by_cases h0 : n < 0
  · have t1 : decide (n < 0) = true := decide_eq_true h0
    clear h0 hn
    go_enter Try.func35, Try.ntmps35
    go_wp2_with fail
    go_ret2
    exact ⟨rfl, rfl⟩
  · have t1 : decide (n < 0) = false := decide_eq_false h0
    have t2 : decide ((G.nds.length : Int) ≤ n) = true := decide_eq_true (by omega)
    clear h0 hn
    go_enter Try.func35, Try.ntmps35
    go_wp2_with fail
    go_ret2
    exact ⟨rfl, rfl⟩
set_option maxRecDepth 100000 in
set_option maxHeartbeats 1000000 in
/-- the slot of a node: it is made, if it is not there -/
theorem slot_any (i : Nat) (s : Int) (h : GIn S w g An cn Am cm G a) (hi : i < G.nds.length) : Calls Try.prog 38 #[.pointer (some ⟨a.nb i, 0, none⟩), .int .i64 s] w
    fun e w' => ∃ S' a', (e = .returned (.pointer (some ⟨a'.sb i s, 0, none⟩)) ∧ ∀ k, S' k → S k ∨ w.heap.size ≤ k) ∧ GIn S' w' g An cn Am cm (G.touch i s) a' ∧ getA s ((G.touch i s).nd i).sl = some (G.at_ i s) ∧ Upd S w w' := by
  obtain ⟨n1, n2, n3, n4, ho⟩ := h.nd i hi
  have x1 : w.cell? ⟨a.nb i, 1, none⟩ = some (.map (some (a.mb i))) := n1.cell 1
  have hnl := n1.lt
  cases hg : getA s (G.nd i).sl with
  | some x =>
    have hlk : (Instr.lookup 65 (.map (some (a.mb i))) (.int .i64 s) true).run Try.prog w = .ok (.tuple #[.pointer (some ⟨a.sb i s, 0, none⟩), .bool true]) w := by
      have := n4.lookup_ok Try.underlying65 zero_sptr s
      rw [getK_mapk (fun t _ => Value.pointer (some ⟨a.sb i t, 0, none⟩)), hg] at this
      exact this
    have ht : G.touch i s = G := by unfold Gr.touch; rw [hg]; rfl
    have hx : G.at_ i s = x := by unfold Gr.at_; rw [hg]; rfl
    rw [ht, hx, hg]
    have hh := hid h
    clear h n1 n4 ho hg ht hx
    go_enter Try.func38, Try.ntmps38
    go_wp2_with fail
    go_ret
    exact ⟨S, a, ⟨by first | rfl | trivial, fun _ h => .inl h⟩, hh.out, by first | rfl | trivial, Upd.refl _ _⟩
  | none =>
    have hlk : (Instr.lookup 65 (.map (some (a.mb i))) (.int .i64 s) true).run Try.prog w = .ok (.tuple #[.pointer none, .bool false]) w := by
      have := n4.lookup_ok Try.underlying65 zero_sptr s
      rw [getK_mapk (fun t _ => Value.pointer (some ⟨a.sb i t, 0, none⟩)), hg] at this
      exact this
    have ht : G.touch i s = G.setSl i s sl0 := by unfold Gr.touch; rw [hg]; rfl
    have hx : G.at_ i s = sl0 := by unfold Gr.at_; rw [hg]; rfl
    have hgt : getA s ((G.setSl i s sl0).nd i).sl = some sl0 := by
      unfold Gr.setSl
      rw [Gr.nd_set _ _ _ _ hi, if_pos rfl]
      show getA s (setA s sl0 (G.nd i).sl) = _
      rw [getA_set, if_pos rfl]
    have hB : Below w.heap.size w (w.alloc (.cells #[.int .i64 0, .int .i64 0, .int .i64 0, .int .i64 0, .int .i64 0, .string ⟨#[]⟩, .bool false, .string ⟨#[]⟩, .pointer none] 74)) := (Below.refl _ _).alloc (Nat.le_refl _) _
    have kb := Blk.new w 74 #[.int .i64 0, .int .i64 0, .int .i64 0, .int .i64 0, .int .i64 0, .string ⟨#[]⟩, .bool false, .string ⟨#[]⟩, .pointer none]
    have y1 : (w.alloc (.cells #[.int .i64 0, .int .i64 0, .int .i64 0, .int .i64 0, .int .i64 0, .string ⟨#[]⟩, .bool false, .string ⟨#[]⟩, .pointer none] 74)).cell? ⟨a.nb i, 1, none⟩ = some (.map (some (a.mb i))) := (n1.below_all hB).cell 1
    obtain ⟨w2, hrun0, hm2, hg2, hz2⟩ := (n4.below hB).update Try.underlying65 s (.pointer (some ⟨w.heap.size, 0, none⟩))
    have hrun : (Instr.mapUpdate 65 (.map (some (a.mb i))) (.int .i64 s) (.pointer (some ⟨w.heap.size, 0, none⟩))).run Try.prog (w.alloc (.cells #[.int .i64 0, .int .i64 0, .int .i64 0, .int .i64 0, .int .i64 0, .string ⟨#[]⟩, .bool false, .string ⟨#[]⟩, .pointer none] 74)) = .ok () w2 := hrun0
    have hu2 : Upd (fun k => k = a.mb i) (w.alloc (.cells #[.int .i64 0, .int .i64 0, .int .i64 0, .int .i64 0, .int .i64 0, .string ⟨#[]⟩, .bool false, .string ⟨#[]⟩, .pointer none] 74)) w2 := (Upd.refl _ _).grown hg2 fun k hk _ => by injection hk with hk; exact hk.symm
    have hu : Upd (fun k => k = a.mb i) w w2 := (Upd.of_below' hB _).trans hu2 fun _ _ h => h
    have hmlt := n4.lt
    have kb2 : Blk w2 w.heap.size 74 #[.int .i64 0, .int .i64 0, .int .i64 0, .int .i64 0, .int .i64 0, .string ⟨#[]⟩, .bool false, .string ⟨#[]⟩, .pointer none] := kb.upd hu2 (by omega)
    have hsz : w2.heap.size = w.heap.size + 1 := by rw [hz2]; simp
    have hz0 : sl0.cells 0 = #[.int .i64 0, .int .i64 0, .int .i64 0, .int .i64 0, .int .i64 0, .string ⟨#[]⟩, .bool false, .string ⟨#[]⟩, .pointer none] := rfl
    have hkz : Blk w2 w.heap.size 74 (sl0.cells 0) := by rw [hz0]; exact kb2
    have hq := h.fresh (S' := fun k => S k ∨ k = w.heap.size) (b' := w.heap.size) hi hg hu (fun _ h => h) (fun _ h => .inl h) (fun k hk => by
      rcases hk with hk | rfl
      · have := h.lt k hk; omega
      · omega) hkz (.inr rfl) (Nat.le_refl _) hm2
    rw [ht, hx]
    have hfin : Hid (∃ S' a', (w.heap.size = a'.sb i s ∧ ∀ k, S' k → S k ∨ w.heap.size ≤ k) ∧ GIn S' w2 g An cn Am cm (G.setSl i s sl0) a' ∧ getA s ((G.setSl i s sl0).nd i).sl = some sl0 ∧ Upd S w w2) := hid
      ⟨_, a.setS i s w.heap.size, ⟨by show w.heap.size = if i = i ∧ s = s then w.heap.size else a.sb i s; rw [if_pos ⟨rfl, rfl⟩], fun k hk => hk.imp id fun e => by omega⟩, hq, hgt, hu.mono fun k _ h => h ▸ n3⟩
    clear hq hgt ht hx h n1 n4 ho hg kb kb2 hm2 hg2 hz2 hu hu2 hrun0 hB hmlt hsz
    go_enter Try.func38, Try.ntmps38
    go_wp2_with fail
    go_ret
    obtain ⟨S', a', ⟨h1, h2⟩, h3⟩ := hfin.out
    refine ⟨S', a', ⟨?_, h2⟩, h3⟩
    rw [← h1]; rfl
end

end Go.Proofs.Ytbgopicpdpkccaa

namespace Go.Proofs.Ytbgopicpdpkccaa
open Go.RowKit
set_option linter.unusedVariables false
set_option linter.unusedSimpArgs false

def c3 (x y : Int) : Int := if x < y then -1 else if y < x then 1 else 0
def orI (x y : Int) : Int := if x ≠ 0 then x else y
def cmpB (a b : Bal) : Int := orI (c3 a.rd b.rd) (c3 a.nd b.nd)
theorem nan_int64 (x : Int) (w : World) : Calls Try.prog 74 #[.int .i64 x] w fun e w' => e = .returned (.bool false) ∧ w' = w := by
  have tt : (x != x) = false := by simp
  go_enter Try.func74, Try.ntmps74
  go_wp2_with fail
  go_ret
  exact ⟨by first | rfl | trivial, by first | rfl | trivial⟩
theorem cmp_int64 (x y : Int) (w : World) : Calls Try.prog 63 #[.int .i64 x, .int .i64 y] w fun e w' => e = .returned (.int .i64 (c3 x y)) ∧ w' = w := by
  by_cases h1 : x < y
  · have hc : Hid (c3 x y = -1) := hid (by unfold c3; rw [if_pos h1])
    have t1 : decide (x < y) = true := decide_eq_true h1
    clear h1
    go_enter Try.func63, Try.ntmps63
    go_wp2_with (go_at_call 74; refine (nan_int64 _ _).mono ?_; rintro e w' ⟨rfl, rfl⟩)
    go_ret
    exact ⟨by rw [hc.out]; rfl, rfl⟩
  · by_cases h2 : y < x
    · have hc : Hid (c3 x y = 1) := hid (by unfold c3; rw [if_neg h1, if_pos h2])
      have t1 : decide (x < y) = false := decide_eq_false h1
      have t2 : decide (y < x) = true := decide_eq_true h2
      clear h1 h2
      go_enter Try.func63, Try.ntmps63
      go_wp2_with (go_at_call 74; refine (nan_int64 _ _).mono ?_; rintro e w' ⟨rfl, rfl⟩)
      go_ret
      exact ⟨by rw [hc.out]; rfl, rfl⟩
    · have hc : Hid (c3 x y = 0) := hid (by unfold c3; rw [if_neg h1, if_neg h2])
      have t1 : decide (x < y) = false := decide_eq_false h1
      have t2 : decide (y < x) = false := decide_eq_false h2
      clear h1 h2
      go_enter Try.func63, Try.ntmps63
      go_wp2_with (go_at_call 74; refine (nan_int64 _ _).mono ?_; rintro e w' ⟨rfl, rfl⟩)
      go_ret
      exact ⟨by rw [hc.out]; rfl, rfl⟩
theorem nan_int (x : Int) (w : World) : Calls Try.prog 75 #[.int .i64 x] w fun e w' => e = .returned (.bool false) ∧ w' = w := by
  have tt : (x != x) = false := by simp
  go_enter Try.func75, Try.ntmps75
  go_wp2_with fail
  go_ret
  exact ⟨by first | rfl | trivial, by first | rfl | trivial⟩
theorem cmp_int (x y : Int) (w : World) : Calls Try.prog 64 #[.int .i64 x, .int .i64 y] w fun e w' => e = .returned (.int .i64 (c3 x y)) ∧ w' = w := by
  by_cases h1 : x < y
  · have hc : Hid (c3 x y = -1) := hid (by unfold c3; rw [if_pos h1])
    have t1 : decide (x < y) = true := decide_eq_true h1
    clear h1
    go_enter Try.func64, Try.ntmps64
    go_wp2_with (go_at_call 75; refine (nan_int _ _).mono ?_; rintro e w' ⟨rfl, rfl⟩)
    go_ret
    exact ⟨by rw [hc.out]; rfl, rfl⟩
  · by_cases h2 : y < x
    · have hc : Hid (c3 x y = 1) := hid (by unfold c3; rw [if_neg h1, if_pos h2])
      have t1 : decide (x < y) = false := decide_eq_false h1
      have t2 : decide (y < x) = true := decide_eq_true h2
      clear h1 h2
      go_enter Try.func64, Try.ntmps64
      go_wp2_with (go_at_call 75; refine (nan_int _ _).mono ?_; rintro e w' ⟨rfl, rfl⟩)
      go_ret
      exact ⟨by rw [hc.out]; rfl, rfl⟩
    · have hc : Hid (c3 x y = 0) := hid (by unfold c3; rw [if_neg h1, if_neg h2])
      have t1 : decide (x < y) = false := decide_eq_false h1
      have t2 : decide (y < x) = false := decide_eq_false h2
      clear h1 h2
      go_enter Try.func64, Try.ntmps64
      go_wp2_with (go_at_call 75; refine (nan_int _ _).mono ?_; rintro e w' ⟨rfl, rfl⟩)
      go_ret
      exact ⟨by rw [hc.out]; rfl, rfl⟩
theorem or_any (x y : Int) (g : Nat) (c : Nat) (w : World) (h0 : w.cell? ⟨g, 0, none⟩ = some (.int .i64 x)) (h1 : w.cell? ⟨g, 1, none⟩ = some (.int .i64 y)) : Calls Try.prog 62 #[.slice (some ⟨g, 0, none⟩) 2 c] w fun e w' => e = .returned (.int .i64 (orI x y)) ∧ w' = w := by
  by_cases hx : x = 0
  · have hc : Hid (orI x y = y) := hid (by unfold orI; rw [if_neg (by simpa using hx)])
    have t1 : (x != 0) = false := by simpa using hx
    clear hx
    by_cases hy : y = 0
    · have t2 : (y != 0) = false := by simpa using hy
      have hy0 := hid hy
      clear hy
      go_enter Try.func62, Try.ntmps62
      go_wp2_with fail
      go_loopw [8] (fun v wr => ∃ k : Nat, v = .int .i64 k ∧ k ≤ 2 ∧ wr = w) (fun v _ => 2 - (intOf v).toNat)
      case atStart => exact ⟨0, rfl, by omega, rfl⟩
      case round =>
        obtain ⟨k, rfl, hk, rfl⟩ := hrel
        obtain rfl | rfl | rfl : k = 0 ∨ k = 1 ∨ k = 2 := by omega
        · go_wp2_with fail
          go_roundw
          case rel => exact ⟨1, by go_num, by omega, by first | rfl | trivial⟩
          case measure => simp [intOf]
        · go_wp2_with fail
          go_roundw
          case rel => exact ⟨2, by go_num, by omega, by first | rfl | trivial⟩
          case measure => simp [intOf]
        · go_wp2_with fail
          go_ret
          exact ⟨by rw [hc.out, hy0.out]; rfl, rfl⟩
    · have t2 : (y != 0) = true := by simpa using hy
      clear hy
      go_enter Try.func62, Try.ntmps62
      go_wp2_with fail
      go_loopw [8] (fun v wr => ∃ k : Nat, v = .int .i64 k ∧ k ≤ 1 ∧ wr = w) (fun v _ => 2 - (intOf v).toNat)
      case atStart => exact ⟨0, rfl, by omega, rfl⟩
      case round =>
        obtain ⟨k, rfl, hk, rfl⟩ := hrel
        obtain rfl | rfl : k = 0 ∨ k = 1 := by omega
        · go_wp2_with fail
          go_roundw
          case rel => exact ⟨1, by go_num, by omega, by first | rfl | trivial⟩
          case measure => simp [intOf]
        · go_wp2_with fail
          go_ret
          exact ⟨by rw [hc.out]; rfl, rfl⟩
  · have hc : Hid (orI x y = x) := hid (by unfold orI; rw [if_pos hx])
    have t1 : (x != 0) = true := by simpa using hx
    clear hx
    go_enter Try.func62, Try.ntmps62
    go_wp2_with fail
    go_loopw [8] (fun v wr => v = .int .i64 0 ∧ wr = w) (fun v _ => 0)
    case atStart => exact ⟨rfl, rfl⟩
    case round =>
      obtain ⟨rfl, rfl⟩ := hrel
      go_wp2_with fail
      go_ret
      exact ⟨by rw [hc.out]; rfl, rfl⟩
def BAL_ (b : Bal) : Value := .agg #[.int .i64 b.rd, .int .i64 b.nd]
set_option maxRecDepth 100000 in
set_option maxHeartbeats 1000000 in
theorem compare_any (a b : Bal) (w : World) : Calls Try.prog 41 #[.agg #[.int .i64 a.rd, .int .i64 a.nd], .agg #[.int .i64 b.rd, .int .i64 b.nd]] w fun e w' => e = .returned (.int .i64 (cmpB a b)) ∧ Below w.heap.size w w' := by
  have hB := below_two (w := w) (.cells #[.int .i64 a.rd, .int .i64 a.nd] 35) (.cells #[.int .i64 b.rd, .int .i64 b.nd] 35)
  have k1 : Blk ((w.alloc (.cells #[.int .i64 a.rd, .int .i64 a.nd] 35)).alloc (.cells #[.int .i64 b.rd, .int .i64 b.nd] 35)) w.heap.size 35 #[.int .i64 a.rd, .int .i64 a.nd] := (Blk.new w 35 #[.int .i64 a.rd, .int .i64 a.nd]).alloc _
  have k2 : Blk ((w.alloc (.cells #[.int .i64 a.rd, .int .i64 a.nd] 35)).alloc (.cells #[.int .i64 b.rd, .int .i64 b.nd] 35)) (w.heap.size + 1) 35 #[.int .i64 b.rd, .int .i64 b.nd] := Blk.new' (w.alloc (.cells #[.int .i64 a.rd, .int .i64 a.nd] 35)) 35 #[.int .i64 b.rd, .int .i64 b.nd] (by simp)
  go_enter Try.func41, Try.ntmps41
  go_upto_region 1 with fail
  generalize (w.alloc (.cells #[.int .i64 a.rd, .int .i64 a.nd] 35)).alloc (.cells #[.int .i64 b.rd, .int .i64 b.nd] 35) = W1 at *
  have x0 : W1.cell? ⟨w.heap.size, 0, none⟩ = some (.int .i64 a.rd) := k1.cell 0
  have x1 : W1.cell? ⟨w.heap.size, 1, none⟩ = some (.int .i64 a.nd) := k1.cell 1
  have y0 : W1.cell? ⟨w.heap.size + 1, 0, none⟩ = some (.int .i64 b.rd) := k2.cell 0
  have y1 : W1.cell? ⟨w.heap.size + 1, 1, none⟩ = some (.int .i64 b.nd) := k2.cell 1
  go_region_held3 (fun w' => w'.cell? ⟨w.heap.size, 0, none⟩ = some (.int .i64 a.rd) ∧ w'.cell? ⟨w.heap.size, 1, none⟩ = some (.int .i64 a.nd) ∧ w'.cell? ⟨w.heap.size + 1, 0, none⟩ = some (.int .i64 b.rd) ∧ w'.cell? ⟨w.heap.size + 1, 1, none⟩ = some (.int .i64 b.nd)) (first | exact ⟨x0, x1, y0, y1⟩ | go_keep)
    (first
      | (go_at_call 62; refine (or_any (c3 a.rd b.rd) (c3 a.nd b.nd) W1.heap.size 2 _ (by simp) (by simp)).mono ?_; rintro e w' ⟨rfl, rfl⟩)
      | (go_at_call 63; refine (cmp_int64 _ _ _).mono ?_; rintro e w' ⟨rfl, rfl⟩)
      | (go_at_call 64; refine (cmp_int _ _ _).mono ?_; rintro e w' ⟨rfl, rfl⟩))
  all_goals
    go_wp2_with fail
    go_ret
    exact ⟨rfl, hB.trans ((((Below.refl _ W1).alloc (Nat.le_refl _) _).drew).mono hB.size)⟩

end Go.Proofs.Ytbgopicpdpkccaa

