/- A group in memory: the plain data, where they lie, what stays. -/
import Derived.Test.YtbgopicpdpkccaaGBase
namespace Go.Proofs.Ytbgopicpdpkccaa
open Go.RowKit
set_option linter.unusedVariables false
set_option linter.unusedSimpArgs false

structure Bal where
  rd : Int
  nd : Int
deriving DecidableEq
structure Vt where
  bal : Bal
  text : ByteArray
deriving DecidableEq
structure Bd where
  bal : Bal
  text : ByteArray
  acc : Bool
  ans : List (Int × Vt)
deriving DecidableEq
structure Sl where
  rd : Int
  prom : Bal
  accd : Vt
  is : Bool
  text : ByteArray
  bid : Option Bd
deriving DecidableEq
structure Nd where
  up : Bool
  sl : List (Int × Sl)
deriving DecidableEq
structure Ml where
  kind : Int
  fr : Int
  dst : Int
  slot : Int
  bal : Bal
  had : Bal
  text : ByteArray
deriving DecidableEq
structure Gr where
  nds : List Nd
  mail : List Ml
deriving DecidableEq
def bal0 : Bal := ⟨0, 0⟩
def vt0 : Vt := ⟨bal0, ⟨#[]⟩⟩
def sl0 : Sl := ⟨0, bal0, vt0, false, ⟨#[]⟩, none⟩
def nd0 : Nd := ⟨false, []⟩
def Gr.nd (G : Gr) (i : Nat) : Nd := G.nds.getD i nd0
def Gr.setNd (G : Gr) (i : Nat) (N : Nd) : Gr := { G with nds := G.nds.set i N }
def Gr.setSl (G : Gr) (i : Nat) (s : Int) (x : Sl) : Gr := G.setNd i { G.nd i with sl := setA s x (G.nd i).sl }
def Gr.setMail (G : Gr) (l : List Ml) : Gr := { G with mail := l }
theorem Gr.nd_set (G : Gr) (i j : Nat) (N : Nd) (h : i < G.nds.length) : (G.setNd i N).nd j = if j = i then N else G.nd j := by
  unfold Gr.setNd Gr.nd
  simp only [List.getD_eq_getElem?_getD]
  by_cases e : j = i
  · subst e; rw [if_pos rfl, List.getElem?_set_self h]; rfl
  · rw [if_neg e, List.getElem?_set_ne (fun h => e h.symm)]
theorem Gr.len_set (G : Gr) (i : Nat) (N : Nd) : (G.setNd i N).nds.length = G.nds.length := List.length_set
/-- a ballot's two cells, a vote's three -/
def Ml.cells (m : Ml) : List Value := [.int .i64 m.kind, .int .i64 m.fr, .int .i64 m.dst, .int .i64 m.slot, .int .i64 m.bal.rd, .int .i64 m.bal.nd, .int .i64 m.had.rd, .int .i64 m.had.nd, .string m.text]
def mcells (l : List Ml) : List Value := l.flatMap Ml.cells
theorem mcells_len (l : List Ml) : (mcells l).length = l.length * 9 := by
  induction l with
  | nil => rfl
  | cons m l ih => simp only [mcells, List.flatMap_cons, List.length_append, List.length_cons] at *; rw [ih]; simp [Ml.cells]; omega
theorem mcells_app (l m : List Ml) : mcells (l ++ m) = mcells l ++ mcells m := by simp [mcells]
theorem mcells_at (l : List Ml) (k j : Nat) (h : k < l.length) (hj : j < 9) : (mcells l)[k * 9 + j]? = l[k].cells[j]? := by
  induction l generalizing k with
  | nil => simp at h
  | cons m l ih =>
    cases k with
    | zero =>
      simp only [mcells, List.flatMap_cons, Nat.zero_mul, Nat.zero_add, List.getElem_cons_zero]
      rw [List.getElem?_append_left (by show j < 9; exact hj)]
    | succ k =>
      simp only [mcells, List.flatMap_cons, List.getElem_cons_succ]
      rw [List.getElem?_append_right (by show 9 ≤ _; omega), show (k + 1) * 9 + j - (Ml.cells m).length = k * 9 + j from by show (k + 1) * 9 + j - 9 = _; omega]
      exact ih k (by simpa using h)
theorem mcells_one (l : List Ml) : ∀ u ∈ mcells l, u.oneCell' = true := by
  intro u hu
  obtain ⟨m, _, hm⟩ := List.mem_flatMap.1 hu
  simp only [Ml.cells, List.mem_cons, List.not_mem_nil, or_false] at hm
  rcases hm with h | h | h | h | h | h | h | h | h <;> subst h <;> rfl
def vtV (v : Vt) : Value := .agg #[.int .i64 v.bal.rd, .int .i64 v.bal.nd, .string v.text]
def Sl.cells (s : Sl) (bb : Nat) : Array Value := #[.int .i64 s.rd, .int .i64 s.prom.rd, .int .i64 s.prom.nd, .int .i64 s.accd.bal.rd, .int .i64 s.accd.bal.nd, .string s.accd.text, .bool s.is, .string s.text, .pointer (if s.bid.isSome then some ⟨bb, 0, none⟩ else none)]
def Bd.cells (d : Bd) (ab : Nat) : Array Value := #[.int .i64 d.bal.rd, .int .i64 d.bal.nd, .string d.text, .bool d.acc, .map (some ab)]
/-- what a node has of a slot -/
def SlAt (S : Nat → Prop) (w : World) (b bb ab : Nat) (s : Sl) : Prop :=
  Blk w b 74 (s.cells bb) ∧ S b ∧ ∀ d, s.bid = some d → Blk w bb 83 (d.cells ab) ∧ S bb ∧ S ab ∧ MapIs intE w ab (d.ans.map fun p => (p.1, vtV p.2)) ∧ Once d.ans
/-- where all lies -/
structure Ad where
  nb : Nat → Nat
  mb : Nat → Nat
  sb : Nat → Int → Nat
  bb : Nat → Int → Nat
  ab : Nat → Int → Nat
def Ad.setB (a : Ad) (i : Nat) (s : Int) (b c : Nat) : Ad := { a with bb := fun j t => if j = i ∧ t = s then b else a.bb j t, ab := fun j t => if j = i ∧ t = s then c else a.ab j t }
def Ad.setS (a : Ad) (i : Nat) (s : Int) (b : Nat) : Ad := { a with sb := fun j t => if j = i ∧ t = s then b else a.sb j t }
structure GIn (S : Nat → Prop) (w : World) (g : Nat) (An : Option Addr) (cn : Nat) (Am : Option Addr) (cm : Nat) (G : Gr) (a : Ad) : Prop where
  blk : Blk w g 63 #[.slice An G.nds.length cn, .slice Am G.mail.length cm]
  nrow : OwnS S w 64 1 (.slice An G.nds.length cn) G.nds.length ((List.range G.nds.length).map fun i => .pointer (some ⟨a.nb i, 0, none⟩))
  mrow : OwnS S w 78 9 (.slice Am G.mail.length cm) G.mail.length (mcells G.mail)
  nd : ∀ i, i < G.nds.length → Blk w (a.nb i) 67 #[.bool (G.nd i).up, .map (some (a.mb i))] ∧ S (a.nb i) ∧ S (a.mb i) ∧ MapIs intE w (a.mb i) ((G.nd i).sl.map fun p => (p.1, .pointer (some ⟨a.sb i p.1, 0, none⟩))) ∧ Once (G.nd i).sl
  sl : ∀ i, i < G.nds.length → ∀ p ∈ (G.nd i).sl, SlAt S w (a.sb i p.1) (a.bb i p.1) (a.ab i p.1) p.2
  nbI : ∀ i j, i < G.nds.length → j < G.nds.length → a.nb i = a.nb j → i = j
  mbI : ∀ i j, i < G.nds.length → j < G.nds.length → a.mb i = a.mb j → i = j
  sbI : ∀ i j, i < G.nds.length → j < G.nds.length → ∀ p ∈ (G.nd i).sl, ∀ q ∈ (G.nd j).sl, a.sb i p.1 = a.sb j q.1 → i = j ∧ p.1 = q.1
  bbI : ∀ i j, i < G.nds.length → j < G.nds.length → ∀ p ∈ (G.nd i).sl, ∀ q ∈ (G.nd j).sl, p.2.bid.isSome → q.2.bid.isSome → a.bb i p.1 = a.bb j q.1 → i = j ∧ p.1 = q.1
  abI : ∀ i j, i < G.nds.length → j < G.nds.length → ∀ p ∈ (G.nd i).sl, ∀ q ∈ (G.nd j).sl, p.2.bid.isSome → q.2.bid.isSome → a.ab i p.1 = a.ab j q.1 → i = j ∧ p.1 = q.1
  mab : ∀ i j, i < G.nds.length → j < G.nds.length → ∀ q ∈ (G.nd j).sl, q.2.bid.isSome → a.mb i ≠ a.ab j q.1
  inS : S g
  lt : ∀ k, S k → k < w.heap.size
def GAt (S : Nat → Prop) (w : World) (g : Nat) (G : Gr) : Prop := ∃ An cn Am cm a, GIn S w g An cn Am cm G a
section
variable {S S' : Nat → Prop} {w w' : World} {g : Nat} {An Am : Option Addr} {cn cm : Nat} {G : Gr} {a : Ad}
theorem SlAt.keep {b bb ab : Nat} {s : Sl} (h : SlAt S w b bb ab s) (hk : ∀ k, k = b ∨ (s.bid.isSome ∧ (k = bb ∨ k = ab)) → k < w.heap.size → w'.heap[k]? = w.heap[k]?) (hS : ∀ k, S k → S' k) : SlAt S' w' b bb ab s := by
  obtain ⟨h1, h2, h3⟩ := h
  refine ⟨(hk b (.inl rfl) h1.lt).trans h1, hS _ h2, fun d hd => ?_⟩
  obtain ⟨h4, h5, h6, h7, h8⟩ := h3 d hd
  have hs : s.bid.isSome := by rw [hd]; rfl
  exact ⟨(hk bb (.inr ⟨hs, .inl rfl⟩) h4.lt).trans h4, hS _ h5, hS _ h6, h7.keep (hk ab (.inr ⟨hs, .inr rfl⟩) h7.lt), h8⟩
theorem GIn.far {M : Nat → Prop} (h : GIn S w g An cn Am cm G a) (hu : Upd M w w') (hM : ∀ k, S k → ¬ M k) : GIn S w' g An cn Am cm G a :=
  { h with
    blk := h.blk.upd hu (hM _ h.inS)
    nrow := h.nrow.keep fun b hb hl => hu.block b hl (hM b hb)
    mrow := h.mrow.keep fun b hb hl => hu.block b hl (hM b hb)
    nd := fun i hi => by
      obtain ⟨h1, h2, h3, h4, h5⟩ := h.nd i hi
      exact ⟨h1.upd hu (hM _ h2), h2, h3, h4.upd hu (hM _ h3), h5⟩
    sl := fun i hi p hp => (h.sl i hi p hp).keep (fun k hk hl => hu.block k hl (by
      obtain ⟨_, h2, h3⟩ := h.sl i hi p hp
      rcases hk with rfl | ⟨hs, hk⟩
      · exact hM _ h2
      · obtain ⟨d, hd⟩ := Option.isSome_iff_exists.1 hs
        obtain ⟨_, h5, h6, _, _⟩ := h3 d hd
        rcases hk with rfl | rfl
        · exact hM _ h5
        · exact hM _ h6)) fun _ => id
    lt := fun k hk => Nat.lt_of_lt_of_le (h.lt k hk) hu.size }
theorem GIn.below (h : GIn S w g An cn Am cm G a) (hb : Below w.heap.size w w') : GIn S w' g An cn Am cm G a := h.far (M := Nil) (.of_below' hb _) fun _ _ => id
/-- the mail is new -/
theorem GIn.post {M : Nat → Prop} {Am' : Option Addr} {cm' : Nat} {l : List Ml} (h : GIn S w g An cn Am cm G a) (hu : Upd M w w') (hM : ∀ k, M k → k = g ∨ ∃ cs, Blk w k 78 cs) (hS : ∀ k, S k → S' k) (hl : ∀ k, S' k → k < w'.heap.size)
    (hb : Blk w' g 63 #[.slice An G.nds.length cn, .slice Am' l.length cm']) (hr : OwnS S' w' 78 9 (.slice Am' l.length cm') l.length (mcells l)) : GIn S' w' g An cn Am' cm' (G.setMail l) a := by
  have hk : ∀ (e : TypeId) b cs, e ≠ 78 → e ≠ 63 → Blk w b e cs → w'.heap[b]? = w.heap[b]? := fun e b cs h1 h2 hb' => hu.block b hb'.lt fun hm => by
    rcases hM b hm with rfl | ⟨cs', hb2⟩
    · exact hb'.ne_ h.blk h2 rfl
    · exact hb'.ne_ hb2 h1 rfl
  have hm : ∀ {l : List (Int × Value)} {b}, MapIs intE w b l → w'.heap[b]? = w.heap[b]? := fun {l b} hm' => hu.block b hm'.lt fun hm => by
    rcases hM b hm with rfl | ⟨cs', hb2⟩
    · exact hm'.ne_blk h.blk rfl
    · exact hm'.ne_blk hb2 rfl
  refine ⟨hb, (h.nrow.keepT fun b cs hb' => hk _ b cs (by decide) (by decide) hb').more' hS, hr, fun i hi => ?_, fun i hi p hp => ?_, h.nbI, h.mbI, h.sbI, h.bbI, h.abI, h.mab, hS _ h.inS, hl⟩
  · obtain ⟨h1, h2, h3, h4, h5⟩ := h.nd i hi
    exact ⟨(hk _ _ _ (by decide) (by decide) h1).trans h1, hS _ h2, hS _ h3, h4.keep (hm h4), h5⟩
  · have hx := h.sl i hi p hp
    obtain ⟨h1, h2, h3⟩ := hx
    refine ⟨(hk _ _ _ (by decide) (by decide) h1).trans h1, hS _ h2, fun d hd => ?_⟩
    obtain ⟨h4, h5, h6, h7, h8⟩ := h3 d hd
    exact ⟨(hk _ _ _ (by decide) (by decide) h4).trans h4, hS _ h5, hS _ h6, h7.keep (hm h7), h8⟩
end

end Go.Proofs.Ytbgopicpdpkccaa
