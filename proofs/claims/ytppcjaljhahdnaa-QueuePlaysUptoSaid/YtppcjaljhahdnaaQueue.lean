/- A Queue in memory; New, Len, Of, Seen. -/
import Derived.Test.YtppcjaljhahdnaaQDelete
import Derived.Test.YtppcjaljhahdnaaMap
namespace Go.Proofs.Ytppcjaljhahdnaa
open Go.RowKit
set_option linter.unusedVariables false
set_option linter.unusedSimpArgs false

theorem int_eq (a b : Int) (w : World) : (Op.equal 3 (.int .i64 a) (.int .i64 b)).run Try.prog w = .ok (decide (a = b)) w := by
  have ht : Try.prog.underlying 3 = some (.int .i64) := Try.underlying3
  unfold Op.equal Op.maxDepth
  go_simp
  first | done | (by_cases h : a = b <;> simp [h])
theorem int_check (em : Bool) (a : Int) (w : World) : (Instr.checkKey em 10000 3 (.int .i64 a)).run Try.prog w = .ok () w := by
  kernel_rfl
def intE : KeyEnc Try.prog 3 Int where
  enc := .int .i64
  desc := _
  under := Try.underlying3
  eq := int_eq
  check := int_check
  now := fun a b => .inr (by by_cases h : a = b <;> simp [Instr.sameNow, h])
  bits := fun a => by
    rw [show (10000 : Nat) = 9998 + 1 + 1 from rfl]
    simp [Instr.sameBits]

/-- the value at a key -/
def getA {κ α : Type} [DecidableEq κ] (k : κ) : List (κ × α) → Option α
  | [] => none
  | p :: l => if k = p.1 then some p.2 else getA k l
def setA {κ α : Type} [DecidableEq κ] (k : κ) (v : α) : List (κ × α) → List (κ × α)
  | [] => [(k, v)]
  | p :: l => if k = p.1 then (k, v) :: l else p :: setA k v l
def delA {κ α : Type} [DecidableEq κ] (k : κ) : List (κ × α) → List (κ × α)
  | [] => []
  | p :: l => if k = p.1 then l else p :: delA k l
theorem look_map {κ α : Type} [DecidableEq κ] (f : α → Value) (k : κ) : ∀ (l : List (κ × α)) (i : Nat), (look k (l.map fun p => (p.1, f p.2)) i).map (·.2) = (getA k l).map f := by
  intro l
  induction l with
  | nil => intro i; rfl
  | cons p l ih =>
    intro i
    by_cases h : k = p.1
    · simp [look, getA, h]
    · simp [look, getA, h, ih]
theorem getK_map {κ α : Type} [DecidableEq κ] (f : α → Value) (k : κ) (l : List (κ × α)) : getK k (l.map fun p => (p.1, f p.2)) = (getA k l).map f := look_map f k l 0
theorem setK_map {κ α : Type} [DecidableEq κ] (f : α → Value) (k : κ) (v : α) (l : List (κ × α)) : setK k (f v) (l.map fun p => (p.1, f p.2)) = (setA k v l).map fun p => (p.1, f p.2) := by
  induction l with
  | nil => rfl
  | cons p l ih =>
    by_cases h : k = p.1
    · simp [setK, setA, h]
    · simp [setK, setA, h, ih]
theorem delK_map {κ α : Type} [DecidableEq κ] (f : α → Value) (k : κ) (l : List (κ × α)) : delK k (l.map fun p => (p.1, f p.2)) = (delA k l).map fun p => (p.1, f p.2) := by
  induction l with
  | nil => rfl
  | cons p l ih =>
    by_cases h : k = p.1
    · simp [delK, delA, h]
    · simp [delK, delA, h, ih]
section
variable {κ α : Type} [DecidableEq κ]
theorem getA_mem {k : κ} {l : List (κ × α)} {v : α} (h : getA k l = some v) : (k, v) ∈ l := by
  induction l with
  | nil => cases h
  | cons p l ih =>
    by_cases e : k = p.1
    · simp only [getA, e, if_true, Option.some.injEq] at h
      subst h; subst e; exact List.mem_cons_self
    · simp only [getA, e, if_false] at h
      exact List.mem_cons_of_mem _ (ih h)
theorem getA_set (k j : κ) (v : α) (l : List (κ × α)) : getA j (setA k v l) = if j = k then some v else getA j l := by
  induction l with
  | nil => by_cases h : j = k <;> simp [setA, getA, h]
  | cons p l ih =>
    by_cases h : k = p.1
    · by_cases e : j = k
      · subst e; simp [setA, getA, h]
      · have : ¬ j = p.1 := fun x => e (x.trans h.symm)
        simp [setA, getA, h, e, this]
    · by_cases e : j = p.1
      · have : ¬ j = k := fun x => h (x.symm.trans e)
        simp [setA, getA, h, e]
        intro x; exact absurd x.symm h
      · simp [setA, getA, h, e, ih]
theorem setA_mem {k : κ} {v : α} {l : List (κ × α)} {p : κ × α} (h : p ∈ setA k v l) : p = (k, v) ∨ p ∈ l := by
  induction l with
  | nil => exact .inl (by simpa [setA] using h)
  | cons q l ih =>
    by_cases e : k = q.1
    · simp only [setA, e, if_true] at h
      rcases List.mem_cons.1 h with h | h
      · exact .inl (by rw [h, e])
      · exact .inr (List.mem_cons_of_mem _ h)
    · simp only [setA, e, if_false] at h
      rcases List.mem_cons.1 h with h | h
      · exact .inr (h ▸ List.mem_cons_self)
      · rcases ih h with h | h
        · exact .inl h
        · exact .inr (List.mem_cons_of_mem _ h)
/-- keys stand once -/
def Once (l : List (κ × α)) : Prop := (l.map (·.1)).Nodup
theorem Once.set {k : κ} {v : α} {l : List (κ × α)} (h : Once l) : Once (setA k v l) := by
  unfold Once at *
  induction l with
  | nil => simp [setA]
  | cons p l ih =>
    simp only [List.map_cons, List.nodup_cons] at h
    by_cases e : k = p.1
    · simp only [setA, e, if_true, List.map_cons, List.nodup_cons]; exact h
    · simp only [setA, e, if_false, List.map_cons, List.nodup_cons]
      refine ⟨fun hm => ?_, ih h.2⟩
      obtain ⟨q, hq, he⟩ := List.mem_map.1 hm
      rcases setA_mem hq with rfl | hq
      · exact e he
      · exact h.1 (List.mem_map.2 ⟨q, hq, he⟩)
theorem Once.del {k : κ} {l : List (κ × α)} (h : Once l) : Once (delA k l) ∧ ∀ j, getA j (delA k l) = if j = k then none else getA j l := by
  unfold Once at *
  induction l with
  | nil => exact ⟨h, fun j => by simp [delA, getA]⟩
  | cons p l ih =>
    simp only [List.map_cons, List.nodup_cons] at h
    have hn : ∀ (l : List (κ × α)), p.1 ∉ l.map (·.1) → getA p.1 l = none := by
      intro l hl
      cases hg : getA p.1 l with
      | none => rfl
      | some v => exact absurd (List.mem_map.2 ⟨_, getA_mem hg, rfl⟩) hl
    by_cases e : k = p.1
    · subst e
      simp only [delA, if_true]
      refine ⟨h.2, fun j => ?_⟩
      by_cases hj : j = p.1
      · subst hj; simp [hn l h.1]
      · simp [getA, hj]
    · obtain ⟨i1, i2⟩ := ih h.2
      have hsub : ∀ q, q ∈ delA k l → q ∈ l := by
        intro q
        clear ih h hn i1 i2
        induction l with
        | nil => intro h; cases h
        | cons r l ih =>
          intro hq
          by_cases e : k = r.1
          · simp only [delA, e, if_true] at hq; exact List.mem_cons_of_mem _ hq
          · simp only [delA, e, if_false] at hq
            rcases List.mem_cons.1 hq with h | h
            · exact h ▸ List.mem_cons_self
            · exact List.mem_cons_of_mem _ (ih h)
      simp only [delA, e, if_false, List.map_cons, List.nodup_cons]
      refine ⟨⟨fun hm => ?_, i1⟩, fun j => ?_⟩
      · obtain ⟨q, hq, he⟩ := List.mem_map.1 hm
        exact h.1 (List.mem_map.2 ⟨q, hsub q hq, he⟩)
      · by_cases hj : j = p.1
        · subst hj
          have : ¬ p.1 = k := fun x => e x.symm
          simp [getA, this]
        · simp [getA, hj, i2]
end

/-- how many of a client wait -/
def cnt (c : Int) (L : List Pl) : Nat := (L.filter fun p => decide (p.cl = c)).length
def tokV (t : Int × (Value × List Int)) : Int × Value := (t.1, t.2.1)
def tokL (tk : List (Int × (Value × List Int))) (c : Int) : List Int := ((getA c tk).map (·.2)).getD []

structure QIn (S : Nat → Prop) (w : World) (g mo ms : Nat) (mt sh wn : Int) (A : Option Addr) (c : Nat) (rs : List RP) (of : List (Int × Int)) (tk : List (Int × (Value × List Int))) : Prop where
  blk : Blk w g 67 #[.int .i64 mt, .int .i64 sh, .int .i64 wn, .slice A rs.length c, .map (some mo), .map (some ms)]
  ofm : MapIs intE w mo (of.map fun p => (p.1, .int .i64 p.2))
  seen : MapIs intE w ms (tk.map fun p => (p.1, p.2.1))
  pls : PlansS S w A c rs
  tok : ∀ t ∈ tk, TokAt w t.2.1 t.2.2 ∧ ∀ b, t.2.1.ownBlock = some b → S b
  apart : tk.Pairwise fun s t => ∀ b, s.2.1.ownBlock = some b → t.2.1.ownBlock = some b → False
  inS : S g ∧ S mo ∧ S ms
  ne : mo ≠ ms
  lt : ∀ k, S k → k < w.heap.size
  once : Once of ∧ Once tk
  cnt : ∀ c, (getA c of).getD 0 = (cnt c (plans rs) : Int)
  mt1 : 1 ≤ mt ∧ mt ≤ 1024
  wn1 : 0 ≤ wn ∧ wn ≤ 256
  len : (rs.length : Int) ≤ mt
  tlen : ∀ t ∈ tk, (t.2.2.length : Int) ≤ wn
  fits : ∀ r ∈ rs, r.p.fits
def QAt (S : Nat → Prop) (w : World) (g : Nat) (mt sh wn : Int) (L : List Pl) (T : Int → List Int) : Prop :=
  ∃ mo ms A c rs of tk, QIn S w g mo ms mt sh wn A c rs of tk ∧ plans rs = L ∧ ∀ c, tokL tk c = T c
theorem QIn.far {S : Nat → Prop} {w w' : World} {g mo ms : Nat} {mt sh wn : Int} {A : Option Addr} {c : Nat} {rs : List RP} {of : List (Int × Int)} {tk : List (Int × (Value × List Int))} {M : Nat → Prop} (h : QIn S w g mo ms mt sh wn A c rs of tk) (hu : Upd M w w') (hM : ∀ k, S k → ¬ M k) : QIn S w' g mo ms mt sh wn A c rs of tk :=
  { h with
    blk := h.blk.upd hu (hM _ h.inS.1)
    ofm := h.ofm.upd hu (hM _ h.inS.2.1)
    seen := h.seen.upd hu (hM _ h.inS.2.2)
    pls := h.pls.keep fun b hb hl => hu.block b hl (hM b hb)
    tok := fun t ht => ⟨(h.tok t ht).1.upd hu fun b hb => hM b ((h.tok t ht).2 b hb), (h.tok t ht).2⟩
    lt := fun k hk => Nat.lt_of_lt_of_le (h.lt k hk) hu.size }
theorem QIn.below {S : Nat → Prop} {w w' : World} {g mo ms : Nat} {mt sh wn : Int} {A : Option Addr} {c : Nat} {rs : List RP} {of : List (Int × Int)} {tk : List (Int × (Value × List Int))} (h : QIn S w g mo ms mt sh wn A c rs of tk) (hb : Below w.heap.size w w') : QIn S w' g mo ms mt sh wn A c rs of tk := h.far (M := Nil) (.of_below' hb _) fun _ _ => id
theorem QAt.far {S : Nat → Prop} {w w' : World} {g : Nat} {mt sh wn : Int} {L : List Pl} {T : Int → List Int} {M : Nat → Prop} (h : QAt S w g mt sh wn L T) (hu : Upd M w w') (hM : ∀ k, S k → ¬ M k) : QAt S w' g mt sh wn L T := by
  obtain ⟨mo, ms, A, c, rs, of, tk, h, e⟩ := h
  exact ⟨mo, ms, A, c, rs, of, tk, h.far hu hM, e⟩
theorem QAt.below {S : Nat → Prop} {w w' : World} {g : Nat} {mt sh wn : Int} {L : List Pl} {T : Int → List Int} (h : QAt S w g mt sh wn L T) (hb : Below w.heap.size w w') : QAt S w' g mt sh wn L T := h.far (M := Nil) (.of_below' hb _) fun _ _ => id
theorem zero_int (w : World) : (zeroValue 3).run Try.prog w = .ok (.int .i64 0) w := by kernel_rfl
theorem zero_toks (w : World) : (zeroValue 61).run Try.prog w = .ok (.slice none 0 0) w := by kernel_rfl
section
variable {S : Nat → Prop} {w : World} {g mo ms : Nat} {mt sh wn : Int} {A : Option Addr} {c : Nat} {rs : List RP} {of : List (Int × Int)} {tk : List (Int × (Value × List Int))}
theorem QIn.cells (h : QIn S w g mo ms mt sh wn A c rs of tk) : w.cell? ⟨g, 0, none⟩ = some (.int .i64 mt) ∧ w.cell? ⟨g, 1, none⟩ = some (.int .i64 sh) ∧ w.cell? ⟨g, 2, none⟩ = some (.int .i64 wn) ∧ w.cell? ⟨g, 3, none⟩ = some (.slice A rs.length c) ∧ w.cell? ⟨g, 4, none⟩ = some (.map (some mo)) ∧ w.cell? ⟨g, 5, none⟩ = some (.map (some ms)) :=
  ⟨h.blk.cell 0, h.blk.cell 1, h.blk.cell 2, h.blk.cell 3, h.blk.cell 4, h.blk.cell 5⟩
/-- what the map of counts says -/
theorem QIn.ofLook (h : QIn S w g mo ms mt sh wn A c rs of tk) (x : Int) (k : Nat) : (Instr.lookup 63 (.map (some mo)) (.int .i64 x) false).run Try.prog (w.drewN k) = .ok (.int .i64 (Proofs.Ytppcjaljhahdnaa.cnt x (plans rs) : Nat)) (w.drewN k) := by
  have h1 := (h.ofm.keep (w' := w.drewN k) rfl).lookup Try.underlying63 zero_int x
  rw [getK_map (f := Value.int .i64)] at h1
  have h2 := h.cnt x
  cases hg : getA x of with
  | none => rw [hg] at h1 h2; simp only [Option.getD_none] at h2; rw [← h2]; exact h1
  | some v => rw [hg] at h1 h2; simp only [Option.getD_some] at h2; rw [← h2]; exact h1
/-- the tokens of a client, as a value -/
def tokVal (tk : List (Int × (Value × List Int))) (x : Int) : Value := ((getA x tk).map (·.1)).getD (.slice none 0 0)
theorem QIn.seenLook (h : QIn S w g mo ms mt sh wn A c rs of tk) (x : Int) (k : Nat) : (Instr.lookup 64 (.map (some ms)) (.int .i64 x) false).run Try.prog (w.drewN k) = .ok (tokVal tk x) (w.drewN k) := by
  have h1 := (h.seen.keep (w' := w.drewN k) rfl).lookup Try.underlying64 zero_toks x
  rw [getK_map (f := fun v : Value × List Int => v.1)] at h1
  unfold tokVal
  cases hg : getA x tk with
  | none => rw [hg] at h1; exact h1
  | some v => rw [hg] at h1; exact h1
theorem QIn.tokAt (h : QIn S w g mo ms mt sh wn A c rs of tk) (x : Int) : TokAt w (tokVal tk x) (tokL tk x) ∧ ((tokL tk x).length : Int) ≤ wn ∧ ∀ b, (tokVal tk x).ownBlock = some b → S b := by
  unfold tokVal tokL
  cases hg : getA x tk with
  | none => exact ⟨TokAt.nil w, by simpa using h.wn1.1, fun b hb => by simp [Value.ownBlock] at hb⟩
  | some v => exact ⟨(h.tok _ (getA_mem hg)).1, h.tlen _ (getA_mem hg), (h.tok _ (getA_mem hg)).2⟩
end

end Go.Proofs.Ytppcjaljhahdnaa
