/- A Queue in memory, while Submit is at work: step by step. -/
import Derived.Test.YtppcjaljhahdnaaQSubmit
namespace Go.Proofs.Ytppcjaljhahdnaa
open Go.RowKit
set_option linter.unusedVariables false
set_option linter.unusedSimpArgs false

structure QRaw (S : Nat → Prop) (w : World) (g mo ms : Nat) (mt sh wn : Int) (A : Option Addr) (c : Nat) (rs : List RP) (of : List (Int × Int)) (tk : List (Int × (Value × List Int))) : Prop where
  blk : Blk w g 67 #[.int .i64 mt, .int .i64 sh, .int .i64 wn, .slice A rs.length c, .map (some mo), .map (some ms)]
  ofm : MapIs intE w mo (of.map fun p => (p.1, .int .i64 p.2))
  seen : MapIs intE w ms (tk.map fun p => (p.1, p.2.1))
  pls : PlansS S w A c rs
  tok : ∀ t ∈ tk, TokAt w t.2.1 t.2.2 ∧ ∀ b, t.2.1.ownBlock = some b → S b
  apart : tk.Pairwise fun s t => ∀ b, s.2.1.ownBlock = some b → t.2.1.ownBlock = some b → False
  inS : S g ∧ S mo ∧ S ms
  ne : mo ≠ ms
  lt : ∀ k, S k → k < w.heap.size
  once : Once of ∧ Once tk
section
variable {κ α : Type} [DecidableEq κ]
theorem setA_mem' {k : κ} {v : α} {l : List (κ × α)} (ho : Once l) {p : κ × α} (h : p ∈ setA k v l) : p = (k, v) ∨ p ∈ l ∧ p.1 ≠ k := by
  unfold Once at ho
  induction l with
  | nil => exact .inl (by simpa [setA] using h)
  | cons q l ih =>
    simp only [List.map_cons, List.nodup_cons] at ho
    by_cases e : k = q.1
    · simp only [setA, e, if_true] at h
      rcases List.mem_cons.1 h with h | h
      · exact .inl (by rw [h, e])
      · exact .inr ⟨List.mem_cons_of_mem _ h, fun he => ho.1 (List.mem_map.2 ⟨p, h, he.trans e⟩)⟩
    · simp only [setA, e, if_false] at h
      rcases List.mem_cons.1 h with h | h
      · exact .inr ⟨h ▸ List.mem_cons_self, fun he => e (h ▸ he.symm)⟩
      · rcases ih ho.2 h with h | h
        · exact .inl h
        · exact .inr ⟨List.mem_cons_of_mem _ h.1, h.2⟩
theorem setA_pairwise {k : κ} {v : α} {R : κ × α → κ × α → Prop} : ∀ {l : List (κ × α)}, Once l → l.Pairwise R → (∀ p ∈ l, p.1 ≠ k → R (k, v) p ∧ R p (k, v)) → (setA k v l).Pairwise R := by
  intro l
  induction l with
  | nil => intro _ _ _; simp [setA]
  | cons q l ih =>
    intro ho hp hR
    have ho' := ho
    unfold Once at ho
    simp only [List.map_cons, List.nodup_cons] at ho
    obtain ⟨hp1, hp2⟩ := List.pairwise_cons.1 hp
    by_cases e : k = q.1
    · simp only [setA, e, if_true]
      refine List.pairwise_cons.2 ⟨fun p hpl => ?_, hp2⟩
      exact e ▸ (hR p (List.mem_cons_of_mem _ hpl) fun he => ho.1 (List.mem_map.2 ⟨p, hpl, he.trans e⟩)).1
    · simp only [setA, e, if_false]
      refine List.pairwise_cons.2 ⟨fun p hpl => ?_, ih ho.2 hp2 fun p hpl hne => hR p (List.mem_cons_of_mem _ hpl) hne⟩
      rcases setA_mem hpl with rfl | h
      · exact (hR q List.mem_cons_self fun he => e he.symm).2
      · exact hp1 p h
end
theorem OwnS.more' {S S' : Nat → Prop} {w : World} {e : TypeId} {size n : Nat} {v : Value} {xs : List Value} (h : OwnS S w e size v n xs) (hS : ∀ b, S b → S' b) : OwnS S' w e size v n xs := ⟨h.1, fun b hb => hS b (h.2 b hb)⟩
section
variable {S S' : Nat → Prop} {w w' : World} {g mo ms : Nat} {mt sh wn : Int} {A : Option Addr} {c : Nat} {rs : List RP} {of : List (Int × Int)} {tk : List (Int × (Value × List Int))}
theorem QIn.raw (q : QIn S w g mo ms mt sh wn A c rs of tk) : QRaw S w g mo ms mt sh wn A c rs of tk := ⟨q.blk, q.ofm, q.seen, q.pls, q.tok, q.apart, q.inS, q.ne, q.lt, q.once⟩
theorem QRaw.in_ (q : QRaw S w g mo ms mt sh wn A c rs of tk) (hcnt : ∀ c, (getA c of).getD 0 = (cnt c (plans rs) : Int)) (mt1 : 1 ≤ mt ∧ mt ≤ 1024) (wn1 : 0 ≤ wn ∧ wn ≤ 256) (len : (rs.length : Int) ≤ mt) (tlen : ∀ t ∈ tk, (t.2.2.length : Int) ≤ wn) (fits : ∀ r ∈ rs, r.p.fits) : QIn S w g mo ms mt sh wn A c rs of tk :=
  ⟨q.blk, q.ofm, q.seen, q.pls, q.tok, q.apart, q.inS, q.ne, q.lt, q.once, hcnt, mt1, wn1, len, tlen, fits⟩
theorem QRaw.more (q : QRaw S w g mo ms mt sh wn A c rs of tk) (hS : ∀ k, S k → S' k) (hl : ∀ k, S' k → k < w.heap.size) : QRaw S' w g mo ms mt sh wn A c rs of tk :=
  { q with
    pls := ⟨q.pls.row.more' hS, fun r hr => ⟨(q.pls.ok r hr).args.more' hS, (q.pls.ok r hr).rd.more' hS, (q.pls.ok r hr).wr.more' hS⟩⟩
    tok := fun t ht => ⟨(q.tok t ht).1, fun b hb => hS b ((q.tok t ht).2 b hb)⟩
    inS := ⟨hS _ q.inS.1, hS _ q.inS.2.1, hS _ q.inS.2.2⟩
    lt := hl }
theorem QRaw.below (q : QRaw S w g mo ms mt sh wn A c rs of tk) (hb : Below w.heap.size w w') : QRaw S w' g mo ms mt sh wn A c rs of tk :=
  { q with
    blk := q.blk.below_all hb
    ofm := q.ofm.below hb
    seen := q.seen.below hb
    pls := q.pls.keep fun b _ hl => hb.block b hl
    tok := fun t ht => ⟨(q.tok t ht).1.keep fun b cs _ hk => hb.block b hk.lt, (q.tok t ht).2⟩
    lt := fun k hk => Nat.lt_of_lt_of_le (q.lt k hk) hb.size }
/-- blocks of these kinds alone may be written: the counts, the queue, plans -/
theorem QRaw.rest {M : Nat → Prop} (q : QRaw S w g mo ms mt sh wn A c rs of tk) (hu : Upd M w w') (hM : ∀ k, M k → k = mo ∨ k = g ∨ ∃ cs, Blk w k 40 cs) :
    MapIs intE w' ms (tk.map fun p => (p.1, p.2.1)) ∧ (∀ r ∈ rs, r.ownS S w') ∧ (∀ t ∈ tk, TokAt w' t.2.1 t.2.2 ∧ ∀ b, t.2.1.ownBlock = some b → S b) := by
  have hT : ∀ (e : TypeId) b cs, e ≠ 40 → e ≠ 67 → Blk w b e cs → w'.heap[b]? = w.heap[b]? := by
    intro e b cs h1 h2 hb
    refine hu.block b hb.lt fun hm => ?_
    rcases hM b hm with rfl | rfl | ⟨cs', hb'⟩
    · exact q.ofm.ne_blk hb rfl
    · exact q.blk.ne_ hb h2.symm rfl
    · exact hb.ne_ hb' h1 rfl
  refine ⟨q.seen.keep (hu.block ms q.seen.lt fun hm => ?_), fun r hr => ?_, fun t ht => ?_⟩
  · rcases hM ms hm with h | h | ⟨cs', hb'⟩
    · exact q.ne h.symm
    · exact q.seen.ne_blk q.blk h
    · exact q.seen.ne_blk hb' rfl
  · exact ⟨(q.pls.ok r hr).args.keepT fun b cs hb => hT _ b cs (by decide) (by decide) hb, (q.pls.ok r hr).rd.keepT fun b cs hb => hT _ b cs (by decide) (by decide) hb, (q.pls.ok r hr).wr.keepT fun b cs hb => hT _ b cs (by decide) (by decide) hb⟩
  · exact ⟨(q.tok t ht).1.keep fun b cs _ hb => hT _ b cs (by decide) (by decide) hb, (q.tok t ht).2⟩
/-- the row of plans and the queue's own cells are new -/
theorem QRaw.push {M : Nat → Prop} {A' : Option Addr} {c' : Nat} {r : RP} (q : QRaw S w g mo ms mt sh wn A c rs of tk) (hu : Upd M w w') (hM : ∀ k, M k → k = g ∨ ∃ cs, Blk w k 40 cs)
    (hS : ∀ k, S k → S' k) (hl : ∀ k, S' k → k < w'.heap.size)
    (hb : Blk w' g 67 #[.int .i64 mt, .int .i64 sh, .int .i64 wn, .slice A' (rs.length + 1) c', .map (some mo), .map (some ms)])
    (hrow : OwnS S' w' 40 7 (.slice A' (rs.length + 1) c') (rs.length + 1) (pcells rs ++ r.cells)) (hr : r.ownS S' w') :
    QRaw S' w' g mo ms mt sh wn A' c' (rs ++ [r]) of tk := by
  obtain ⟨r1, r2, r3⟩ := q.rest hu fun k hk => (hM k hk).imp_left (fun h => h) |> fun h => by
    rcases h with h | h
    · exact .inr (.inl h)
    · exact .inr (.inr h)
  have hl1 : (rs ++ [r]).length = rs.length + 1 := by simp
  have hpc : pcells (rs ++ [r]) = pcells rs ++ r.cells := by rw [pcells_app]; simp [pcells]
  refine ⟨by rw [hl1]; exact hb, q.ofm.upd hu fun hm => ?_, r1, ⟨by rw [hl1, hpc]; exact hrow, fun x hx => ?_⟩, fun t ht => ⟨(r3 t ht).1, fun b hb => hS b ((r3 t ht).2 b hb)⟩, q.apart, ⟨hS _ q.inS.1, hS _ q.inS.2.1, hS _ q.inS.2.2⟩, q.ne, hl, q.once⟩
  · rcases hM mo hm with h | ⟨cs', hb'⟩
    · exact q.ofm.ne_blk q.blk h
    · exact q.ofm.ne_blk hb' rfl
  · rcases List.mem_append.1 hx with hx | hx
    · exact ⟨(r2 x hx).args.more' hS, (r2 x hx).rd.more' hS, (r2 x hx).wr.more' hS⟩
    · obtain rfl := List.mem_singleton.1 hx
      exact hr
/-- the map of counts is new -/
theorem QRaw.count {of' : List (Int × Int)} (q : QRaw S w g mo ms mt sh wn A c rs of tk) (hu : Upd (fun k => k = mo) w w') (hm : MapIs intE w' mo (of'.map fun p => (p.1, .int .i64 p.2))) (ho : Once of') :
    QRaw S w' g mo ms mt sh wn A c rs of' tk := by
  obtain ⟨r1, r2, r3⟩ := q.rest hu fun k hk => .inl hk
  have hT : ∀ (e : TypeId) b cs, Blk w b e cs → w'.heap[b]? = w.heap[b]? := fun e b cs hb => hu.block b hb.lt fun h => q.ofm.ne_blk hb h.symm
  exact ⟨(hT _ _ _ q.blk).trans q.blk, hm, r1, ⟨q.pls.row.keepT fun b cs hb => hT _ b cs hb, r2⟩, r3, q.apart, q.inS, q.ne, fun k hk => Nat.lt_of_lt_of_le (q.lt k hk) hu.size, ⟨ho, q.once.2⟩⟩
/-- a client's tokens are new -/
theorem QRaw.tokens {M : Nat → Prop} {x : Int} {v : Value} {xs : List Int} (q : QRaw S w g mo ms mt sh wn A c rs of tk) (hu : Upd M w w') (hM : ∀ k, M k → k = ms ∨ (tokVal tk x).ownBlock = some k ∧ k < w.heap.size)
    (hS : ∀ k, S k → S' k) (hl : ∀ k, S' k → k < w'.heap.size)
    (hm : MapIs intE w' ms ((setA x (v, xs) tk).map fun p => (p.1, p.2.1))) (ht : TokAt w' v xs) (hv : ∀ b, v.ownBlock = some b → (tokVal tk x).ownBlock = some b ∨ ¬ S b ∧ S' b) :
    QRaw S' w' g mo ms mt sh wn A c rs of (setA x (v, xs) tk) := by
  have hown : ∀ b, (tokVal tk x).ownBlock = some b → ∃ t ∈ tk, t.1 = x ∧ t.2.1.ownBlock = some b := fun b hb => by
    unfold tokVal at hb
    cases hg : getA x tk with
    | none => rw [hg] at hb; simp [Value.ownBlock] at hb
    | some u => rw [hg] at hb; exact ⟨_, getA_mem hg, rfl, hb⟩
  have hblkM : ∀ k, M k → k = ms ∨ ∃ cs, Blk w k 32 cs := fun k hk => by
    rcases hM k hk with h | ⟨h, _⟩
    · exact .inl h
    · obtain ⟨t, ht, _, hb⟩ := hown k h
      exact .inr ((q.tok t ht).1.blk hb)
  have hT : ∀ (e : TypeId) b cs, e ≠ 32 → Blk w b e cs → w'.heap[b]? = w.heap[b]? := fun e b cs he hb => hu.block b hb.lt fun h => by
    rcases hblkM b h with rfl | ⟨cs', hb'⟩
    · exact q.seen.ne_blk hb rfl
    · exact hb.ne_ hb' he rfl
  have hkeep : ∀ t ∈ tk, t.1 ≠ x → TokAt w' t.2.1 t.2.2 := fun t htk hne => (q.tok t htk).1.keep fun b cs hb hk => hu.block b hk.lt fun h => by
    rcases hM b h with rfl | ⟨h, _⟩
    · exact q.seen.ne_blk hk rfl
    · obtain ⟨s, hs, hsx, hsb⟩ := hown b h
      have hst : s ≠ t := fun e => hne (e ▸ hsx)
      have hpw := List.pairwise_iff_getElem.1 q.apart
      obtain ⟨i, hi, rfl⟩ := List.getElem_of_mem hs
      obtain ⟨j, hj, rfl⟩ := List.getElem_of_mem htk
      rcases Nat.lt_trichotomy i j with hij | hij | hij
      · exact hpw i j hi hj hij b hsb hb
      · subst hij; exact hst rfl
      · exact hpw j i hj hi hij b hb hsb
  refine ⟨(hT _ _ _ (by decide) q.blk).trans q.blk, q.ofm.keep (hu.block mo q.ofm.lt fun h => ?_), hm, ⟨(q.pls.row.keepT fun b cs hb => hT _ b cs (by decide) hb).more' hS, fun r hr => ⟨((q.pls.ok r hr).args.keepT fun b cs hb => hT _ b cs (by decide) hb).more' hS, ((q.pls.ok r hr).rd.keepT fun b cs hb => hT _ b cs (by decide) hb).more' hS, ((q.pls.ok r hr).wr.keepT fun b cs hb => hT _ b cs (by decide) hb).more' hS⟩⟩, ?_, ?_, ⟨hS _ q.inS.1, hS _ q.inS.2.1, hS _ q.inS.2.2⟩, q.ne, hl, ⟨q.once.1, q.once.2.set⟩⟩
  · rcases hblkM mo h with h | ⟨cs', hb'⟩
    · exact q.ne h
    · exact q.ofm.ne_blk hb' rfl
  · intro t htk
    rcases setA_mem' q.once.2 htk with rfl | ⟨h, hne⟩
    · refine ⟨ht, fun b hb => ?_⟩
      rcases hv b hb with h | ⟨_, h⟩
      · obtain ⟨s, hs, _, hsb⟩ := hown b h
        exact hS b ((q.tok s hs).2 b hsb)
      · exact h
    · exact ⟨hkeep t h hne, fun b hb => hS b ((q.tok t h).2 b hb)⟩
  · have hx : ∀ t ∈ tk, t.1 ≠ x → ∀ b, v.ownBlock = some b → t.2.1.ownBlock = some b → False := fun t htk hne b hb1 hb2 => by
      rcases hv b hb1 with h | ⟨h, _⟩
      · obtain ⟨s, hs, hsx, hsb⟩ := hown b h
        have hst : s ≠ t := fun e => hne (e ▸ hsx)
        have hpw := List.pairwise_iff_getElem.1 q.apart
        obtain ⟨i, hi, rfl⟩ := List.getElem_of_mem hs
        obtain ⟨j, hj, rfl⟩ := List.getElem_of_mem htk
        rcases Nat.lt_trichotomy i j with hij | hij | hij
        · exact hpw i j hi hj hij b hsb hb2
        · subst hij; exact hst rfl
        · exact hpw j i hj hi hij b hb2 hsb
      · exact h ((q.tok t htk).2 b hb2)
    exact setA_pairwise q.once.2 q.apart fun t htk hne => ⟨fun b h1 h2 => hx t htk hne b h1 h2, fun b h1 h2 => hx t htk hne b h2 h1⟩
theorem QRaw.tokAt (h : QRaw S w g mo ms mt sh wn A c rs of tk) (x : Int) : TokAt w (tokVal tk x) (tokL tk x) ∧ ∀ b, (tokVal tk x).ownBlock = some b → S b := by
  unfold tokVal tokL
  cases hg : getA x tk with
  | none => exact ⟨TokAt.nil w, fun b hb => by simp [Value.ownBlock] at hb⟩
  | some v => exact ⟨(h.tok _ (getA_mem hg)).1, (h.tok _ (getA_mem hg)).2⟩
theorem QRaw.seenLook (h : QRaw S w g mo ms mt sh wn A c rs of tk) (x : Int) : (Instr.lookup 64 (.map (some ms)) (.int .i64 x) false).run Try.prog w = .ok (tokVal tk x) w := by
  have h1 := h.seen.lookup Try.underlying64 zero_toks x
  rw [getK_map (f := fun v : Value × List Int => v.1)] at h1
  unfold tokVal
  cases hg : getA x tk with
  | none => rw [hg] at h1; exact h1
  | some v => rw [hg] at h1; exact h1
theorem step_append_of {P : Program} {ops : Array Oper} {o : Oper} {a : Act} {w : World} {K : Act → World → Prop} {Q : Exit → Act → World → Prop} {E : Prop} (hgd : o.guard = none) (s x : Operand) (t : TypeId)
    (ho : o.op = .call { callee := .builtin .append, args := #[s, x], argTypes := #[t, t] })
    (v1 v2 : Value) (hs : a.eval s = v1) (hx : a.eval x = v2) (v' : Value) (w' : World) {ty0 : TypeId} (hrun0 : (Builtin.append_ #[t, t] ty0 #[v1, v2]).run P w = .ok v' w')
    (h : K (a.put o.dst v') w') : if Region.wanted o (yielded ops a.tmps) = true then Oper.wp P o a w K Q else E := by
  have hw : Region.wanted o (yielded ops a.tmps) = true := by simp [Region.wanted, hgd]
  have hrun : (Builtin.append_ #[t, t] o.type #[v1, v2]).run P w = .ok v' w' := hrun0
  rw [if_pos hw]
  unfold Oper.wp execOp
  simp only [ho, resolve, invoke, builtin, Sem.run_bind, Sem.run_pure, Result.andThen_ok, List.map_toArray, List.map_cons, List.map_nil, hs, hx, hrun]
  exact h
end

end Go.Proofs.Ytppcjaljhahdnaa
