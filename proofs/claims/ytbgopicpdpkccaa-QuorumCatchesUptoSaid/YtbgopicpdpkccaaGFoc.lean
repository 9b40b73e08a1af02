/- A group in memory: a slot, a node changes. -/
import Derived.Test.YtbgopicpdpkccaaGData
namespace Go.Proofs.Ytbgopicpdpkccaa
open Go.RowKit
set_option linter.unusedVariables false
set_option linter.unusedSimpArgs false

theorem setA_keys {α β : Type} (f : Int → β) {k : Int} {v v0 : α} : ∀ {l : List (Int × α)}, getA k l = some v0 → (setA k v l).map (fun p => f p.1) = l.map (fun p => f p.1) := by
  intro l
  induction l with
  | nil => intro h; cases h
  | cons p l ih =>
    intro h
    unfold getA at h
    unfold setA
    by_cases e : k = p.1
    · rw [if_pos e]; simp [e]
    · rw [if_neg e] at h; rw [if_neg e]; simp [ih h]
section
variable {S S' : Nat → Prop} {w w' : World} {g : Nat} {An Am : Option Addr} {cn cm : Nat} {G : Gr} {a : Ad}
theorem Gr.sl_set (i : Nat) (s : Int) (x : Sl) (hi : i < G.nds.length) (ho : Once (G.nd i).sl) {j : Nat} {p : Int × Sl} (hp : p ∈ ((G.setSl i s x).nd j).sl) : (j = i ∧ p = (s, x)) ∨ (p ∈ (G.nd j).sl ∧ ¬ (j = i ∧ p.1 = s)) := by
  unfold Gr.setSl at hp
  rw [Gr.nd_set _ _ _ _ hi] at hp
  by_cases e : j = i
  · subst e
    rw [if_pos rfl] at hp
    rcases setA_mem' ho hp with h | ⟨h1, h2⟩
    · exact .inl ⟨rfl, h⟩
    · exact .inr ⟨h1, fun h => h2 h.2⟩
  · rw [if_neg e] at hp
    exact .inr ⟨hp, fun h => e h.1⟩
theorem GIn.slot {M : Nat → Prop} {i : Nat} {s : Int} {x0 x' : Sl} {bb' ab' : Nat} (h : GIn S w g An cn Am cm G a) (hi : i < G.nds.length) (hx0 : getA s (G.nd i).sl = some x0)
    (hu : Upd M w w') (hM : ∀ k, M k → k = a.sb i s ∨ (x0.bid.isSome ∧ (k = a.bb i s ∨ k = a.ab i s))) (hS : ∀ k, S k → S' k) (hl : ∀ k, S' k → k < w'.heap.size)
    (hx : SlAt S' w' (a.sb i s) bb' ab' x') (hf : x'.bid.isSome → (x0.bid.isSome ∧ bb' = a.bb i s ∧ (ab' = a.ab i s ∨ w.heap.size ≤ ab')) ∨ (w.heap.size ≤ bb' ∧ w.heap.size ≤ ab')) :
    GIn S' w' g An cn Am cm (G.setSl i s x') (a.setB i s bb' ab') := by
  have hm0 := getA_mem hx0
  obtain ⟨y1, y2, y3⟩ := h.sl i hi (s, x0) hm0
  obtain ⟨n1, n2, n3, n4, ho⟩ := h.nd i hi
  have yb : x0.bid.isSome → ∃ cs l, Blk w (a.bb i s) 83 cs ∧ MapIs intE w (a.ab i s) l := fun hs => by
    obtain ⟨d, hd⟩ := Option.isSome_iff_exists.1 hs
    obtain ⟨h4, _, _, h7, _⟩ := y3 d hd
    exact ⟨_, _, h4, h7⟩
  have kB : ∀ (e : TypeId) b cs, e ≠ 74 → e ≠ 83 → Blk w b e cs → w'.heap[b]? = w.heap[b]? := fun e b cs h1 h2 hb => hu.block b hb.lt fun hm => by
    rcases hM b hm with rfl | ⟨hs, hk⟩
    · exact hb.ne_ y1 h1 rfl
    · obtain ⟨_, _, hb1, hb2⟩ := yb hs
      rcases hk with rfl | rfl
      · exact hb.ne_ hb1 h2 rfl
      · exact hb2.ne_blk hb rfl
  have kM : ∀ (l : List (Int × Value)) b, MapIs intE w b l → (x0.bid.isSome → b ≠ a.ab i s) → w'.heap[b]? = w.heap[b]? := fun l b hb hne => hu.block b hb.lt fun hm => by
    rcases hM b hm with rfl | ⟨hs, hk⟩
    · exact hb.ne_blk y1 rfl
    · obtain ⟨_, _, hb1, hb2⟩ := yb hs
      rcases hk with rfl | rfl
      · exact hb.ne_blk hb1 rfl
      · exact hne hs rfl
  have hlen : (G.setSl i s x').nds.length = G.nds.length := Gr.len_set _ _ _
  have hmem := fun {j p} => Gr.sl_set (G := G) (j := j) (p := p) i s x' hi ho
  have hbid : ∀ j, j < G.nds.length → ∀ q ∈ (G.nd j).sl, q.2.bid.isSome → a.bb j q.1 < w.heap.size ∧ a.ab j q.1 < w.heap.size := fun j hj q hq hs => by
    obtain ⟨d, hd⟩ := Option.isSome_iff_exists.1 hs
    obtain ⟨_, _, h3⟩ := h.sl j hj q hq
    obtain ⟨h4, _, _, h7, _⟩ := h3 d hd
    exact ⟨h4.lt, h7.lt⟩
  refine ⟨?_, ?_, ?_, fun j hj => ?_, fun j hj p hp => ?_, ?_, ?_, fun j k hj hk p hp q hq e => ?_, fun j k hj hk p hp q hq hp1 hq1 e => ?_, fun j k hj hk p hp q hq hp1 hq1 e => ?_, fun j k hj hk q hq hq1 e => ?_, hS _ h.inS, hl⟩
  · rw [hlen]; exact (kB _ _ _ (by decide) (by decide) h.blk).trans h.blk
  · rw [hlen]; exact (h.nrow.keepT fun b cs hb => kB _ b cs (by decide) (by decide) hb).more' hS
  · exact (h.mrow.keepT fun b cs hb => kB _ b cs (by decide) (by decide) hb).more' hS
  · rw [hlen] at hj
    obtain ⟨h1, h2, h3, h4, h5⟩ := h.nd j hj
    have k1 := (kB _ _ _ (by decide) (by decide) h1).trans h1
    have k4 := h4.keep (kM _ _ h4 fun hs => h.mab j i hj hi (s, x0) hm0 hs)
    unfold Gr.setSl
    rw [Gr.nd_set _ _ _ _ hi]
    by_cases e : j = i
    · subst e
      rw [if_pos rfl]
      refine ⟨k1, hS _ h2, hS _ h3, ?_, h5.set⟩
      show MapIs intE w' (a.mb j) ((setA s x' (G.nd j).sl).map fun p => (p.1, Value.pointer (some ⟨a.sb j p.1, 0, none⟩)))
      rw [setA_keys (fun t => (t, Value.pointer (some ⟨a.sb j t, 0, none⟩))) hx0]
      exact k4
    · rw [if_neg e]
      exact ⟨k1, hS _ h2, hS _ h3, k4, h5⟩
  · rw [hlen] at hj
    rcases hmem hp with ⟨rfl, rfl⟩ | ⟨hp2, hne⟩
    · show SlAt S' w' (a.sb j s) (if j = j ∧ s = s then bb' else a.bb j s) (if j = j ∧ s = s then ab' else a.ab j s) x'
      rw [if_pos ⟨rfl, rfl⟩, if_pos ⟨rfl, rfl⟩]
      exact hx
    · show SlAt S' w' (a.sb j p.1) (if j = i ∧ p.1 = s then bb' else a.bb j p.1) (if j = i ∧ p.1 = s then ab' else a.ab j p.1) p.2
      rw [if_neg hne, if_neg hne]
      have hq := h.sl j hj p hp2
      obtain ⟨q1, q2, q3⟩ := hq
      refine (h.sl j hj p hp2).keep (fun k hk hl' => hu.block k hl' fun hm => ?_) hS
      rcases hk with rfl | ⟨hs, hk⟩
      · rcases hM _ hm with e | ⟨hs, e | e⟩
        · exact hne (h.sbI j i hj hi p hp2 (s, x0) hm0 e)
        · obtain ⟨_, _, hb1, hb2⟩ := yb hs
          exact q1.ne_ hb1 (by decide) e
        · obtain ⟨_, _, hb1, hb2⟩ := yb hs
          exact hb2.ne_blk q1 e.symm
      · obtain ⟨d, hd⟩ := Option.isSome_iff_exists.1 hs
        obtain ⟨q4, _, _, q7, _⟩ := q3 d hd
        rcases hk with rfl | rfl
        · rcases hM _ hm with e | ⟨hs2, e | e⟩
          · exact q4.ne_ y1 (by decide) e
          · exact hne (h.bbI j i hj hi p hp2 (s, x0) hm0 hs hs2 e)
          · obtain ⟨_, _, hb1, hb2⟩ := yb hs2
            exact hb2.ne_blk q4 e.symm
        · rcases hM _ hm with e | ⟨hs2, e | e⟩
          · exact q7.ne_blk y1 e
          · obtain ⟨_, _, hb1, hb2⟩ := yb hs2
            exact q7.ne_blk hb1 e
          · exact hne (h.abI j i hj hi p hp2 (s, x0) hm0 hs hs2 e)
  · rw [hlen]; exact h.nbI
  · rw [hlen]; exact h.mbI
  · rw [hlen] at hj hk
    have e : a.sb j p.1 = a.sb k q.1 := e
    rcases hmem hp with ⟨rfl, rfl⟩ | ⟨hp2, hne⟩
    · rcases hmem hq with ⟨rfl, rfl⟩ | ⟨hq2, hne2⟩
      · exact ⟨rfl, rfl⟩
      · exact h.sbI j k hj hk (s, x0) hm0 q hq2 e
    · rcases hmem hq with ⟨rfl, rfl⟩ | ⟨hq2, hne2⟩
      · exact h.sbI j k hj hk p hp2 (s, x0) hm0 e
      · exact h.sbI j k hj hk p hp2 q hq2 e
  · rw [hlen] at hj hk
    have e : (if j = i ∧ p.1 = s then bb' else a.bb j p.1) = (if k = i ∧ q.1 = s then bb' else a.bb k q.1) := e
    rcases hmem hp with ⟨rfl, rfl⟩ | ⟨hp2, hne⟩
    · rcases hmem hq with ⟨rfl, rfl⟩ | ⟨hq2, hne2⟩
      · exact ⟨rfl, rfl⟩
      · rw [if_pos ⟨rfl, rfl⟩, if_neg hne2] at e
        have hb := hbid k hk q hq2 hq1
        rcases hf hp1 with ⟨hs, h1, _⟩ | ⟨h1, _⟩
        · exact h.bbI j k hj hk (s, x0) hm0 q hq2 hs hq1 (h1 ▸ e)
        · omega
    · rcases hmem hq with ⟨rfl, rfl⟩ | ⟨hq2, hne2⟩
      · rw [if_neg hne, if_pos ⟨rfl, rfl⟩] at e
        have hb := hbid j hj p hp2 hp1
        rcases hf hq1 with ⟨hs, h1, _⟩ | ⟨h1, _⟩
        · exact h.bbI j k hj hk p hp2 (s, x0) hm0 hp1 hs (h1 ▸ e)
        · omega
      · rw [if_neg hne, if_neg hne2] at e
        exact h.bbI j k hj hk p hp2 q hq2 hp1 hq1 e
  · rw [hlen] at hj hk
    have e : (if j = i ∧ p.1 = s then ab' else a.ab j p.1) = (if k = i ∧ q.1 = s then ab' else a.ab k q.1) := e
    rcases hmem hp with ⟨rfl, rfl⟩ | ⟨hp2, hne⟩
    · rcases hmem hq with ⟨rfl, rfl⟩ | ⟨hq2, hne2⟩
      · exact ⟨rfl, rfl⟩
      · rw [if_pos ⟨rfl, rfl⟩, if_neg hne2] at e
        have hb := hbid k hk q hq2 hq1
        rcases hf hp1 with ⟨hs, _, h1 | h1⟩ | ⟨_, h1⟩
        · exact h.abI j k hj hk (s, x0) hm0 q hq2 hs hq1 (h1 ▸ e)
        · omega
        · omega
    · rcases hmem hq with ⟨rfl, rfl⟩ | ⟨hq2, hne2⟩
      · rw [if_neg hne, if_pos ⟨rfl, rfl⟩] at e
        have hb := hbid j hj p hp2 hp1
        rcases hf hq1 with ⟨hs, _, h1 | h1⟩ | ⟨_, h1⟩
        · exact h.abI j k hj hk p hp2 (s, x0) hm0 hp1 hs (h1 ▸ e)
        · omega
        · omega
      · rw [if_neg hne, if_neg hne2] at e
        exact h.abI j k hj hk p hp2 q hq2 hp1 hq1 e
  · rw [hlen] at hj hk
    have e : a.mb j = (if k = i ∧ q.1 = s then ab' else a.ab k q.1) := e
    rcases hmem hq with ⟨rfl, rfl⟩ | ⟨hq2, hne2⟩
    · rw [if_pos ⟨rfl, rfl⟩] at e
      have := (h.nd j hj).2.2.2.1.lt
      rcases hf hq1 with ⟨hs, _, h1 | h1⟩ | ⟨_, h1⟩
      · exact h.mab j k hj hk (s, x0) hm0 hs (e.trans h1)
      · omega
      · omega
    · rw [if_neg hne2] at e
      exact h.mab j k hj hk q hq2 hq1 e
end

end Go.Proofs.Ytbgopicpdpkccaa
