/- A group in memory: a slot is new, a node goes up or down. -/
import Derived.Test.YtbgopicpdpkccaaGFoc
namespace Go.Proofs.Ytbgopicpdpkccaa
open Go.RowKit
set_option linter.unusedVariables false
set_option linter.unusedSimpArgs false

theorem getA_none {α : Type} {k : Int} : ∀ {l : List (Int × α)}, getA k l = none → ∀ p ∈ l, p.1 ≠ k := by
  intro l
  induction l with
  | nil => intro _ p hp; cases hp
  | cons q l ih =>
    intro h p hp
    unfold getA at h
    by_cases e : k = q.1
    · rw [if_pos e] at h; cases h
    · rw [if_neg e] at h
      rcases List.mem_cons.1 hp with rfl | hp
      · exact fun h => e h.symm
      · exact ih h p hp
theorem setA_fresh {α : Type} {k : Int} {v : α} : ∀ {l : List (Int × α)}, (∀ p ∈ l, p.1 ≠ k) → setA k v l = l ++ [(k, v)] := by
  intro l
  induction l with
  | nil => intro _; rfl
  | cons q l ih =>
    intro h
    unfold setA
    rw [if_neg fun e => h q List.mem_cons_self e.symm, ih fun p hp => h p (List.mem_cons_of_mem _ hp)]; rfl
theorem setK_fresh {k : Int} {v : Value} : ∀ {l : List (Int × Value)}, (∀ p ∈ l, p.1 ≠ k) → setK k v l = l ++ [(k, v)] := by
  intro l
  induction l with
  | nil => intro _; rfl
  | cons q l ih =>
    intro h
    unfold setK
    rw [if_neg fun e => h q List.mem_cons_self e.symm, ih fun p hp => h p (List.mem_cons_of_mem _ hp)]; rfl
section
variable {S S' : Nat → Prop} {w w' : World} {g : Nat} {An Am : Option Addr} {cn cm : Nat} {G : Gr} {a : Ad}
theorem GIn.fresh {M : Nat → Prop} {i : Nat} {s : Int} {b' : Nat} (h : GIn S w g An cn Am cm G a) (hi : i < G.nds.length) (hn : getA s (G.nd i).sl = none)
    (hu : Upd M w w') (hM : ∀ k, M k → k = a.mb i) (hS : ∀ k, S k → S' k) (hl : ∀ k, S' k → k < w'.heap.size)
    (hb : Blk w' b' 74 (sl0.cells 0)) (hSb : S' b') (hbw : w.heap.size ≤ b')
    (hm : MapIs intE w' (a.mb i) (setK s (.pointer (some ⟨b', 0, none⟩)) ((G.nd i).sl.map fun p => (p.1, .pointer (some ⟨a.sb i p.1, 0, none⟩))))) :
    GIn S' w' g An cn Am cm (G.setSl i s sl0) (a.setS i s b') := by
  obtain ⟨n1, n2, n3, n4, ho⟩ := h.nd i hi
  have hkeys := getA_none hn
  have kB : ∀ (e : TypeId) b cs, Blk w b e cs → w'.heap[b]? = w.heap[b]? := fun e b cs hb => hu.block b hb.lt fun hk => n4.ne_blk hb (hM b hk).symm
  have kM : ∀ (l : List (Int × Value)) b, MapIs intE w b l → b ≠ a.mb i → w'.heap[b]? = w.heap[b]? := fun l b hb hne => hu.block b hb.lt fun hk => hne (hM b hk)
  have hlen : (G.setSl i s sl0).nds.length = G.nds.length := Gr.len_set _ _ _
  have hmem := fun {j p} => Gr.sl_set (G := G) (j := j) (p := p) i s sl0 hi ho
  refine ⟨?_, ?_, ?_, fun j hj => ?_, fun j hj p hp => ?_, ?_, ?_, fun j k hj hk p hp q hq e => ?_, fun j k hj hk p hp q hq hp1 hq1 e => ?_, fun j k hj hk p hp q hq hp1 hq1 e => ?_, fun j k hj hk q hq hq1 e => ?_, hS _ h.inS, hl⟩
  · rw [hlen]; exact (kB _ _ _ h.blk).trans h.blk
  · rw [hlen]; exact (h.nrow.keepT fun b cs hb => kB _ b cs hb).more' hS
  · exact (h.mrow.keepT fun b cs hb => kB _ b cs hb).more' hS
  · rw [hlen] at hj
    obtain ⟨h1, h2, h3, h4, h5⟩ := h.nd j hj
    unfold Gr.setSl
    rw [Gr.nd_set _ _ _ _ hi]
    by_cases e : j = i
    · subst e
      rw [if_pos rfl]
      refine ⟨(kB _ _ _ h1).trans h1, hS _ h2, hS _ h3, ?_, h5.set⟩
      show MapIs intE w' (a.mb j) ((setA s sl0 (G.nd j).sl).map fun p => (p.1, Value.pointer (some ⟨if j = j ∧ p.1 = s then b' else a.sb j p.1, 0, none⟩)))
      rw [setK_fresh (fun p hp => by
        obtain ⟨q, hq, rfl⟩ := List.mem_map.1 hp
        exact hkeys q hq)] at hm
      rw [setA_fresh hkeys, List.map_append]
      have e1 : (G.nd j).sl.map (fun p => (p.1, Value.pointer (some ⟨if j = j ∧ p.1 = s then b' else a.sb j p.1, 0, none⟩))) = (G.nd j).sl.map (fun p => (p.1, Value.pointer (some ⟨a.sb j p.1, 0, none⟩))) :=
        List.map_congr_left fun p hp => by rw [if_neg fun h => hkeys p hp h.2]
      rw [e1]
      simpa using hm
    · rw [if_neg e]
      refine ⟨(kB _ _ _ h1).trans h1, hS _ h2, hS _ h3, ?_, h5⟩
      have e1 : (G.nd j).sl.map (fun p => (p.1, Value.pointer (some ⟨(a.setS i s b').sb j p.1, 0, none⟩))) = (G.nd j).sl.map (fun p => (p.1, Value.pointer (some ⟨a.sb j p.1, 0, none⟩))) :=
        List.map_congr_left fun p hp => by show (p.1, Value.pointer (some ⟨if j = i ∧ p.1 = s then b' else a.sb j p.1, 0, none⟩)) = _; rw [if_neg fun h => e h.1]
      rw [e1]
      exact h4.keep (kM _ _ h4 fun e2 => e (h.mbI j i hj hi e2))
  · rw [hlen] at hj
    rcases hmem hp with ⟨rfl, rfl⟩ | ⟨hp2, hne⟩
    · show SlAt S' w' (if j = j ∧ s = s then b' else a.sb j s) (a.bb j s) (a.ab j s) sl0
      rw [if_pos ⟨rfl, rfl⟩]
      exact ⟨hb, hSb, fun d hd => by cases hd⟩
    · show SlAt S' w' (if j = i ∧ p.1 = s then b' else a.sb j p.1) (a.bb j p.1) (a.ab j p.1) p.2
      rw [if_neg hne]
      obtain ⟨q1, q2, q3⟩ := h.sl j hj p hp2
      refine (h.sl j hj p hp2).keep (fun k hk hl' => ?_) hS
      rcases hk with rfl | ⟨hs, hk⟩
      · exact kB _ _ _ q1
      · obtain ⟨d, hd⟩ := Option.isSome_iff_exists.1 hs
        obtain ⟨q4, _, _, q7, _⟩ := q3 d hd
        rcases hk with rfl | rfl
        · exact kB _ _ _ q4
        · exact kM _ _ q7 fun e => h.mab i j hi hj p hp2 hs e.symm
  · rw [hlen]; exact h.nbI
  · rw [hlen]; exact h.mbI
  · rw [hlen] at hj hk
    have e : (if j = i ∧ p.1 = s then b' else a.sb j p.1) = (if k = i ∧ q.1 = s then b' else a.sb k q.1) := e
    rcases hmem hp with ⟨rfl, rfl⟩ | ⟨hp2, hne⟩
    · rcases hmem hq with ⟨rfl, rfl⟩ | ⟨hq2, hne2⟩
      · exact ⟨rfl, rfl⟩
      · rw [if_pos ⟨rfl, rfl⟩, if_neg hne2] at e
        have := (h.sl k hk q hq2).1.lt
        omega
    · rcases hmem hq with ⟨rfl, rfl⟩ | ⟨hq2, hne2⟩
      · rw [if_neg hne, if_pos ⟨rfl, rfl⟩] at e
        have := (h.sl j hj p hp2).1.lt
        omega
      · rw [if_neg hne, if_neg hne2] at e
        exact h.sbI j k hj hk p hp2 q hq2 e
  · rw [hlen] at hj hk
    rcases hmem hp with ⟨rfl, rfl⟩ | ⟨hp2, hne⟩
    · cases hp1
    · rcases hmem hq with ⟨rfl, rfl⟩ | ⟨hq2, hne2⟩
      · cases hq1
      · exact h.bbI j k hj hk p hp2 q hq2 hp1 hq1 e
  · rw [hlen] at hj hk
    rcases hmem hp with ⟨rfl, rfl⟩ | ⟨hp2, hne⟩
    · cases hp1
    · rcases hmem hq with ⟨rfl, rfl⟩ | ⟨hq2, hne2⟩
      · cases hq1
      · exact h.abI j k hj hk p hp2 q hq2 hp1 hq1 e
  · rw [hlen] at hj hk
    rcases hmem hq with ⟨rfl, rfl⟩ | ⟨hq2, hne2⟩
    · cases hq1
    · exact h.mab j k hj hk q hq2 hq1 e
theorem GIn.up {i : Nat} {u : Bool} (h : GIn S w g An cn Am cm G a) (hi : i < G.nds.length) (hu : Upd (fun k => k = a.nb i) w w') (hb : Blk w' (a.nb i) 67 #[.bool u, .map (some (a.mb i))]) :
    GIn S w' g An cn Am cm (G.setNd i { G.nd i with up := u }) a := by
  obtain ⟨n1, n2, n3, n4, ho⟩ := h.nd i hi
  have kB : ∀ (e : TypeId) b cs, e ≠ 67 → Blk w b e cs → w'.heap[b]? = w.heap[b]? := fun e b cs he hb => hu.block b hb.lt fun hk => hb.ne_ n1 he hk
  have kM : ∀ {l : List (Int × Value)} {b}, MapIs intE w b l → w'.heap[b]? = w.heap[b]? := fun {l b} hb => hu.block b hb.lt fun hk => hb.ne_blk n1 hk
  have hlen : (G.setNd i { G.nd i with up := u }).nds.length = G.nds.length := Gr.len_set _ _ _
  have hsl : ∀ j, ((G.setNd i { G.nd i with up := u }).nd j).sl = (G.nd j).sl := fun j => by
    rw [Gr.nd_set _ _ _ _ hi]
    by_cases e : j = i
    · subst e; rw [if_pos rfl]
    · rw [if_neg e]
  refine ⟨?_, ?_, ?_, fun j hj => ?_, fun j hj p hp => ?_, ?_, ?_, fun j k hj hk => ?_, fun j k hj hk => ?_, fun j k hj hk => ?_, fun j k hj hk => ?_, h.inS, fun k hk => Nat.lt_of_lt_of_le (h.lt k hk) hu.size⟩
  · rw [hlen]; exact (kB _ _ _ (by decide) h.blk).trans h.blk
  · rw [hlen]; exact h.nrow.keepT fun b cs hb => kB _ b cs (by decide) hb
  · exact h.mrow.keepT fun b cs hb => kB _ b cs (by decide) hb
  · rw [hlen] at hj
    rw [hsl]
    obtain ⟨h1, h2, h3, h4, h5⟩ := h.nd j hj
    refine ⟨?_, h2, h3, h4.keep (kM h4), h5⟩
    rw [Gr.nd_set _ _ _ _ hi]
    by_cases e : j = i
    · subst e; rw [if_pos rfl]; exact hb
    · rw [if_neg e]; exact h1.upd hu fun e2 => e (h.nbI j i hj hi e2)
  · rw [hlen] at hj
    rw [hsl] at hp
    obtain ⟨q1, q2, q3⟩ := h.sl j hj p hp
    refine (h.sl j hj p hp).keep (fun k hk hl' => ?_) fun _ => id
    rcases hk with rfl | ⟨hs, hk⟩
    · exact kB _ _ _ (by decide) q1
    · obtain ⟨d, hd⟩ := Option.isSome_iff_exists.1 hs
      obtain ⟨q4, _, _, q7, _⟩ := q3 d hd
      rcases hk with rfl | rfl
      · exact kB _ _ _ (by decide) q4
      · exact kM q7
  · rw [hlen]; exact h.nbI
  · rw [hlen]; exact h.mbI
  · rw [hlen] at hj hk; rw [hsl, hsl]; exact h.sbI j k hj hk
  · rw [hlen] at hj hk; rw [hsl, hsl]; exact h.bbI j k hj hk
  · rw [hlen] at hj hk; rw [hsl, hsl]; exact h.abI j k hj hk
  · rw [hlen] at hj hk; rw [hsl]; exact h.mab j k hj hk
end

end Go.Proofs.Ytbgopicpdpkccaa
