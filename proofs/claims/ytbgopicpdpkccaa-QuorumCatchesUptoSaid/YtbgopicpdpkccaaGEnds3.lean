/- quorum: proposing again and again: the plain law. -/
import Derived.Test.YtbgopicpdpkccaaGEnds2
namespace Go.Proofs.Ytbgopicpdpkccaa
open Go.RowKit
set_option linter.unusedVariables false
set_option linter.unusedSimpArgs false

section
variable {b : Bal} {i N F : Nat} {s : Int} {K : Int} {G G' G0 : Gr} {M : Int} {c : Prop} {q : Nat}
theorem bidX (hi : i < G.nds.length) (t : ByteArray) : EffX i s { G.at_ i s with rd := (G.at_ i s).rd + 1, bid := some ⟨⟨(G.at_ i s).rd + 1, i⟩, t, false, []⟩ } ((List.range G.nds.length).map fun (j : Nat) => ⟨1, i, (j : Int), s, ⟨(G.at_ i s).rd + 1, i⟩, bal0, ⟨#[]⟩⟩) G (G.bid i s t) :=
  ((EffX.touch hi).set hi _).sendAll ⟨1, i, 0, s, ⟨(G.at_ i s).rd + 1, i⟩, bal0, ⟨#[]⟩⟩
structure Round (G0 : Gr) (b : Bal) (i : Nat) (s : Int) (N : Nat) (M : Int) (c : Prop) (q : Nat) (G : Gr) : Prop where
  ph : ∃ F, Run b i s N F G ∧ F ≤ 1000 ∧ (G.mail = [] ∨ F + q ≤ 5 * N)
  pb : ∀ j, j < N → (G.at_ j s).prom.rd ≤ M
  bm : b.rd ≤ M
  rd : b.rd ≤ (G.at_ i s).rd
  up : ∀ j, (G.nd j).up = (G0.nd j).up
  pg : c → Prog b i s N G
theorem maxI_ge (a b : Int) : a ≤ maxI a b := maxI_le a b
theorem Round.step (h : Round G0 b i s N M c q G) (hN : N ≤ 9) (hd : G.DeliverR 0 G') : Round G0 b i s N M c (q + 1) G' := by
  obtain ⟨F, hr, hF, hq⟩ := h.ph
  cases hm : G.mail with
  | nil =>
    rcases hd with ⟨_, rfl⟩ | ⟨m, _, h2, _⟩
    · exact { h with ph := ⟨F, hr, hF, .inl hm⟩ }
    · rw [hm] at h2; simp at h2
  | cons m rest =>
    have hq : F + q ≤ 5 * N := by
      rcases hq with e | e
      · rw [hm] at e; cases e
      · exact e
    have hlen := hr.len
    obtain ⟨m1, m2, m3, m4, m5, m6, m7⟩ := hr.msg m (by rw [hm]; exact List.mem_cons_self)
    obtain ⟨x', L, hx⟩ := deliver_first_x hm (by omega) hd
    obtain ⟨hr', hmail, hF1⟩ := hr.step hF hN hm hx
    have hat : ∀ j, G'.at_ j s = if j = m.dst.toNat then x' else G.at_ j s := fun j => by
      rw [hx.at_]
      by_cases e : j = m.dst.toNat
      · rw [if_pos ⟨e, m1.symm⟩, if_pos e]
      · rw [if_neg fun h => e h.1, if_neg e]
    have hJ : m.dst.toNat < N := by omega
    have hx2 : x'.prom.rd ≤ M ∧ (G.at_ m.dst.toNat s).rd ≤ x'.rd := by
      have hp := h.pb _ hJ
      rcases hx.what with ⟨_, h1⟩ | ⟨_, rfl, _⟩
      · rw [m1] at h1
        generalize G.at_ m.dst.toNat s = x at *
        cases h1 with
        | prep _ _ => exact ⟨by rw [m2]; exact h.bm, maxI_ge _ _⟩
        | acc _ _ => exact ⟨by rw [m2]; exact h.bm, maxI_ge _ _⟩
        | late _ _ => exact ⟨hp, maxI_ge _ _⟩
        | no2 _ _ => exact ⟨hp, Int.le_refl _⟩
        | ans1 _ _ _ _ => exact ⟨hp, Int.le_refl _⟩
        | won _ _ _ _ _ _ => exact ⟨hp, Int.le_refl _⟩
        | no4 _ _ => exact ⟨hp, Int.le_refl _⟩
        | ans2 _ _ _ _ => exact ⟨hp, Int.le_refl _⟩
        | done _ _ _ _ => exact ⟨hp, Int.le_refl _⟩
        | known _ _ => exact ⟨hp, Int.le_refl _⟩
        | learn _ _ => exact ⟨hp, Int.le_refl _⟩
        | told _ => exact ⟨hp, Int.le_refl _⟩
      · rw [m1]; exact ⟨hp, Int.le_refl _⟩
    refine ⟨⟨F - 1, hr', by omega, .inr (by omega)⟩, fun j hj => ?_, h.bm, ?_, fun j => (hx.up j).trans (h.up j), fun hc => (h.pg hc).step hr hm hx hmail⟩
    · rw [hat]
      split
      · exact hx2.1
      · exact h.pb j hj
    · rw [hat]
      have := h.rd
      split
      · rename_i e; rw [e] at this; omega
      · exact this
theorem Round.empty (h : Round G0 b i s N M c q G) (hq : 5 * N ≤ q) : G.mail = [] := by
  obtain ⟨F, hr, hF, e | e⟩ := h.ph
  · exact e
  · have h1 := hr.pot
    have h2 := len_wts G.mail
    exact List.length_eq_zero_iff.1 (by omega)
/-- ahead of a bid -/
structure Ready (G0 : Gr) (i : Nat) (s : Int) (N : Nat) (most : Int) (k : Nat) (G : Gr) : Prop where
  mail : G.mail = []
  len : G.nds.length = N
  hi : i < N
  iu : (G.nd i).up = true
  up : ∀ j, (G.nd j).up = (G0.nd j).up
  rd : (k : Int) ≤ (G.at_ i s).rd
  pb : ∀ j, j < N → (G.at_ j s).prom.rd ≤ most ∨ (G.at_ j s).prom.rd ≤ (G.at_ i s).rd
  lr : most + 2 ≤ k → ∀ j, j < N → (G.nd j).up = true → (G.at_ j s).is = true
theorem Ready.code {most : Int} {k : Nat} {t : ByteArray} (h : Ready G0 i s N most k G) (hs : 0 ≤ s ∧ s < 256) (ht : t.size ≤ 4096) (hN : N ≤ 9) : G.code i s t = 0 := by
  unfold Gr.code
  have hl := h.len
  have hi := h.hi
  rw [if_neg (by rw [Int.toNat_natCast, Decidable.not_not]; exact ⟨by omega, by omega, h.iu⟩), if_neg (by omega), if_neg (by omega), if_neg (by rw [h.mail]; simp; omega)]
theorem Ready.start {most : Int} {k : Nat} {t : ByteArray} (h : Ready G0 i s N most k G) (hN : N ≤ 9) : Round G0 ⟨(G.at_ i s).rd + 1, i⟩ i s N (if most ≤ (G.at_ i s).rd + 1 then (G.at_ i s).rd + 1 else most) (most ≤ (G.at_ i s).rd) 0 (G.bid i s t) := by
  have hl := h.len
  have hi : i < G.nds.length := by have := h.hi; omega
  have he := bidX (s := s) hi t
  have hmail := he.mail (by rw [h.mail, List.length_map, List.length_range]; simp; omega)
  rw [h.mail, List.nil_append] at hmail
  have hati := he.at_ i s
  rw [if_pos ⟨rfl, rfl⟩] at hati
  have hprom : ∀ j, ((G.bid i s t).at_ j s).prom = (G.at_ j s).prom := fun j => by
    rw [he.at_]
    by_cases e : j = i ∧ s = s
    · rw [if_pos e, e.1]
    · rw [if_neg e]
  have hpb := h.pb
  have hup : ∀ j, ((G.bid i s t).nd j).up = (G0.nd j).up := fun j => (he.up j).trans (h.up j)
  refine ⟨⟨5 * N, ⟨he.len.trans hl, h.hi, rfl, fun m hm => ?_, ?_⟩, by omega, .inr (by omega)⟩, fun j hj => ?_, ?_, ?_, hup, fun hc => ⟨(he.up i).trans h.iu, fun j hj => ?_, .inl ⟨false, ?_⟩⟩⟩
  · rw [hmail] at hm
    obtain ⟨j, hj, rfl⟩ := List.mem_map.1 hm
    have := List.mem_range.1 hj
    exact ⟨rfl, rfl, by simp, by simp, by simp only; omega, by simp only; omega, fun h => by simp at h⟩
  · rw [hmail, hati, wts_range _ _ 2 (fun j => rfl), hl]
    unfold bidPot
    simp
    omega
  · rw [hprom]
    rcases hpb j hj with e | e
    · split <;> omega
    · split <;> omega
  · simp only; split <;> omega
  · rw [hati]; exact Int.le_refl _
  · rw [hprom]
    refine .inl ?_
    simp only
    rcases hpb j hj with e | e <;> omega
  · refine ⟨_, by rw [hati], rfl, rfl, by simp, fun j hj _ => .inl ⟨_, by rw [hmail]; exact List.mem_map.2 ⟨j, List.mem_range.2 (by omega), rfl⟩, rfl, rfl⟩⟩
theorem Ready.next {most : Int} {k : Nat} {t : ByteArray} (h : Ready G0 i s N most k G) (hN : N ≤ 9) (hu : N / 2 + 1 ≤ ((List.range N).filter fun j => (G0.nd j).up).length)
    (hr : Round G0 ⟨(G.at_ i s).rd + 1, i⟩ i s N (if most ≤ (G.at_ i s).rd + 1 then (G.at_ i s).rd + 1 else most) (most ≤ (G.at_ i s).rd) q G') (hq : 5 * N ≤ q) : Ready G0 i s N most (k + 1) G' := by
  have hm := hr.empty hq
  obtain ⟨F, hrun, _⟩ := hr.ph
  have hrd := hr.rd
  have hk := h.rd
  simp only at hrd
  have hui : (G0.nd i).up = true := (h.up i).symm.trans h.iu
  refine ⟨hm, hrun.len, h.hi, (hr.up i).trans hui, hr.up, by push_cast; omega, fun j hj => ?_, fun hmk => ?_⟩
  · have := hr.pb j hj
    split at this
    · exact .inr (by omega)
    · exact .inl this
  · have hp := hr.pg (by push_cast at hmk; omega)
    exact hp.end hm (by
      have e : (List.range N).filter (fun j => (G'.nd j).up) = (List.range N).filter fun j => (G0.nd j).up := by
        congr 1; funext j; exact hr.up j
      rw [e]; exact hu)
/-- what was promised, within bounds -/
def PFit (N : Nat) (K : Int) (G : Gr) : Prop := ∀ j, j < N → ∀ t, 0 ≤ (G.at_ j t).prom.rd ∧ (G.at_ j t).prom.rd ≤ K
theorem PFit.new (k : Nat) (hK : 0 ≤ K) : PFit k K (grN k) := fun j _ t => by rw [grN_at]; exact ⟨Int.le_refl _, hK⟩
theorem PFit.act (h : PFit N K G) (hf : Fit N K G) (hK : 0 ≤ K) {a : GA} (ha : G.Act a G') : PFit N (K + 1) G' := by
  intro j hj t
  have hx := h j hj t
  have same : G'.at_ j t = G.at_ j t ∨ G'.at_ j t = (G.at_ j t).calm → 0 ≤ (G'.at_ j t).prom.rd ∧ (G'.at_ j t).prom.rd ≤ K + 1 := fun e => by
    rcases e with e | e
    · rw [e]; omega
    · rw [e]; exact ⟨hx.1, by show (G.at_ j t).prom.rd ≤ K + 1; omega⟩
  unfold Gr.Act at ha
  split at ha
  · subst ha
    unfold Gr.propose
    split
    · rename_i hc
      obtain ⟨h1, h2, _⟩ := code_ok hc
      rw [(bid_eff (by omega) a.text).at_]
      split
      · rename_i e
        simp only
        rw [← e.1, ← e.2]; omega
      · omega
    · omega
  split at ha
  · rcases ha with ⟨_, rfl⟩ | ⟨m, h1, h2, h3⟩
    · omega
    · have hm := List.mem_of_getElem? h2
      have hl := hf.len
      have hfm := hf.mail m hm
      have hdst := hfm.dst
      have hb := hfm.rd
      obtain ⟨x', new, hr, he⟩ := Deliver_eff (by omega) h3
      rw [he.at_]
      split
      · rename_i e
        have hx : 0 ≤ (G.at_ m.dst.toNat m.slot).prom.rd ∧ (G.at_ m.dst.toNat m.slot).prom.rd ≤ K := by rw [← e.1, ← e.2]; exact hx
        generalize G.at_ m.dst.toNat m.slot = x at *
        cases hr with
        | prep _ _ => simp only; omega
        | acc _ _ => simp only; omega
        | stay => omega
        | late _ => simp only; omega
        | ans1 _ _ _ _ => simp only; omega
        | won _ _ _ _ _ _ => simp only; omega
        | ans2 _ _ _ _ => simp only; omega
        | done _ _ _ _ => simp only; omega
        | learn _ _ => simp only; omega
        | told => omega
      · omega
  split at ha
  · subst ha; exact same (.inl (Gr.at_nds (drop_nds _) j t))
  split at ha
  · subst ha; exact same (.inl (Gr.at_nds (double_nds _) j t))
  split at ha
  · subst ha; exact same (crash_at _ j t)
  split at ha
  · subst ha; exact same (.inl (restart_at _ j t))
  split at ha
  · subst ha; exact same (.inl (Gr.at_nds (catch_nds _) j t))
  · subst ha; exact same (.inl rfl)
/-- one text a slot -/
def One (s : Int) (G : Gr) : Prop := ∃ pr g, Safe s pr G g fun _ => False
theorem One.new (k : Nat) (s : Int) : One s (grN k) := ⟨_, _, Safe.new k s⟩
theorem One.act (h : One s G) (hf : Fit N K G) {a : GA} (ha : G.Act a G') : One s G' := by
  obtain ⟨pr, g, h⟩ := h
  obtain ⟨g', h'⟩ := h.act hf ha
  exact ⟨_, g', h'⟩
theorem One.deliver (h : One s G) (hf : Fit N K G) {k : Int} (hd : G.DeliverR k G') : One s G' := by
  obtain ⟨pr, g, h⟩ := h
  obtain ⟨g', h'⟩ := h.deliver hf hd
  exact ⟨_, g', h'⟩
theorem One.propose (h : One s G) (n s' : Int) (t : ByteArray) : One s (G.propose n s' t) := by
  obtain ⟨pr, g, h⟩ := h
  exact ⟨_, g, h.propose n s' t⟩
theorem One.drop (h : One s G) (k : Int) : One s (G.drop k) := by
  obtain ⟨pr, g, h⟩ := h
  exact ⟨_, g, h.still (by rw [drop_nds]) (fun j => .inl (Gr.at_nds (drop_nds _) j s)) fun m hm => .inl (drop_mem hm)⟩
theorem One.one (h : One s G) {j k : Nat} (hj : j < G.nds.length) (hk : k < G.nds.length) (h1 : (G.at_ j s).is = true) (h2 : (G.at_ k s).is = true) : (G.at_ j s).text = (G.at_ k s).text := by
  obtain ⟨pr, g, h⟩ := h
  exact h.one ((h.node j hj).lrnd h1) ((h.node k hk).lrnd h2)
/-- the mail after k times Drop(0) -/
theorem drop_len (G : Gr) : (G.drop 0).mail.length = G.mail.length - 1 := by
  unfold Gr.drop
  split
  · show (G.mail.take 0 ++ G.mail.drop 1).length = _
    simp
  · omega
end

end Go.Proofs.Ytbgopicpdpkccaa
