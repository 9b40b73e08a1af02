/- quorum: one text a slot: the plain law. -/
import Derived.Test.YtbgopicpdpkccaaGEff
namespace Go.Proofs.Ytbgopicpdpkccaa
open Go.RowKit
set_option linter.unusedVariables false
set_option linter.unusedSimpArgs false

def Bal.lt (a b : Bal) : Prop := a.rd < b.rd ∨ a.rd = b.rd ∧ a.nd < b.nd
def Bal.le (a b : Bal) : Prop := a.rd < b.rd ∨ a.rd = b.rd ∧ a.nd ≤ b.nd
theorem Bal.eq_of {a b : Bal} (h1 : a.rd = b.rd) (h2 : a.nd = b.nd) : a = b := by cases a; cases b; simp_all
theorem Bal.refl (a : Bal) : Bal.le a a := .inr ⟨rfl, Int.le_refl _⟩
theorem Bal.trans {a b c : Bal} (h1 : Bal.le a b) (h2 : Bal.le b c) : Bal.le a c := by unfold Bal.le at *; omega
theorem Bal.lt_le {a b c : Bal} (h1 : Bal.lt a b) (h2 : Bal.le b c) : Bal.lt a c := by unfold Bal.le Bal.lt at *; omega
theorem Bal.le_lt {a b c : Bal} (h1 : Bal.le a b) (h2 : Bal.lt b c) : Bal.lt a c := by unfold Bal.le Bal.lt at *; omega
theorem Bal.not_lt {a b : Bal} (h1 : Bal.le a b) (h2 : Bal.lt b a) : False := by unfold Bal.le Bal.lt at *; omega
theorem Bal.tri (a b : Bal) : Bal.lt a b ∨ a = b ∨ Bal.lt b a := by
  by_cases h1 : a.rd < b.rd
  · exact .inl (.inl h1)
  by_cases h2 : b.rd < a.rd
  · exact .inr (.inr (.inl h2))
  have e : a.rd = b.rd := by omega
  by_cases h3 : a.nd < b.nd
  · exact .inl (.inr ⟨e, h3⟩)
  by_cases h4 : b.nd < a.nd
  · exact .inr (.inr (.inr ⟨e.symm, h4⟩))
  exact .inr (.inl (Bal.eq_of e (by omega)))
theorem Bal.le_of_not {a b : Bal} (h : ¬ Bal.lt b a) : Bal.le a b := by unfold Bal.le Bal.lt at *; omega
theorem cmp_le {a b : Bal} (h : 0 ≤ cmpB a b) : Bal.le b a := by
  by_cases hc : cmpB a b ≤ 0
  · have e : cmpB a b = 0 := by omega
    have := cmpB_le.1 hc
    unfold cmpB orI at e
    unfold Bal.le
    rcases c3_cases a.rd b.rd with ⟨h1, h2⟩ | ⟨h1, h2⟩ | ⟨h1, h2⟩
    · rw [h2] at e; simp at e
    · exact .inl h1
    · rw [h2] at e; simp at e
      rcases c3_cases a.nd b.nd with ⟨h3, h4⟩ | ⟨h3, h4⟩ | ⟨h3, h4⟩
      · rw [h4] at e; simp at e
      · exact .inr ⟨h1.symm, by omega⟩
      · exact .inr ⟨h1.symm, by omega⟩
  · rw [cmpB_le] at hc
    unfold Bal.le
    omega
/-- what was asked to be accepted, who accepted what -/
structure Gho where
  P : Bal → ByteArray → Prop
  A : Nat → Bal → Prop
def IsQ (N : Nat) (l : List Nat) : Prop := l.Nodup ∧ (∀ f ∈ l, f < N) ∧ l.length = N / 2 + 1
theorem nodup_le {N : Nat} {l : List Nat} (h1 : l.Nodup) (h2 : ∀ f ∈ l, f < N) : l.length ≤ N := by
  induction N generalizing l with
  | zero =>
    cases l with
    | nil => simp
    | cons a l => exact absurd (h2 a List.mem_cons_self) (by omega)
  | succ N ih =>
    have h3 := ih (l := l.erase N) (h1.erase N) fun f hf => by
      have := h1.mem_erase_iff.1 hf
      have := h2 f this.2
      omega
    have := List.length_erase (a := N) (l := l)
    split at this <;> omega
theorem quorum_meet {N : Nat} {l l' : List Nat} (h : IsQ N l) (h' : IsQ N l') : ∃ f, f ∈ l ∧ f ∈ l' := by
  by_cases hd : ∃ f, f ∈ l ∧ f ∈ l'
  · exact hd
  · have hn : (l ++ l').Nodup := List.nodup_append.2 ⟨h.1, h'.1, fun a ha b hb e => hd ⟨a, ha, e ▸ hb⟩⟩
    have := nodup_le hn (N := N) fun f hf => (List.mem_append.1 hf).elim (h.2.1 f) (h'.2.1 f)
    rw [List.length_append, h.2.2, h'.2.2] at this
    omega
section
variable (s : Int) (pr : ByteArray → Prop) (G : Gr) (g : Gho)
def Dead (c : Bal) : Prop := ∃ l, IsQ G.nds.length l ∧ ∀ f ∈ l, ¬ g.A f c ∧ Bal.lt c (G.at_ f s).prom
def Chos (t : ByteArray) : Prop := ∃ b l, g.P b t ∧ IsQ G.nds.length l ∧ ∀ f ∈ l, g.A f b
def Own (b : Bal) : Prop := 0 ≤ b.nd ∧ b.nd < G.nds.length ∧ 1 ≤ b.rd ∧ b.rd ≤ (G.at_ b.nd.toNat s).rd
def Prm (b : Bal) (f : Int) (v : Vt) : Prop := 0 ≤ f ∧ f < G.nds.length ∧ Bal.le b (G.at_ f.toNat s).prom ∧ (v = vt0 ∨ g.A f.toNat v.bal ∧ g.P v.bal v.text) ∧ ∀ c, g.A f.toNat c → Bal.lt c b → Bal.le c v.bal
/-- what holds of a bid -/
def BidOk (n : Nat) (x : Sl) (d : Bd) : Prop := d.bal.nd = n ∧ 1 ≤ d.bal.rd ∧ d.bal.rd ≤ x.rd ∧ Once d.ans ∧ (d.acc = false → pr d.text ∧ (∀ t, ¬ g.P d.bal t) ∧ ∀ p ∈ d.ans, Prm s G g d.bal p.1 p.2) ∧ (d.acc = true → g.P d.bal d.text ∧ ∀ p ∈ d.ans, 0 ≤ p.1 ∧ p.1 < G.nds.length ∧ g.A p.1.toNat d.bal)
structure NodeOk (n : Nat) (x : Sl) : Prop where
  rd0 : 0 ≤ x.rd
  acc : x.accd = vt0 ∨ g.A n x.accd.bal ∧ g.P x.accd.bal x.accd.text
  accp : Bal.le x.accd.bal x.prom
  vote : ∀ b, g.A n b → Bal.le b x.accd.bal
  bid : ∀ d, x.bid = some d → BidOk s pr G g n x d
  lrnd : x.is = true → Chos G g x.text
structure MsgOk (m : Ml) : Prop where
  prom : m.kind = 2 → Prm s G g m.bal m.fr ⟨m.had, m.text⟩
  acpt : m.kind = 3 → g.P m.bal m.text
  acpd : m.kind = 4 → 0 ≤ m.fr ∧ m.fr < G.nds.length ∧ g.A m.fr.toNat m.bal
  lern : m.kind = 5 → Chos G g m.text
structure NewP (b : Bal) (t : ByteArray) : Prop where
  own : Own s G b
  pr_ : pr t
  fun_ : ∀ t', g.P b t' → t' = t
  safe : ∀ c, Bal.lt c b → Dead s G g c ∨ g.P c t
structure Safe (K : ByteArray → Prop) : Prop where
  ps : ∀ b t, g.P b t → NewP s pr G g b t
  aP : ∀ n b, g.A n b → ∃ t, g.P b t
  node : ∀ n, n < G.nds.length → NodeOk s pr G g n (G.at_ n s)
  msg : ∀ m ∈ G.mail, m.slot = s → MsgOk s G g m
  know : ∀ t, K t → Chos G g t
end
structure Grow (s : Int) (G : Gr) (g : Gho) (G' : Gr) (g' : Gho) : Prop where
  len : G'.nds.length = G.nds.length
  rd : ∀ n, (G.at_ n s).rd ≤ (G'.at_ n s).rd
  prom : ∀ n, Bal.le (G.at_ n s).prom (G'.at_ n s).prom
  P : ∀ b t, g.P b t → g'.P b t
  A : ∀ n b, g.A n b → g'.A n b
  new : ∀ n b, g'.A n b → g.A n b ∨ Bal.le (G.at_ n s).prom b
section
variable {s : Int} {pr K : ByteArray → Prop} {G G' : Gr} {g g' : Gho}
theorem Dead.grow (h : Grow s G g G' g') {c : Bal} (hd : Dead s G g c) : Dead s G' g' c := by
  obtain ⟨l, hl, hf⟩ := hd
  refine ⟨l, by rw [h.len]; exact hl, fun f hm => ?_⟩
  obtain ⟨h1, h2⟩ := hf f hm
  exact ⟨fun ha => (h.new f c ha).elim h1 fun hle => Bal.not_lt hle h2, Bal.lt_le h2 (h.prom f)⟩
theorem Chos.grow (h : Grow s G g G' g') {t : ByteArray} (hd : Chos G g t) : Chos G' g' t := by
  obtain ⟨b, l, h1, h2, h3⟩ := hd
  exact ⟨b, l, h.P _ _ h1, by rw [h.len]; exact h2, fun f hf => h.A _ _ (h3 f hf)⟩
theorem Own.grow (h : Grow s G g G' g') {b : Bal} (hd : Own s G b) : Own s G' b := ⟨hd.1, by rw [h.len]; exact hd.2.1, hd.2.2.1, Int.le_trans hd.2.2.2 (h.rd _)⟩
theorem Prm.grow (h : Grow s G g G' g') {b : Bal} {f : Int} {v : Vt} (hd : Prm s G g b f v) : Prm s G' g' b f v := by
  obtain ⟨h1, h2, h3, h4, h5⟩ := hd
  refine ⟨h1, by rw [h.len]; exact h2, Bal.trans h3 (h.prom _), h4.imp id fun h4 => ⟨h.A _ _ h4.1, h.P _ _ h4.2⟩, fun c hc hlt => ?_⟩
  rcases h.new _ _ hc with ha | ha
  · exact h5 c ha hlt
  · exact (Bal.not_lt (Bal.trans h3 ha) hlt).elim
theorem BidOk.grow (h : Grow s G g G' g') {pr' : ByteArray → Prop} (hpr : ∀ t, pr t → pr' t) {n : Nat} {x x' : Sl} {d : Bd} (hd : BidOk s pr G g n x d) (hr : x.rd ≤ x'.rd) (hp : d.acc = false → ∀ t, g'.P d.bal t → g.P d.bal t) : BidOk s pr' G' g' n x' d := by
  obtain ⟨h1, h2, h3, h4, h5, h6⟩ := hd
  refine ⟨h1, h2, Int.le_trans h3 hr, h4, fun ha => ?_, fun ha => ?_⟩
  · obtain ⟨a1, a2, a3⟩ := h5 ha
    exact ⟨hpr _ a1, fun t ht => a2 t (hp ha t ht), fun p hp => (a3 p hp).grow h⟩
  · obtain ⟨a1, a2⟩ := h6 ha
    exact ⟨h.P _ _ a1, fun p hp => ⟨(a2 p hp).1, by rw [h.len]; exact (a2 p hp).2.1, h.A _ _ (a2 p hp).2.2⟩⟩
theorem NodeOk.grow (h : Grow s G g G' g') {pr' : ByteArray → Prop} (hpr : ∀ t, pr t → pr' t) {n : Nat} {x : Sl} (hd : NodeOk s pr G g n x) (ha : ∀ b, g'.A n b → g.A n b) (hp : ∀ d, x.bid = some d → d.acc = false → ∀ t, g'.P d.bal t → g.P d.bal t) : NodeOk s pr' G' g' n x :=
  ⟨hd.rd0, hd.acc.imp id fun h4 => ⟨h.A _ _ h4.1, h.P _ _ h4.2⟩, hd.accp, fun b hb => hd.vote b (ha b hb), fun d hx => (hd.bid d hx).grow h hpr (Int.le_refl _) (hp d hx), fun hi => (hd.lrnd hi).grow h⟩
theorem MsgOk.grow (h : Grow s G g G' g') {m : Ml} (hd : MsgOk s G g m) : MsgOk s G' g' m :=
  ⟨fun e => (hd.prom e).grow h, fun e => h.P _ _ (hd.acpt e), fun e => ⟨(hd.acpd e).1, by rw [h.len]; exact (hd.acpd e).2.1, h.A _ _ (hd.acpd e).2.2⟩, fun e => (hd.lern e).grow h⟩
theorem NewP.grow (h : Grow s G g G' g') {pr' : ByteArray → Prop} (hpr : ∀ t, pr t → pr' t) {b : Bal} {t : ByteArray} (hd : NewP s pr G g b t) (hf : ∀ t', g'.P b t' → t' = t) : NewP s pr' G' g' b t :=
  ⟨hd.own.grow h, hpr _ hd.pr_, hf, fun c hc => (hd.safe c hc).imp (Dead.grow h) (h.P _ _)⟩
/-- the frame: what changed, in one place -/
theorem Safe.next (h : Safe s pr G g K) (hg : Grow s G g G' g') {pr' : ByteArray → Prop} (hpr : ∀ t, pr t → pr' t)
    (hP : ∀ b t, g'.P b t → g.P b t ∨ NewP s pr' G' g' b t) (hPf : ∀ b t t', g.P b t → g'.P b t' → t' = t) (hA : ∀ n b, g'.A n b → g.A n b ∨ ∃ t, g'.P b t)
    (hn : ∀ n, n < G.nds.length → NodeOk s pr' G' g' n (G'.at_ n s)) (hm : ∀ m ∈ G'.mail, m.slot = s → m ∈ G.mail ∨ MsgOk s G' g' m) : Safe s pr' G' g' K :=
  ⟨fun b t hb => (hP b t hb).elim (fun hb => (h.ps b t hb).grow hg hpr fun t' ht' => hPf b t t' hb ht') id,
   fun n b hb => (hA n b hb).elim (fun hb => (h.aP n b hb).imp fun t => hg.P b t) id,
   fun n hl => hn n (by rw [← hg.len]; exact hl),
   fun m hm' hs => (hm m hm' hs).elim (fun hx => (h.msg m hx hs).grow hg) id,
   fun t ht => (h.know t ht).grow hg⟩
/-- nothing said or voted anew -/
theorem Safe.calm (h : Safe s pr G g K) {pr' : ByteArray → Prop} (hpr : ∀ t, pr t → pr' t) (hl : G'.nds.length = G.nds.length)
    (hr : ∀ n, (G.at_ n s).rd ≤ (G'.at_ n s).rd) (hp : ∀ n, Bal.le (G.at_ n s).prom (G'.at_ n s).prom)
    (hn : Grow s G g G' g → ∀ n, n < G.nds.length → G'.at_ n s = G.at_ n s ∨ NodeOk s pr' G' g n (G'.at_ n s)) (hm : Grow s G g G' g → ∀ m ∈ G'.mail, m.slot = s → m ∈ G.mail ∨ MsgOk s G' g m) : Safe s pr' G' g K := by
  have hg : Grow s G g G' g := ⟨hl, hr, hp, fun _ _ => id, fun _ _ => id, fun _ _ => .inl⟩
  refine h.next hg hpr (fun _ _ => .inl) (fun b t t' h1 h2 => (h.ps b t h1).fun_ t' h2) (fun _ _ => .inl) (fun n hn' => ?_) (hm hg)
  rcases hn hg n hn' with e | e
  · rw [e]; exact (h.node n hn').grow hg hpr (fun _ => id) fun _ _ _ _ => id
  · exact e
/-- agreement -/
theorem Safe.one_lt (h : Safe s pr G g K) {b b' : Bal} {t t' : ByteArray} {l : List Nat} (h1 : g.P b t) (hq : IsQ G.nds.length l) (hl : ∀ f ∈ l, g.A f b) (h2 : g.P b' t') (hlt : Bal.lt b b') : t = t' := by
  rcases (h.ps b' t' h2).safe b hlt with ⟨l', hq', hd⟩ | hp
  · obtain ⟨f, hf, hf'⟩ := quorum_meet hq hq'
    exact absurd (hl f hf) (hd f hf').1
  · exact (h.ps b t' hp).fun_ t h1
theorem Safe.one (h : Safe s pr G g K) {t t' : ByteArray} (h1 : Chos G g t) (h2 : Chos G g t') : t = t' := by
  obtain ⟨b, l, h1, hq, hl⟩ := h1
  obtain ⟨b', l', h2, hq', hl'⟩ := h2
  rcases Bal.tri b b' with hlt | rfl | hlt
  · exact h.one_lt h1 hq hl h2 hlt
  · exact (h.ps b t' h2).fun_ t h1
  · exact (h.one_lt h2 hq' hl' h1 hlt).symm
theorem Safe.pr_of (h : Safe s pr G g K) {t : ByteArray} (h1 : Chos G g t) : pr t := by
  obtain ⟨b, l, h1, _⟩ := h1
  exact (h.ps b t h1).pr_
theorem Safe.more (h : Safe s pr G g K) {t : ByteArray} (h1 : Chos G g t) : Safe s pr G g (fun t' => K t' ∨ t' = t) :=
  { h with know := fun t' ht => ht.elim (h.know t') (fun e => e ▸ h1) }
/-- the text that a majority's answers leave is safe -/
theorem won_safe (h : Safe s pr G g K) {n : Nat} {x : Sl} {d : Bd} {best : Vt} (hb : BidOk s pr G g n x d) (hn : n < G.nds.length) (hr : x.rd = (G.at_ n s).rd) (ha : d.acc = false) (hl : d.ans.length = G.nds.length / 2 + 1) (hbest : IsBest d.ans d.text best) : NewP s pr G g d.bal best.text := by
  obtain ⟨h1, h2, h3, h4, h5, _⟩ := hb
  obtain ⟨a1, a2, a3⟩ := h5 ha
  have hq : IsQ G.nds.length (d.ans.map fun p => p.1.toNat) := by
    refine ⟨?_, fun f hf => ?_, by simpa using hl⟩
    · unfold Once List.Nodup at h4
      unfold List.Nodup
      rw [List.pairwise_map] at h4 ⊢
      refine h4.imp_of_mem fun {p q} hp hq hne he => hne ?_
      have hp := (a3 p hp).1
      have hq := (a3 q hq).1
      omega
    · obtain ⟨p, hp, rfl⟩ := List.mem_map.1 hf
      have := a3 p hp
      have h1 := this.1
      have h2 := this.2.1
      omega
  have hown : Own s G d.bal := ⟨by omega, by omega, h2, by rw [h1, Int.toNat_natCast, ← hr]; exact h3⟩
  have hrd : ∀ n c, g.A n c → 1 ≤ c.rd := fun n c hc => by
    obtain ⟨t, ht⟩ := h.aP n c hc
    exact (h.ps c t ht).own.2.2.1
  have hdead : ∀ c, Bal.lt c d.bal → (∀ f : Nat, 1 ≤ c.rd → Bal.le c best.bal → False) → Dead s G g c := fun c hc hno => by
    refine ⟨_, hq, fun f hf => ?_⟩
    obtain ⟨p, hp, rfl⟩ := List.mem_map.1 hf
    obtain ⟨p1, p2, p3, p4, p5⟩ := a3 p hp
    refine ⟨fun hA => ?_, Bal.lt_le hc p3⟩
    have hc1 := hrd _ _ hA
    have hle := p5 c hA hc
    have hpos : 0 < p.2.bal.rd := by unfold Bal.le at hle; omega
    have hb := cmpB_le.1 (hbest.2 p hp hpos)
    exact hno 0 hc1 (Bal.trans hle hb)
  rcases hbest.1 with rfl | ⟨p, hp, rfl, hpos⟩
  · exact ⟨hown, a1, fun t' ht' => absurd ht' (a2 t'), fun c hc => .inl (hdead c hc fun f h1 h2 => by
      unfold Bal.le bal0 at h2
      simp only at h2
      omega)⟩
  · obtain ⟨p1, p2, p3, p4, p5⟩ := a3 p hp
    have hP : g.A p.1.toNat p.2.bal ∧ g.P p.2.bal p.2.text := by
      rcases p4 with h0 | h0
      · rw [h0] at hpos; exact absurd hpos (by decide)
      · exact h0
    refine ⟨hown, (h.ps _ _ hP.2).pr_, fun t' ht' => absurd ht' (a2 t'), fun c hc => ?_⟩
    rcases Bal.tri c p.2.bal with hlt | rfl | hlt
    · exact (h.ps _ _ hP.2).safe c hlt
    · exact .inr hP.2
    · exact .inl (hdead c hc fun f h1 h2 => Bal.not_lt h2 hlt)
end

end Go.Proofs.Ytbgopicpdpkccaa
