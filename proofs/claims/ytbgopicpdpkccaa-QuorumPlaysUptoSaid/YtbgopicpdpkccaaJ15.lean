/- Texts of the proof, joined: GCatP. -/
import Derived.Test.YtbgopicpdpkccaaJ14
import Derived.Test.YtbgopicpdpkccaaJ11
namespace Go.Proofs.Ytbgopicpdpkccaa
open Go.RowKit
set_option linter.unusedVariables false
set_option linter.unusedSimpArgs false

/-- what was learned stays -/
def Stb (x x' : Sl) : Prop := x.is = true → x'.is = true ∧ x'.text = x.text
theorem Stb.refl (x : Sl) : Stb x x := fun h => ⟨h, rfl⟩
theorem Stb.trans {x y z : Sl} (h1 : Stb x y) (h2 : Stb y z) : Stb x z := fun h => by
  obtain ⟨a, b⟩ := h1 h
  obtain ⟨c, d⟩ := h2 a
  exact ⟨c, d.trans b⟩
theorem HX.stb {G : Gr} {x x' : Sl} {m : Ml} {L : List Ml} (h : HX G x m x' L) : Stb x x' := by
  cases h with
  | learn h1 h2 => exact fun h => by rw [h2] at h; cases h
  | prep _ _ => exact fun h => ⟨h, rfl⟩
  | acc _ _ => exact fun h => ⟨h, rfl⟩
  | late _ _ => exact fun h => ⟨h, rfl⟩
  | no2 _ _ => exact fun h => ⟨h, rfl⟩
  | ans1 _ _ _ _ => exact fun h => ⟨h, rfl⟩
  | won _ _ _ _ _ _ => exact fun h => ⟨h, rfl⟩
  | no4 _ _ => exact fun h => ⟨h, rfl⟩
  | ans2 _ _ _ _ => exact fun h => ⟨h, rfl⟩
  | done _ _ _ _ => exact fun h => ⟨h, rfl⟩
  | known _ _ => exact fun h => ⟨h, rfl⟩
  | told _ => exact fun h => ⟨h, rfl⟩
theorem logOf_form (st : Int → Sl) : ∃ p, p ≤ 256 ∧ logOf st = (List.range p).map (fun (k : Nat) => (st (k : Int)).text) ∧ (∀ t : Nat, t < p → (st (t : Int)).is = true) ∧ (p = 256 ∨ (st (p : Int)).is = false) := by
  have key : ∀ n, ∃ p, p ≤ n ∧ (∀ t : Nat, t < p → (st (t : Int)).is = true) ∧ (p = n ∨ (st (p : Int)).is = false) := by
    intro n
    induction n with
    | zero => exact ⟨0, Nat.le_refl _, fun t h => by omega, .inl rfl⟩
    | succ n ih =>
      obtain ⟨p, h1, h2, h3⟩ := ih
      rcases h3 with rfl | h3
      · cases hc : (st (p : Int)).is with
        | true => exact ⟨p + 1, Nat.le_refl _, fun t ht => by
            rcases Nat.lt_succ_iff_lt_or_eq.1 ht with h | rfl
            · exact h2 t h
            · exact hc, .inl rfl⟩
        | false => exact ⟨p, by omega, h2, .inr hc⟩
      · exact ⟨p, by omega, h2, .inr h3⟩
  obtain ⟨p, h1, h2, h3⟩ := key 256
  refine ⟨p, h1, ?_, h2, h3⟩
  unfold logOf
  rw [takeWhile_range h1 h2 (h3.imp id id)]
theorem mem_takeWhile_range {p : Nat → Bool} {n j : Nat} (hj : j < n) (h : ∀ k, k ≤ j → p k = true) : j ∈ (List.range n).takeWhile p := by
  have e : List.range n = List.range (j + 1) ++ (List.range (n - (j + 1))).map (j + 1 + ·) := by
    rw [← List.range_add]; congr 1; omega
  rw [e, List.takeWhile_append_of_pos (fun k hk => h k (by have := List.mem_range.1 hk; omega))]
  exact List.mem_append_left _ (List.mem_range.2 (by omega))
def wc (m : Ml) : Nat := if m.kind = 6 then 9 else 1
def wcs (l : List Ml) : Nat := (l.map wc).sum
theorem wcs_cons (m : Ml) (l : List Ml) : wcs (m :: l) = wc m + wcs l := by unfold wcs; rw [List.map_cons, List.sum_cons]
theorem wcs_app (l l' : List Ml) : wcs (l ++ l') = wcs l + wcs l' := by unfold wcs; rw [List.map_append, List.sum_append]
theorem wc_pos (m : Ml) : 1 ≤ wc m := by unfold wc; split <;> omega
theorem wc_le (m : Ml) : wc m ≤ 9 := by unfold wc; split <;> omega
theorem len_wcs (l : List Ml) : l.length ≤ wcs l := by
  induction l with
  | nil => simp [wcs]
  | cons m l ih => rw [wcs_cons, List.length_cons]; have := wc_pos m; omega
theorem wcs_le (l : List Ml) : wcs l ≤ 9 * l.length := by
  induction l with
  | nil => simp [wcs]
  | cons m l ih => rw [wcs_cons, List.length_cons]; have := wc_le m; omega
theorem wcs_learn (l : List Ml) (h : ∀ m ∈ l, m.kind = 5) : wcs l = l.length := by
  induction l with
  | nil => simp [wcs]
  | cons m l ih =>
    rw [wcs_cons, List.length_cons, ih fun m hm => h m (List.mem_cons_of_mem _ hm)]
    have := h m List.mem_cons_self
    unfold wc
    rw [if_neg (by omega)]
    omega
/-- only asks of one node, and what it is told -/
structure CRun (i o k w N F : Nat) (G : Gr) : Prop where
  len : G.nds.length = N
  iN : i < N
  oN : o < N
  ui : (G.nd i).up = true
  uo : (G.nd o).up = true
  msg : ∀ m ∈ G.mail, (m.kind = 6 ∧ m.fr = i ∧ m.slot = k ∧ 0 ≤ m.dst ∧ m.dst < N) ∨ (m.kind = 5 ∧ m.dst = i)
  pot : wcs G.mail ≤ F
  ol : ∀ t : Nat, t < w → (G.at_ o t).is = true
  pg : ∀ t : Nat, k ≤ t → t < k + 8 → t < w → (∃ m ∈ G.mail, m.kind = 6 ∧ m.dst = o) ∨ (∃ m ∈ G.mail, m.kind = 5 ∧ m.slot = t) ∨ (G.at_ i t).is = true
section
variable {i o k w N F : Nat} {G G' G0 : Gr} {m : Ml} {rest : List Ml}
theorem CRun.step (h : CRun i o k w N F G) (hF : F ≤ 1000) (hm : G.mail = m :: rest) (hd : G.DeliverR 0 G') : CRun i o k w N (F - 1) G' ∧ 1 ≤ F ∧ ∀ j t, Stb (G.at_ j t) (G'.at_ j t) := by
  have hmm := h.msg m (by rw [hm]; exact List.mem_cons_self)
  have hlen := h.len
  have hpot := h.pot
  rw [hm, wcs_cons] at hpot
  have hrl := len_wcs rest
  have hw := wc_pos m
  have hdst : 0 ≤ m.dst ∧ m.dst < G.nds.length := by
    have := h.iN
    rcases hmm with h1 | h1 <;> omega
  obtain ⟨x', L, hx⟩ := deliver_first_x hm hdst hd
  have hstb : ∀ j t, Stb (G.at_ j t) (G'.at_ j t) := fun j t => by
    rw [hx.at_]
    split
    · rename_i e
      rw [e.1, e.2]
      rcases hx.what with ⟨_, h1⟩ | ⟨_, rfl, _⟩
      · exact h1.stb
      · exact Stb.refl _
    · exact Stb.refl _
  have hL : (∀ m' ∈ L, m'.kind = 5 ∧ m'.dst = i) ∧ L.length + 1 ≤ wc m := by
    rcases hx.what with ⟨_, h1⟩ | ⟨_, _, rfl⟩
    · rcases hmm with ⟨e1, e2, e3, _⟩ | ⟨e1, e2⟩
      · cases h1 with
        | told h1 =>
          refine ⟨fun m' hm' => ?_, ?_⟩
          · obtain ⟨j, _, rfl⟩ := List.mem_map.1 hm'
            exact ⟨rfl, e2⟩
          · unfold Gr.told wc
            rw [if_pos e1, List.length_map]
            have := (List.takeWhile_prefix (l := List.range 8) fun (j : Nat) => (G.st m.dst (m.slot + (j : Int))).is).length_le
            rw [List.length_range] at this
            omega
        | late h1 _ => omega
        | prep h1 _ => omega
        | acc h1 _ => omega
        | no2 h1 _ => omega
        | ans1 _ h1 _ _ => omega
        | won _ _ h1 _ _ _ => omega
        | no4 h1 _ => omega
        | ans2 _ h1 _ _ => omega
        | done _ h1 _ _ => omega
        | known h1 _ => omega
        | learn h1 _ => omega
      · cases h1 with
        | known h1 _ => exact ⟨fun _ h => (by cases h), by simpa using hw⟩
        | learn h1 _ => exact ⟨fun _ h => (by cases h), by simpa using hw⟩
        | told h1 => exact absurd ⟨by omega, by omega⟩ h1
        | late h1 _ => omega
        | prep h1 _ => omega
        | acc h1 _ => omega
        | no2 h1 _ => omega
        | ans1 _ h1 _ _ => omega
        | won _ _ h1 _ _ _ => omega
        | no4 h1 _ => omega
        | ans2 _ h1 _ _ => omega
        | done _ h1 _ _ => omega
    · exact ⟨fun _ h => (by cases h), by simpa using hw⟩
  have hw9 := wc_le m
  have hmail := hx.mail (by omega)
  refine ⟨⟨hx.len.trans hlen, h.iN, h.oN, (hx.up i).trans h.ui, (hx.up o).trans h.uo, fun m' hm' => ?_, ?_, fun t ht => (hstb o t (h.ol t ht)).1, fun t h1 h2 h3 => ?_⟩, by omega, hstb⟩
  · rw [hmail] at hm'
    rcases List.mem_append.1 hm' with hm' | hm'
    · exact h.msg m' (by rw [hm]; exact List.mem_cons_of_mem _ hm')
    · exact .inr (hL.1 m' hm')
  · rw [hmail, wcs_app, wcs_learn L fun m' hm' => (hL.1 m' hm').1]
    omega
  · rcases h.pg t h1 h2 h3 with ⟨m2, g1, g2, g3⟩ | ⟨m2, g1, g2, g3⟩ | g
    · rw [hm] at g1
      rcases List.mem_cons.1 g1 with rfl | g1
      · have e3 : m2.slot = k := by rcases hmm with ⟨_, _, e, _⟩ | ⟨e, _⟩ <;> omega
        have hdo : m2.dst.toNat = o := by omega
        rcases hx.what with ⟨_, hh⟩ | ⟨hu, _, _⟩
        · cases hh with
          | told hh =>
            refine .inr (.inl ⟨⟨5, m2.dst, m2.fr, m2.slot + ((t - k : Nat) : Int), bal0, bal0, (G.st m2.dst (m2.slot + ((t - k : Nat) : Int))).text⟩, ?_, rfl, ?_⟩)
            · rw [hmail]
              refine List.mem_append_right _ (List.mem_map.2 ⟨t - k, mem_takeWhile_range (by omega) fun j hj => ?_, rfl⟩)
              rw [g3, e3, show (k : Int) + (j : Int) = ((k + j : Nat) : Int) from by omega]
              unfold Gr.st
              rw [if_pos (by have := h.oN; omega), Int.toNat_natCast]
              exact h.ol _ (by omega)
            · simp only; omega
          | late h1 _ => omega
          | prep h1 _ => omega
          | acc h1 _ => omega
          | no2 h1 _ => omega
          | ans1 _ h1 _ _ => omega
          | won _ _ h1 _ _ _ => omega
          | no4 h1 _ => omega
          | ans2 _ h1 _ _ => omega
          | done _ h1 _ _ => omega
          | known h1 _ => omega
          | learn h1 _ => omega
        · rw [hdo, h.uo] at hu; cases hu
      · exact .inl ⟨m2, by rw [hmail]; exact List.mem_append_left _ g1, g2, g3⟩
    · rw [hm] at g1
      rcases List.mem_cons.1 g1 with rfl | g1
      · have hdi : m2.dst = i := by rcases hmm with ⟨e, _⟩ | ⟨_, e⟩ <;> omega
        have hdi2 : i = m2.dst.toNat := by omega
        refine .inr (.inr ?_)
        rw [hx.at_, if_pos ⟨hdi2, g3.symm⟩]
        rcases hx.what with ⟨_, hh⟩ | ⟨hu, _, _⟩
        · cases hh with
          | known h1 h2 => exact h2
          | learn h1 h2 => rfl
          | told h1 => exact absurd ⟨by omega, by omega⟩ h1
          | late h1 _ => omega
          | prep h1 _ => omega
          | acc h1 _ => omega
          | no2 h1 _ => omega
          | ans1 _ h1 _ _ => omega
          | won _ _ h1 _ _ _ => omega
          | no4 h1 _ => omega
          | ans2 _ h1 _ _ => omega
          | done _ h1 _ _ => omega
        · rw [← hdi2, h.ui] at hu; cases hu
      · exact .inr (.inl ⟨m2, by rw [hmail]; exact List.mem_append_left _ g1, g2, g3⟩)
    · exact .inr (.inr (hstb i t g).1)
theorem askTo_all (n s : Int) (j : Nat) (h : G.mail.length + j ≤ 4096) : (G.askTo n s j).mail.length ≤ G.mail.length + j ∧ ∀ q : Nat, q < j → (q : Int) ≠ n → (⟨6, n, (q : Int), s, bal0, bal0, ⟨#[]⟩⟩ : Ml) ∈ (G.askTo n s j).mail := by
  induction j with
  | zero => exact ⟨Nat.le_refl _, fun q h => by omega⟩
  | succ j ih =>
    obtain ⟨h1, h2⟩ := ih (by omega)
    unfold Gr.askTo
    split
    · rename_i e
      refine ⟨by omega, fun q hq hne => h2 q ?_ hne⟩
      rcases Nat.lt_succ_iff_lt_or_eq.1 hq with h | rfl
      · exact h
      · exact absurd e hne
    · rw [send_mail (by omega)]
      refine ⟨by simp; omega, fun q hq hne => ?_⟩
      rcases Nat.lt_succ_iff_lt_or_eq.1 hq with h | rfl
      · exact List.mem_append_left _ (h2 q h hne)
      · exact List.mem_append_right _ (List.mem_singleton.2 rfl)
/-- between two askings -/
structure Pre (G0 : Gr) (i o w N j : Nat) (G : Gr) : Prop where
  mail : G.mail = []
  len : G.nds.length = N
  iN : i < N
  oN : o < N
  ui : (G.nd i).up = true
  uo : (G.nd o).up = true
  w256 : w ≤ 256
  ol : ∀ t : Nat, t < w → (G.at_ o t).is = true
  have_ : ∀ t : Nat, t < w → t < 8 * j → (G.at_ i t).is = true
  stb : ∀ q t, Stb (G0.at_ q t) (G.at_ q t)
/-- under way after an asking -/
structure Mid (G0 : Gr) (i o w N j q : Nat) (G : Gr) : Prop where
  run : ∃ k F, CRun i o k w N F G ∧ F + q ≤ 9 * N ∧ (∀ t : Nat, t < k → t < 256 → (G.at_ i t).is = true) ∧ (8 * j ≤ k ∨ w ≤ k)
  w256 : w ≤ 256
  stb : ∀ p t, Stb (G0.at_ p t) (G.at_ p t)
theorem Pre.ask {j : Nat} (h : Pre G0 i o w N j G) (hN : N ≤ 9) : Mid G0 i o w N j 0 (G.catch i) := by
  have hl := h.len
  have hi := h.iN
  have hst : ∀ t : Nat, G.st i t = G.at_ i t := fun t => by unfold Gr.st; rw [if_pos (by omega), Int.toNat_natCast]
  unfold Gr.catch
  rw [if_pos ⟨by omega, by omega, by rw [Int.toNat_natCast]; exact h.ui, by rw [h.mail]; simp; omega⟩]
  cases hk : G.lacks (i : Int) with
  | none =>
    unfold Gr.lacks at hk
    rw [List.find?_range_eq_none] at hk
    refine ⟨⟨256, 0, ⟨hl, hi, h.oN, h.ui, h.uo, fun m hm => by rw [h.mail] at hm; (cases hm), by rw [h.mail]; simp [wcs], h.ol, fun t h1 h2 h3 => by have := h.w256; omega⟩, by omega, fun t _ ht => ?_, .inr h.w256⟩, h.w256, h.stb⟩
    have := hk t ht
    rw [hst] at this
    simpa using this
  | some k =>
    unfold Gr.lacks at hk
    rw [List.find?_range_eq_some] at hk
    obtain ⟨k1, k2, k3⟩ := hk
    rw [hst] at k1
    simp only
    have hat : ∀ q t, (G.askTo i k G.nds.length).at_ q t = G.at_ q t := fun q t => Gr.at_nds (askTo_nds _ _ _) q t
    have hnd : ∀ q, (G.askTo i k G.nds.length).nd q = G.nd q := fun q => Gr.up_nds (askTo_nds _ _ _) q
    obtain ⟨a1, a2⟩ := askTo_all (G := G) (i : Int) (k : Int) G.nds.length (by rw [h.mail]; simp; omega)
    rw [h.mail, List.length_nil, Nat.zero_add] at a1
    refine ⟨⟨k, 9 * N, ⟨by rw [askTo_nds]; exact hl, hi, h.oN, by rw [hnd]; exact h.ui, by rw [hnd]; exact h.uo, fun m hm => ?_, ?_, fun t ht => by rw [hat]; exact h.ol t ht, fun t h1 h2 h3 => ?_⟩, by omega, fun t ht ht2 => ?_, ?_⟩, h.w256, fun p t => by rw [hat]; exact h.stb p t⟩
    · rcases askTo_mem hm with hm | ⟨q, q1, q2, rfl⟩
      · rw [h.mail] at hm; cases hm
      · exact .inl ⟨rfl, rfl, rfl, by simp only; omega, by simp only; omega⟩
    · have := wcs_le (G.askTo i k G.nds.length).mail
      omega
    · by_cases e : o = i
      · rw [hat, ← e]; exact .inr (.inr (h.ol t h3))
      · exact .inl ⟨_, a2 o (by have := h.oN; omega) (by omega), rfl, rfl⟩
    · have := k3 t ht
      rw [hst] at this
      rw [hat]
      simpa using this
    · by_cases e : 8 * j ≤ k
      · exact .inl e
      · by_cases e2 : w ≤ k
        · exact .inr e2
        · have := h.have_ k (by omega) (by omega)
          rw [this] at k1
          cases k1
theorem Mid.step {j q : Nat} (h : Mid G0 i o w N j q G) (hN : N ≤ 9) (hne : G.mail ≠ []) (hd : G.DeliverR 0 G') : Mid G0 i o w N j (q + 1) G' := by
  obtain ⟨k, F, hr, hF, hk, hj⟩ := h.run
  cases hm : G.mail with
  | nil => exact absurd hm hne
  | cons m rest =>
    obtain ⟨hr', h1, hs⟩ := hr.step (by omega) hm hd
    exact ⟨⟨k, F - 1, hr', by omega, fun t ht ht2 => (hs i t (hk t ht ht2)).1, hj⟩, h.w256, fun p t => (h.stb p t).trans (hs p t)⟩
theorem Mid.few {j q : Nat} (h : Mid G0 i o w N j q G) : q ≤ 9 * N := by
  obtain ⟨k, F, hr, hF, _⟩ := h.run
  omega
theorem Mid.end {j q : Nat} (h : Mid G0 i o w N j q G) (hm : G.mail = []) : Pre G0 i o w N (j + 1) G := by
  obtain ⟨k, F, hr, hF, hk, hj⟩ := h.run
  have h256 := h.w256
  refine ⟨hm, hr.len, hr.iN, hr.oN, hr.ui, hr.uo, h256, hr.ol, fun t ht htj => ?_, h.stb⟩
  by_cases e : t < k
  · exact hk t e (by omega)
  · rcases hr.pg t (by omega) (by omega) ht with ⟨m, h1, _⟩ | ⟨m, h1, _⟩ | h1
    · rw [hm] at h1; cases h1
    · rw [hm] at h1; cases h1
    · exact h1
/-- the end: the beginning of the one's log is the other's -/
theorem Pre.logs {j : Nat} (h : Pre G0 i o w N j G) (hj : w ≤ 8 * j) (hone : ∀ s, One s G) (hl0 : G0.nds.length = N) (hw : (G0.log o).length = w) (hall : ∀ t : Nat, t < w → (G0.at_ o t).is = true) : w ≤ (G.log i).length ∧ (G.log i).take w = G0.log o := by
  have hl := h.len
  have hi := h.iN
  have ho := h.oN
  have hst : ∀ (q : Nat), q < N → ∀ t, G.st q t = G.at_ q t := fun q hq t => by unfold Gr.st; rw [if_pos (by omega), Int.toNat_natCast]
  have hst0 : ∀ (q : Nat), q < N → ∀ t, G0.st q t = G0.at_ q t := fun q hq t => by unfold Gr.st; rw [if_pos (by omega), Int.toNat_natCast]
  obtain ⟨p, p1, p2, p3, p4⟩ := logOf_form fun s => G.st i s
  obtain ⟨p', r1, r2, r3, r4⟩ := logOf_form fun s => G0.st o s
  have e1 : G.log i = (List.range p).map fun (k : Nat) => (G.st i (k : Int)).text := p2
  have e2 : G0.log o = (List.range p').map fun (k : Nat) => (G0.st o (k : Int)).text := r2
  have hp' : p' = w := by rw [e2] at hw; simpa using hw
  subst hp'
  have hwp : p' ≤ p := by
    rcases p4 with e | e
    · omega
    · by_cases hlt : p < p'
      · rw [hst i hi, h.have_ p hlt (by omega)] at e
        cases e
      · omega
  refine ⟨by rw [e1]; simpa using hwp, ?_⟩
  rw [e1, e2, ← List.map_take, List.take_range, Nat.min_eq_left hwp]
  refine List.map_congr_left fun t ht => ?_
  have ht := List.mem_range.1 ht
  rw [hst i hi, hst0 o ho]
  have g1 := h.have_ t ht (by omega)
  have g2 := h.stb o t (hall t ht)
  rw [(hone t).one (by omega) (by omega) g1 g2.1]
  exact g2.2
end

end Go.Proofs.Ytbgopicpdpkccaa

