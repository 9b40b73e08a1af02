/- Texts of the proof, joined: GRKinds. -/
import Derived.Test.YtbgopicpdpkccaaJ22
import Derived.Test.YtbgopicpdpkccaaJ06
namespace Go.Proofs.Ytbgopicpdpkccaa
open Go.RowKit
set_option linter.unusedVariables false
set_option linter.unusedSimpArgs false

theorem lt_cmp (a b : Bal) : Bal.lt a b ↔ ¬ 0 ≤ cmpB a b := by
  unfold cmpB orI Bal.lt
  rcases c3_cases a.rd b.rd with ⟨h, e⟩ | ⟨h, e⟩ | ⟨h, e⟩ <;> rcases c3_cases a.nd b.nd with ⟨h2, e2⟩ | ⟨h2, e2⟩ | ⟨h2, e2⟩ <;> rw [e] <;> simp [e2] <;> omega
theorem setA_same {s : Int} {x : Sl} : ∀ {l : List (Int × Sl)}, getA s l = some x → setA s x l = l := by
  intro l
  induction l with
  | nil => intro h; cases h
  | cons p l ih =>
    intro h
    unfold getA at h
    unfold setA
    by_cases e : s = p.1
    · rw [if_pos e] at h ⊢
      injection h with h
      subst h; rw [e]
    · rw [if_neg e] at h ⊢
      rw [ih h]
theorem Gr.set_same {G : Gr} {i : Nat} {s : Int} {x : Sl} (hi : i < G.nds.length) (h : getA s (G.nd i).sl = some x) : G.setSl i s x = G := by
  unfold Gr.setSl
  rw [setA_same h]
  unfold Gr.setNd Gr.nd
  obtain ⟨nds, mail⟩ := G
  simp only [Gr.mk.injEq, and_true]
  have hi : i < nds.length := hi
  simp [List.getElem?_eq_getElem hi]
  exact List.set_getElem_self hi
section
variable {S : Nat → Prop} {w w' : World} {r : Nat} {An Am : Option Addr} {cn cm : Nat} {G : Gr} {a : Ra}
theorem rpromise_any (m : Ml) (x : Sl) (i : Nat) (s : Int) {q b : Nat} (h : RIn S w r An cn Am cm G a) (hi : i < G.nds.length) (hq : (G.nd i).sl[q]? = some (s, x)) (hb : a.lA i = some ⟨b, 0, none⟩) (hN : G.nds.length ≤ 9) (hl : ∀ d, x.bid = some d → d.ans.length ≤ G.nds.length / 2) : Calls Try.prog 69 #[.pointer (some ⟨r, 0, none⟩), .pointer (some ⟨b, q * 15, none⟩), .agg #[.int .i64 m.kind, .int .i64 m.fr, .int .i64 m.dst, .int .i64 m.slot, .int .i64 m.bal.rd, .int .i64 m.bal.nd, .int .i64 m.had.rd, .int .i64 m.had.nd, .string m.text]] w fun e w' => e = .returned (.tuple #[]) ∧ ∃ G', G.Promise i s x m G' ∧ RGo S w r G' w' := by
  cases hc : x.cnts m false with
  | none =>
    refine (rpromise_none m x i s h hi hq hb (fun d hd => by have := hl d hd; omega) hc).mono fun e w' ⟨he, hw⟩ => ⟨he, G, by unfold Gr.Promise; rw [hc], ?_⟩
    exact RGo.of_below ⟨_, _, _, _, _, h⟩ hw
  | some d2 =>
    obtain ⟨d, hd, h1, h2, hag, hd2⟩ := Sl.cnts_some hc
    have hld := hl d hd
    have hl2 : d2.ans.length = d.ans.length + 1 := by rw [hd2]; exact setA_len hag
    refine (rpromise_some m x i s h hi hq hb d d2 hd h2 h1 hag hd2 hN (by omega)).mono fun e w' ⟨he, hw⟩ => ⟨he, _, ?_, hw⟩
    unfold Gr.Promise Gr.rwon
    rw [hc]
    simp only
    by_cases hm : d2.ans.length < G.nds.length / 2 + 1
    · rw [if_pos hm, if_neg (by omega)]
    · rw [if_neg hm, if_pos (by omega)]
      exact ⟨_, bstOf_best d2, rfl⟩
theorem raccepted_any (m : Ml) (x : Sl) (i : Nat) (s : Int) {q b : Nat} (h : RIn S w r An cn Am cm G a) (hi : i < G.nds.length) (hq : (G.nd i).sl[q]? = some (s, x)) (hb : a.lA i = some ⟨b, 0, none⟩) (hN : G.nds.length ≤ 9) (hl : ∀ d, x.bid = some d → d.ans.length ≤ G.nds.length / 2) : Calls Try.prog 70 #[.pointer (some ⟨r, 0, none⟩), .pointer (some ⟨b, q * 15, none⟩), .agg #[.int .i64 m.kind, .int .i64 m.fr, .int .i64 m.dst, .int .i64 m.slot, .int .i64 m.bal.rd, .int .i64 m.bal.nd, .int .i64 m.had.rd, .int .i64 m.had.nd, .string m.text]] w fun e w' => e = .returned (.tuple #[]) ∧ RGo S w r (G.acceptedOf i s x m) w' := by
  unfold Gr.acceptedOf
  cases hc : x.cnts m true with
  | none => exact (raccepted_none m x i s h hi hq hb (fun d hd => by have := hl d hd; omega) hc).mono fun e w' ⟨he, hw⟩ => ⟨he, RGo.of_below ⟨_, _, _, _, _, h⟩ hw⟩
  | some d2 =>
    obtain ⟨d, hd, h1, h2, hag, hd2⟩ := Sl.cnts_some hc
    have hld := hl d hd
    have hl2 : d2.ans.length = d.ans.length + 1 := by rw [hd2]; exact setA_len hag
    refine (raccepted_some m x i s h hi hq hb d d2 hd h2 h1 hag hd2 hN (by omega)).mono fun e w' ⟨he, hw⟩ => ⟨he, ?_⟩
    unfold Gr.rdone at hw
    simp only
    by_cases hm : d2.ans.length < G.nds.length / 2 + 1
    · rw [if_pos hm] at hw
      rw [if_neg (by omega)]
      exact hw
    · rw [if_neg hm] at hw
      rw [if_pos (by omega)]
      have e : d2.bal = m.bal := by rw [hd2]; exact h1
      rwa [e] at hw
end

end Go.Proofs.Ytbgopicpdpkccaa

