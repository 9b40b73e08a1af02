/- proc: what Put and Get leave in either case. -/
import Derived.Test.YtbakfkhmopebnaaZPutLen
namespace Go.Proofs.Ytbakfkhmopebnaa
open Go.RowKit
set_option linter.unusedVariables false
set_option linter.unusedSimpArgs false

def putL (al : List Nat) (p : Pr) : List Nat := if p.check.1 = 0 then al ++ p.put else []
def PutAll (al : List Nat) (p : Pr) (w : World) (e : Ending) (w' : World) : Prop := Below w.heap.size w w' ∧ ∃ A c, e = .returned (.tuple #[.slice A (putL al p).length c, .int .i64 p.check.1]) ∧ Rd (fun b => w.heap.size ≤ b) w' 1 A (putL al p).length (bcells (putL al p))
theorem put_all (S S' : Nat → Prop) (A0 A1 A2 : Option Addr) (c0 c1 c2 : Nat) (bs : List Nat) (p : Pr) (w : World) (ha : Rd S w 1 A0 bs.length (bcells bs)) (hp : PrIn S' w A1 A2 p) (hr : ∀ v ∈ p.cs, v.rng) (hl : bs.length ≤ 100000000) :
    Calls Try.prog 21 #[.slice A0 bs.length c0, .agg #[.int .i64 p.args, .slice A1 p.cs.length c1, .slice A2 p.code.length c2]] w (PutAll bs p w) := by
  by_cases hc : p.check.1 = 0
  · refine (pput_any S S' A0 A1 A2 c0 c1 c2 bs p w ha hp hr hl hc).mono ?_
    rintro e w' ⟨hb, A, c, rfl, hown⟩
    refine ⟨hb, A, c, ?_, ?_⟩
    · unfold putL; rw [if_pos hc, hc]
    · unfold putL; rw [if_pos hc]; exact Rd.of_own' hown
  · refine (pput_bad S S' A0 A1 A2 c0 c1 c2 bs p w hp hc).mono ?_
    rintro e w' ⟨rfl, hb⟩
    refine ⟨hb, none, 0, ?_, ?_⟩
    · unfold putL; rw [if_neg hc]; rfl
    · unfold putL; rw [if_neg hc]; exact Rd.nil_
theorem rput_all (S S' : Nat → Prop) (A0 A1 A2 : Option Addr) (c0 c1 c2 : Nat) (bs : List Nat) (p : Pr) (w : World) (ha : Rd S w 1 A0 bs.length (bcells bs)) (hp : PrIn S' w A1 A2 p) (hr : ∀ v ∈ p.cs, v.rng) (hl : bs.length ≤ 100000000) :
    Calls Try.prog 22 #[.slice A0 bs.length c0, .agg #[.int .i64 p.args, .slice A1 p.cs.length c1, .slice A2 p.code.length c2]] w (PutAll bs p w) := by
  by_cases hc : p.check.1 = 0
  · refine (rpput_any S S' A0 A1 A2 c0 c1 c2 bs p w ha hp hr hl hc).mono ?_
    rintro e w' ⟨hb, A, c, rfl, hown⟩
    refine ⟨hb, A, c, ?_, ?_⟩
    · unfold putL; rw [if_pos hc, hc]
    · unfold putL; rw [if_pos hc]; exact Rd.of_own' hown
  · refine (rpput_bad S S' A0 A1 A2 c0 c1 c2 bs p w hp hc).mono ?_
    rintro e w' ⟨rfl, hb⟩
    refine ⟨hb, none, 0, ?_, ?_⟩
    · unfold putL; rw [if_neg hc]; rfl
    · unfold putL; rw [if_neg hc]; exact Rd.nil_
def gPr (b : List Nat) : Pr := match getP b with | .inl p => p | .inr _ => ⟨0, [], []⟩
def gE (b : List Nat) : Int := match getP b with | .inl _ => 0 | .inr x => x.1
def gAt (b : List Nat) : Nat := match getP b with | .inl _ => 0 | .inr x => x.2
theorem getE_ok {a : Nat} {cs : List Vl} {x : Rr × List Is × Option Nat} {p : Pr} (h : getE a cs x = .inl p) : p.check.1 = 0 := by
  obtain ⟨r, code, y⟩ := x
  unfold getE at h
  simp only at h
  split at h
  · cases h
  · cases y with
    | some b => cases h
    | none =>
      simp only at h
      split at h
      · cases h
      · rename_i h1
        injection h with h
        subst h
        simpa using h1
theorem getP_ok {b : List Nat} {p : Pr} (h : getP b = .inl p) : p.check.1 = 0 := by
  rw [getP_eq] at h
  unfold getG at h
  split at h
  · cases h
  · rw [getQ_eq] at h; exact getE_ok h
theorem gPr_len (b : List Nat) : (gPr b).cs.length ≤ 1000000000 ∧ (gPr b).code.length ≤ 1000000000 := by
  unfold gPr
  split
  · rename_i p h
    obtain ⟨_, _, h1, _, _, h2, _⟩ := form_ok (form_of_check (getP_ok h))
    omega
  · simp
def GetAll (b : List Nat) (w : World) (e : Ending) (w' : World) : Prop := Below w.heap.size w w' ∧ ∃ A1 A2 c1 c2, e = .returned (.tuple #[.agg #[.int .i64 (gPr b).args, .slice A1 (gPr b).cs.length c1, .slice A2 (gPr b).code.length c2], .int .i64 (gE b), .int .i64 (gAt b : Nat)]) ∧ OwnP (gPr b) w.heap.size w' A1 A2 c1 c2 ∧ ∀ v ∈ (gPr b).cs, v.s.size ≤ 9223372036854775806
theorem GetPost.all {b : List Nat} {w w' : World} {e : Ending} (h : GetPost b w e w') : GetAll b w e w' := by
  obtain ⟨hb, h⟩ := h
  refine ⟨hb, ?_⟩
  unfold gPr gE gAt
  cases hg : getP b with
  | inr x =>
    rw [hg] at h
    simp only at h ⊢
    exact ⟨none, none, 0, 0, h, ⟨World.ownsRow_nil _ _ _ _, World.ownsRow_nil _ _ _ _⟩, fun v hv => (by cases hv)⟩
  | inl p =>
    rw [hg] at h
    obtain ⟨A1, A2, c1, c2, he, h1, h2, h3⟩ := h
    exact ⟨A1, A2, c1, c2, he, ⟨h1, h2⟩, fun v hv => by have := h3 v hv; omega⟩
theorem get_all (S0 : Nat → Prop) (A0 : Option Addr) (c0 : Nat) (bs : List Nat) (w : World) (ha : Rd S0 w 1 A0 bs.length (bcells bs)) (hl : bs.length ≤ 1000000) (hb : ∀ x ∈ bs, x < 256) :
    Calls Try.prog 23 #[.slice A0 bs.length c0] w (GetAll bs w) := (get_any S0 A0 c0 bs w ha hl hb).mono fun _ _ h => h.all
theorem rget_all (S0 : Nat → Prop) (A0 : Option Addr) (c0 : Nat) (bs : List Nat) (w : World) (ha : Rd S0 w 1 A0 bs.length (bcells bs)) (hl : bs.length ≤ 1000000) (hb : ∀ x ∈ bs, x < 256) :
    Calls Try.prog 24 #[.slice A0 bs.length c0] w (GetAll bs w) := (rget_any S0 A0 c0 bs w ha hl hb).mono fun _ _ h => h.all
/-- a row of one type is as it was where a block of another type was written -/
theorem own_updT {w w' : World} {base : Nat} {e t : TypeId} {size n g : Nat} {v : Value} {xs : List Value} {cs : Array Value} (h : w.ownsRow base e size v n xs) (hu : Upd (fun k => k = g) w w') (hb : Blk w g t cs) (hne : e ≠ t) : w'.ownsRow base e size v n xs := by
  refine ⟨h.1, ?_⟩
  rcases h.2 with hn | ⟨g', cap, cur, rfl, hbb, hh, rest⟩
  · exact .inl hn
  · refine .inr ⟨g', cap, cur, rfl, hbb, (hu.block g' (Array.getElem?_eq_some_iff.1 hh).1 ?_).trans hh, rest⟩
    rintro rfl
    unfold Blk at hb
    rw [hh] at hb
    injection hb with hb
    injection hb with _ ht
    exact hne ht
/-- the beginning of a row of bytes -/
theorem Rd.front {S : Nat → Prop} {w : World} {A : Option Addr} {l m : List Nat} (h : Rd S w 1 A (l ++ m).length (bcells (l ++ m))) : Rd S w 1 A l.length (bcells l) := by
  refine ⟨by unfold bcells; simp, fun hn => ?_⟩
  obtain ⟨b, o, e, hS, hb, hx⟩ := h.2 (by rw [List.length_append]; omega)
  refine ⟨b, o, e, hS, hb, fun j u hu => hx j u ?_⟩
  unfold bcells at hu ⊢
  rw [List.map_append, List.getElem?_append_left (List.getElem?_eq_some_iff.1 hu).1]
  exact hu
end Go.Proofs.Ytbakfkhmopebnaa
