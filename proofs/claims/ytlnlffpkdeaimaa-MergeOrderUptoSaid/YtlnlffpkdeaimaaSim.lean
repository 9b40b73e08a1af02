/- Merge and the document's Merge, step by step: the same codes, the same batches held. -/
import Derived.Test.YtlnlffpkdeaimaaSmall
import Derived.Test.YtlnlffpkdeaimaaRArrive
import Derived.Test.YtlnlffpkdeaimaaLong
namespace Go.Proofs.Ytlnlffpkdeaimaa
open Go.RowKit
set_option linter.unusedVariables false

/-- what Arrive answers, and what is held then -/
def arrBad (n t x : Int) : Bool := decide (t < 0 ∨ n ≤ t ∨ x < 0)
def arrCode (n e s : Int) (L : List ((Int × Int) × List Pl)) (x t : Int) (ps : List Pl) : Int :=
  if arrBad n t x = true then 2 else if toldB e s x t = true then 132 else if 64 ≤ x - e then 131 else
    match getA (x, t) L with
    | some qs => codeIf (eqL qs ps)
    | none => 0
def arrHeld (n e s : Int) (L : List ((Int × Int) × List Pl)) (x t : Int) (ps : List Pl) : List ((Int × Int) × List Pl) :=
  if arrBad n t x = true then L else if toldB e s x t = true then L else if 64 ≤ x - e then L else
    match getA (x, t) L with
    | some _ => L
    | none => L ++ [((x, t), ps)]

/-- Arrive has answered -/
def ArrM (w : World) (g mb : Nat) (n e s x t : Int) (H : List ((Int × Int) × HV)) (ps : List Pl) (r : Ending) (w' : World) : Prop :=
  ∃ H', r = .returned (.int .i64 (arrCode n e s (held H) x t ps)) ∧ MergeAt w' g mb n e s H' ∧ held H' = arrHeld n e s (held H) x t ps ∧ (∀ h ∈ H', h ∈ H ∨ ∀ k, h.2.S k → w.heap.size ≤ k) ∧ Upd (fun k => k = mb) w w'
def ArrR (w : World) (S : Nat → Prop) (g : Nat) (n e s x t : Int) (L : List ((Int × Int) × HV)) (ps : List Pl) (r : Ending) (w' : World) : Prop :=
  ∃ S' AL' cL' L', r = .returned (.int .i64 (arrCode n e s (held L) x t ps)) ∧ RAt S' w' g n e s AL' cL' L' ∧ held L' = arrHeld n e s (held L) x t ps ∧ (∀ k, S' k → S k ∨ w.heap.size ≤ k) ∧ Upd (fun k => k = g ∨ S k) w w'

theorem arrive_all (S : Nat → Prop) (g mb : Nat) (n e s x t : Int) (H : List ((Int × Int) × HV)) (A : Option Addr) (c : Nat) (rs : List RP) (w : World) (h : MergeAt w g mb n e s H) (he : 0 ≤ e) (hx9 : x ≤ 9223372036854775807)
    (ha : PlansOk S w A rs) (hl : rs.length ≤ 1000000000) (hfit : ∀ r ∈ rs, r.p.fits) :
    Calls Try.prog 11 #[.pointer (some ⟨g, 0, none⟩), .int .i64 t, .agg #[.int .i64 x, .slice A rs.length c]] w (ArrM w g mb n e s x t H (plans rs)) := by
  have keep : ∀ (v : Int), arrCode n e s (held H) x t (plans rs) = v → arrHeld n e s (held H) x t (plans rs) = held H → ∀ r w', (r = .returned (.int .i64 v) ∧ Below w.heap.size w w') → ArrM w g mb n e s x t H (plans rs) r w' := by
    rintro v h1 h2 r w' ⟨rfl, hb⟩
    exact ⟨H, by rw [h1], h.below hb, h2.symm, fun h hh => .inl hh, .of_below' hb _⟩
  by_cases h1 : t < 0
  · have hb : arrBad n t x = true := by simp [arrBad, h1]
    exact (arrive_neg S g mb n e s x t H A c rs w h he hx9 h1).mono (keep 2 (by simp [arrCode, hb]) (by simp [arrHeld, hb]))
  by_cases h2 : n ≤ t
  · have hb : arrBad n t x = true := by simp [arrBad, h2]
    exact (arrive_big S g mb n e s x t H A c rs w h he hx9 (by omega) h2).mono (keep 2 (by simp [arrCode, hb]) (by simp [arrHeld, hb]))
  by_cases h3 : x < 0
  · have hb : arrBad n t x = true := by simp [arrBad, h3]
    exact (arrive_epoch S g mb n e s x t H A c rs w h he hx9 (by omega) (by omega) h3).mono (keep 2 (by simp [arrCode, hb]) (by simp [arrHeld, hb]))
  have hb : arrBad n t x = false := by simp [arrBad]; omega
  cases h4 : toldB e s x t with
  | true => exact (arrive_old S g mb n e s x t H A c rs w h he hx9 (by omega) (by omega) (by omega) h4).mono (keep 132 (by simp [arrCode, hb, h4]) (by simp [arrHeld, hb, h4]))
  | false =>
    by_cases h5 : 64 ≤ x - e
    · exact (arrive_far S g mb n e s x t H A c rs w h he hx9 (by omega) (by omega) (by omega) h4 h5).mono (keep 131 (by simp [arrCode, hb, h4, h5]) (by simp [arrHeld, hb, h4, h5]))
    · cases h6 : getA (x, t) H with
      | some hv =>
        have h7 : getA (x, t) (held H) = some (plans hv.rs) := by rw [getA_held, h6]; rfl
        exact (arrive_there S g mb n e s x t H A c rs w h he hx9 ha hl hfit (by omega) (by omega) (by omega) h4 h5 hv h6).mono (keep _ (by simp [arrCode, hb, h4, h5, h7]) (by simp [arrHeld, hb, h4, h5, h7]))
      | none =>
        have h7 : getA (x, t) (held H) = none := by rw [getA_held, h6]; rfl
        refine (arrive_new S g mb n e s x t H A c rs w h he hx9 ha hl hfit (by omega) (by omega) (by omega) h4 h5 h6).mono ?_
        rintro r w' ⟨hv, ⟨hp, hS⟩, rfl, hM, hu⟩
        refine ⟨H ++ [((x, t), hv)], ?_, hM, ?_, ?_, hu⟩
        · simp [arrCode, hb, h4, h5, h7]
        · have e1 : held (H ++ [((x, t), hv)]) = held H ++ [((x, t), plans hv.rs)] := by simp [held]
          rw [e1, hp]; simp [arrHeld, hb, h4, h5, h7]
        · intro h hh
          rcases List.mem_append.1 hh with hh | hh
          · exact .inl hh
          · obtain rfl := List.mem_singleton.1 hh
            exact .inr hS

theorem rarrive_all (S0 S : Nat → Prop) (g : Nat) (n e s x t : Int) (AL : Option Addr) (cL : Nat) (L : List ((Int × Int) × HV)) (A : Option Addr) (c : Nat) (rs : List RP) (w : World) (h : RAt S w g n e s AL cL L) (hL : L.length ≤ 1000000) (he : 0 ≤ e) (hx9 : x ≤ 9223372036854775807)
    (ha : PlansOk S0 w A rs) (hl : rs.length ≤ 1000000000) (hfit : ∀ r ∈ rs, r.p.fits) :
    Calls Try.prog 20 #[.pointer (some ⟨g, 0, none⟩), .int .i64 t, .agg #[.int .i64 x, .slice A rs.length c]] w (ArrR w S g n e s x t L (plans rs)) := by
  have keep : ∀ (v : Int), arrCode n e s (held L) x t (plans rs) = v → arrHeld n e s (held L) x t (plans rs) = held L → ∀ r w', (r = .returned (.int .i64 v) ∧ Below w.heap.size w w') → ArrR w S g n e s x t L (plans rs) r w' := by
    rintro v h1 h2 r w' ⟨rfl, hb⟩
    exact ⟨S, AL, cL, L, by rw [h1], h.below hb, h2.symm, fun k hk => .inl hk, .of_below' hb _⟩
  by_cases h1 : t < 0
  · have hb : arrBad n t x = true := by simp [arrBad, h1]
    exact (rarrive_neg S0 S g n e s x t AL cL L A c rs w h hL he hx9 h1).mono (keep 2 (by simp [arrCode, hb]) (by simp [arrHeld, hb]))
  by_cases h2 : n ≤ t
  · have hb : arrBad n t x = true := by simp [arrBad, h2]
    exact (rarrive_big S0 S g n e s x t AL cL L A c rs w h hL he hx9 (by omega) h2).mono (keep 2 (by simp [arrCode, hb]) (by simp [arrHeld, hb]))
  by_cases h3 : x < 0
  · have hb : arrBad n t x = true := by simp [arrBad, h3]
    exact (rarrive_epoch S0 S g n e s x t AL cL L A c rs w h hL he hx9 (by omega) (by omega) h3).mono (keep 2 (by simp [arrCode, hb]) (by simp [arrHeld, hb]))
  have hb : arrBad n t x = false := by simp [arrBad]; omega
  by_cases h4a : x < e
  · have h4 : toldB e s x t = true := by simp [toldB, h4a]
    exact (rarrive_old1 S0 S g n e s x t AL cL L A c rs w h hL he hx9 (by omega) (by omega) (by omega) h4a).mono (keep 132 (by simp [arrCode, hb, h4]) (by simp [arrHeld, hb, h4]))
  by_cases h4b : x = e ∧ t < s
  · have h4 : toldB e s x t = true := by simp [toldB, h4b]
    exact (rarrive_old2 S0 S g n e s x t AL cL L A c rs w h hL he hx9 (by omega) (by omega) (by omega) h4b.1 h4b.2).mono (keep 132 (by simp [arrCode, hb, h4]) (by simp [arrHeld, hb, h4]))
  have h4 : toldB e s x t = false := by simp [toldB]; omega
  have split : e < x ∨ x = e ∧ ¬ t < s := by omega
  by_cases h5 : 64 ≤ x - e
  · have k := keep 131 (by simp [arrCode, hb, h4, h5]) (by simp [arrHeld, hb, h4, h5])
    rcases split with hs | ⟨hs, hs2⟩
    · exact (rarrive_far_a S0 S g n e s x t AL cL L A c rs w h hL he hx9 (by omega) (by omega) (by omega) hs h5).mono k
    · exact (rarrive_far_b S0 S g n e s x t AL cL L A c rs w h hL he hx9 (by omega) (by omega) (by omega) hs hs2 h5).mono k
  · cases h6 : getA (x, t) L with
    | some hv =>
      have h7 : getA (x, t) (held L) = some (plans hv.rs) := by rw [getA_held, h6]; rfl
      have k := keep _ (show arrCode n e s (held L) x t (plans rs) = codeIf (eqL (plans hv.rs) (plans rs)) by simp [arrCode, hb, h4, h5, h7]) (by simp [arrHeld, hb, h4, h5, h7])
      rcases split with hs | ⟨hs, hs2⟩
      · exact (rarrive_there_a S0 S g n e s x t AL cL L A c rs w h hL he hx9 ha hl hfit (by omega) (by omega) (by omega) hs h5 hv h6).mono k
      · exact (rarrive_there_b S0 S g n e s x t AL cL L A c rs w h hL he hx9 ha hl hfit (by omega) (by omega) (by omega) hs hs2 h5 hv h6).mono k
    | none =>
      have h7 : getA (x, t) (held L) = none := by rw [getA_held, h6]; rfl
      have k : ∀ r w', (∃ (hv : HV) (S' : Nat → Prop) (AL' : Option Addr) (cL' : Nat), (plans hv.rs = plans rs ∧ ∀ k, S' k → S k ∨ w.heap.size ≤ k) ∧ r = .returned (.int .i64 0) ∧ RAt S' w' g n e s AL' cL' (L ++ [((x, t), hv)]) ∧ Upd (fun k => k = g ∨ S k) w w') → ArrR w S g n e s x t L (plans rs) r w' := by
        rintro r w' ⟨hv, S', AL', cL', ⟨hp, hS⟩, rfl, hR, hu⟩
        refine ⟨S', AL', cL', L ++ [((x, t), hv)], ?_, hR, ?_, hS, hu⟩
        · simp [arrCode, hb, h4, h5, h7]
        · have e1 : held (L ++ [((x, t), hv)]) = held L ++ [((x, t), plans hv.rs)] := by simp [held]
          rw [e1, hp]; simp [arrHeld, hb, h4, h5, h7]
      rcases split with hs | ⟨hs, hs2⟩
      · exact (rarrive_new_a S0 S g n e s x t AL cL L A c rs w h hL he hx9 ha hl hfit (by omega) (by omega) (by omega) hs h5 h6).mono k
      · exact (rarrive_new_b S0 S g n e s x t AL cL L A c rs w h hL he hx9 ha hl hfit (by omega) (by omega) (by omega) hs hs2 h5 h6).mono k

theorem delA_held (k : Int × Int) (H : List ((Int × Int) × HV)) : held (delA k H) = delA k (held H) := by
  induction H with
  | nil => rfl
  | cons p l ih =>
    by_cases h : k = p.1
    · simp [held, delA, h]
    · simp only [held, List.map_cons, delA, h, if_false] at ih ⊢
      rw [ih]
theorem missL_held (e : Int) (H : List ((Int × Int) × HV)) (s : Int) (k : Nat) : missL e H s k = missL e (held H) s k := by
  induction k with
  | zero => rfl
  | succ k ih =>
    simp only [missL, ih, getA_held]
    cases getA (e, s + k) H <;> rfl
theorem missL_held' {e : Int} {H L : List ((Int × Int) × HV)} (h : held H = held L) (s : Int) (k : Nat) : missL e H s k = missL e L s k := by
  rw [missL_held, missL_held e L, h]

/-- the two as they stand before act i -/
structure Sim (W : World) (n : Int) (g mb gR : Nat) (i : Nat) (e s : Int) (H : List ((Int × Int) × HV)) (S : Nat → Prop) (AL : Option Addr) (cL : Nat) (L : List ((Int × Int) × HV)) (wr : World) : Prop where
  m : MergeAt wr g mb n e s H
  r : RAt S wr gR n e s AL cL L
  eq : held H = held L
  e0 : 0 ≤ e
  ei : e ≤ i
  s0 : 0 ≤ s
  sn : s < n
  n16 : n ≤ 16
  len : L.length ≤ i
  new : W.heap.size ≤ g ∧ W.heap.size ≤ mb ∧ W.heap.size ≤ gR
  newH : ∀ h ∈ H, ∀ k, h.2.S k → W.heap.size ≤ k ∧ ¬ S k ∧ k ≠ gR
  newS : ∀ k, S k → W.heap.size ≤ k ∧ k ≠ g ∧ k ≠ mb
  below : Below W.heap.size W wr
theorem Sim.blks {W : World} {n : Int} {g mb gR : Nat} {i : Nat} {e s : Int} {H : List ((Int × Int) × HV)} {S : Nat → Prop} {AL : Option Addr} {cL : Nat} {L : List ((Int × Int) × HV)} {wr : World} (h : Sim W n g mb gR i e s H S AL cL L wr) : g ≠ gR ∧ mb ≠ gR ∧ g ≠ mb :=
  ⟨h.m.blk.ne_ h.r.blk (by decide), h.m.map.ne_blk h.r.blk, fun e => h.m.map.ne_blk h.m.blk e.symm⟩
theorem Sim.step {W : World} {n : Int} {g mb gR : Nat} {i : Nat} {e s : Int} {H : List ((Int × Int) × HV)} {S : Nat → Prop} {AL : Option Addr} {cL : Nat} {L : List ((Int × Int) × HV)} {wr w' : World} (h : Sim W n g mb gR i e s H S AL cL L wr) (hb : Below wr.heap.size wr w') : Sim W n g mb gR i e s H S AL cL L w' :=
  { h with m := h.m.below hb, r := h.r.below hb, below := h.below.trans (hb.mono h.below.size) }

end Go.Proofs.Ytlnlffpkdeaimaa
