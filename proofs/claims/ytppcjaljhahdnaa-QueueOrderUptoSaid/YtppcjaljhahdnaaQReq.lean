/- Requests in a block of one's own: what is owed; find. -/
import Derived.Test.YtppcjaljhahdnaaQOnce
namespace Go.Proofs.Ytppcjaljhahdnaa
open Go.RowKit
set_option linter.unusedVariables false
set_option linter.unusedSimpArgs false

/-- v is the requests l, in a block of its own -/
def ReqAt (w : World) (v : Value) (l : List RP) : Prop :=
  (v = .slice none 0 0 ∧ l = []) ∨ ∃ g o cap cur, v = .slice (some ⟨g, o, none⟩) l.length cap ∧ Blk w g 35 cur ∧ l.length ≤ cap ∧ cap ≤ maxLen ∧ o + cap * 4 ≤ cur.size ∧ ∀ j u, (rqcells l)[j]? = some u → cur[o + j]? = some u
theorem rqcells_len (l : List RP) : (rqcells l).length = l.length * 4 := by
  induction l with
  | nil => rfl
  | cons r l ih => simp only [rqcells, List.flatMap_cons, List.length_append, List.length_cons] at *; rw [ih]; simp [rcells]; omega
theorem rqcells_app (l m : List RP) : rqcells (l ++ m) = rqcells l ++ rqcells m := by simp [rqcells]
theorem rqcells_one (l : List RP) : ∀ u ∈ rqcells l, u.oneCell' = true := by
  intro u hu
  obtain ⟨r, _, hr⟩ := List.mem_flatMap.1 hu
  exact rcells_one r u hr
theorem ReqAt.nil (w : World) : ReqAt w (.slice none 0 0) [] := .inl ⟨rfl, rfl⟩
theorem ReqAt.upd {w w' : World} {v : Value} {l : List RP} {M : Nat → Prop} (h : ReqAt w v l) (hu : Upd M w w') (hM : ∀ b, v.ownBlock = some b → ¬ M b) : ReqAt w' v l := by
  rcases h with h | ⟨g, o, cap, cur, rfl, hb, h1, h2, h3, h4⟩
  · exact .inl h
  · exact .inr ⟨g, o, cap, cur, rfl, hb.upd hu (hM g rfl), h1, h2, h3, h4⟩
theorem ReqAt.below {w w' : World} {v : Value} {l : List RP} (h : ReqAt w v l) (hb : Below w.heap.size w w') : ReqAt w' v l := h.upd (.of_below' hb Nil) fun _ _ => id
theorem ReqAt.lt {w : World} {v : Value} {l : List RP} (h : ReqAt w v l) {b : Nat} (hb : v.ownBlock = some b) : b < w.heap.size := by
  rcases h with ⟨rfl, _⟩ | ⟨g, o, cap, cur, rfl, hk, _⟩
  · simp [Value.ownBlock] at hb
  · have : g = b := by simpa [Value.ownBlock] using hb
    exact this ▸ hk.lt
theorem ReqAt.form {w : World} {v : Value} {l : List RP} (h : ReqAt w v l) : ∃ A c, v = .slice A l.length c ∧ l.length ≤ c ∧ c ≤ maxLen := by
  rcases h with ⟨rfl, rfl⟩ | ⟨g, o, cap, cur, rfl, _, h1, h2, _⟩
  · exact ⟨_, _, rfl, Nat.le_refl _, by simp [maxLen]⟩
  · exact ⟨_, _, rfl, h1, h2⟩
theorem ReqAt.rd {w : World} {A : Option Addr} {c : Nat} {l : List RP} (h : ReqAt w (.slice A l.length c) l) : Rd (fun b => b < w.heap.size) w 4 A l.length (rqcells l) := by
  rcases h with ⟨h, h0⟩ | ⟨g, o, cap, cur, h, hk, h1, h2, h3, h4⟩
  · subst h0; exact Rd.nil_
  · simp only [Value.slice.injEq] at h
    obtain ⟨rfl, _, _⟩ := h
    exact ⟨rqcells_len l, fun _ => ⟨g, o, rfl, hk.lt, hk.lt, fun j u hu => (hk.cell _).trans (h4 j u hu)⟩⟩
theorem ReqAt.of_own {w : World} {base : Nat} {v : Value} {l : List RP} {n : Nat} (hn : n = l.length) (h : w.ownsRow base 35 4 v n (rqcells l)) : ReqAt w v l := by
  subst hn
  rcases h.2 with ⟨rfl, h0⟩ | ⟨g, cap, cur, rfl, _, hb, h1, h2, h3, h4⟩
  · exact .inl ⟨rfl, List.eq_nil_of_length_eq_zero h0⟩
  · refine .inr ⟨g, 0, cap, cur, rfl, hb, h1, h2, by omega, fun j u hu => ?_⟩
    rw [← h4, List.getElem?_take] at hu
    split at hu
    · simpa using hu
    · cases hu
/-- the first one goes: l[1:] -/
theorem ReqAt.tail {w : World} {g o c : Nat} {r : RP} {l : List RP} (h : ReqAt w (.slice (some ⟨g, o, none⟩) (l.length + 1) c) (r :: l)) :
    ReqAt w (.slice (if c = 1 then some ⟨g, o, none⟩ else some ⟨g, o + 4, none⟩) l.length (c - 1)) l := by
  rcases h with ⟨_, h0⟩ | ⟨g', o', cap, cur, h, hk, h1, h2, h3, h4⟩
  · cases h0
  · simp only [Value.slice.injEq, Option.some.injEq, Addr.mk.injEq, and_true] at h
    obtain ⟨⟨rfl, rfl⟩, _, rfl⟩ := h
    simp only [List.length_cons] at h1
    have hcells : ∀ j u, (rqcells l)[j]? = some u → cur[o + 4 + j]? = some u := fun j u hu => by
      have := h4 (4 + j) u (by rw [show rqcells (r :: l) = rcells r ++ rqcells l from rfl, List.getElem?_append_right (by simp [rcells])]; simpa [rcells] using hu)
      rwa [← Nat.add_assoc] at this
    by_cases hc : c = 1
    · have hl : l = [] := List.eq_nil_of_length_eq_zero (by omega)
      subst hl
      rw [if_pos hc]
      exact .inr ⟨g, o, c - 1, cur, rfl, hk, by simp, by omega, by omega, fun j u hu => by simp [rqcells] at hu⟩
    · rw [if_neg hc]
      exact .inr ⟨g, o + 4, c - 1, cur, rfl, hk, by omega, by omega, by omega, hcells⟩

theorem run_req_append (w : World) (v : Value) (l : List RP) (h : ReqAt w v l) (G : Nat) (r : RP) (hG : Rd (fun b => b = G) w 4 (some ⟨G, 0, none⟩) 1 (rcells r)) (hl : l.length ≤ 1000000000) (ty : TypeId) :
    ∃ v' w', (Builtin.append_ #[52, 52] ty #[v, .slice (some ⟨G, 0, none⟩) 1 1]).run Try.prog w = .ok v' w' ∧ ReqAt w' v' (l ++ [r]) ∧ Upd (fun k => v.ownBlock = some k) w w' ∧ (∀ b, v'.ownBlock = some b → v.ownBlock = some b ∨ w.heap.size ≤ b) := by
  obtain ⟨i0, hi0, hz0, hz1, hz2⟩ := info_parts info_req
  have hrl : (rcells r).length = 4 := rfl
  have happ : rqcells (l ++ [r]) = rqcells l ++ rcells r := by rw [rqcells_app]; simp [rqcells]
  have hc1 : ∀ j u, (rcells r)[j]? = some u → w.cell? ((⟨G, 0, none⟩ : Addr).add j) = some u := by
    intro j u hu
    obtain ⟨b, o, e, _, _, hc⟩ := hG.2 (by omega)
    simp only [Option.some.injEq, Addr.mk.injEq, and_true] at e
    obtain ⟨rfl, rfl⟩ := e
    rw [Addr.add_lit]
    exact hc j u hu
  rcases h with ⟨rfl, rfl⟩ | ⟨g, o, cap, cur, rfl, hk, h1, h2, h3, h4⟩
  · obtain ⟨v', w', hr, ho, hg, ha⟩ := run_append_rd (P := Try.prog) w 0 52 ty 35 i0 _ 4 56 Try.underlying52 hi0 hz0 hz1 hz2 rfl (by omega) (.slice none 0 0) 0 [] (World.ownsRow_nil _ _ _ _) (fun b => b = G) (some ⟨G, 0, none⟩) 1 1 (rcells r) hG (rcells_one r) (by simp [maxLen]) (by omega) (Nat.zero_le _)
    refine ⟨v', w', hr, ReqAt.of_own (n := 1) rfl (by simpa [rqcells] using ho), (Upd.refl _ w).grown hg fun k hk _ => hk, fun b hb => ?_⟩
    rcases ha with ha | ha
    · exact .inl (ha ▸ hb)
    · rw [ha] at hb; injection hb with hb; exact .inr (by omega)
  · by_cases hroom : l.length + 1 ≤ cap
    · have hr := run_append_room_cells (P := Try.prog) w 52 ty 35 i0 Try.underlying52 hi0 g o l.length cap ⟨G, 0, none⟩ 1 1 (rcells r) (by rw [hz1]; rfl) hc1 (rcells_one r) hroom
        (fun j hj => by
          rw [hrl] at hj
          rw [hz1, hk.cell]; simp; omega) (fun j hj => hk.frozen _)
      rw [hz1] at hr
      refine ⟨_, _, hr, .inr ⟨g, o, cap, _, by simp, Blk.setCells (rcells r) (o + l.length * 4) hk, by simp; omega, h2, by rw [writeAt_size]; omega, fun j u hu => ?_⟩, Upd.setCells (rcells r) (o + l.length * 4) (Upd.refl _ w) (fun _ => rfl), fun b hb => .inl hb⟩
      rw [writeAt_get _ _ _ _ (by rw [hrl]; omega), hrl]
      rw [happ] at hu
      have hj : j < (rqcells l ++ rcells r).length := (List.getElem?_eq_some_iff.1 hu).1
      rw [List.length_append, rqcells_len, hrl] at hj
      by_cases hj2 : j < l.length * 4
      · rw [if_pos (by omega)]
        rw [List.getElem?_append_left (by rw [rqcells_len]; exact hj2)] at hu
        exact h4 j u hu
      · rw [if_neg (by omega), if_pos (by omega)]
        rw [List.getElem?_append_right (by rw [rqcells_len]; omega), rqcells_len] at hu
        rw [show o + j - (o + l.length * 4) = j - l.length * 4 by omega]
        exact hu
    · obtain ⟨v', w', hr, ho, hg⟩ := run_append_arg_grows (P := Try.prog) w 52 ty 35 i0 _ 4 56 Try.underlying52 hi0 hz0 hz1 hz2 rfl (by omega) ⟨g, o, none⟩ l.length cap (rqcells l) (rqcells_len l)
        (fun j u hu => by rw [Addr.add_lit]; exact (hk.cell _).trans (h4 j u hu)) ⟨G, 0, none⟩ 1 1 (rcells r) rfl hc1 (by omega) (by simp only [maxLen]; omega) (by omega)
      exact ⟨v', w', hr, ReqAt.of_own (n := l.length + 1) (by simp) (by rw [happ]; exact ho), (Upd.refl _ w).grown hg (fun k hk _ => by cases hk), fun b hb => .inr (ho.lt b hb).1⟩

theorem req_at {S : Nat → Prop} {w : World} {A : Option Addr} {l : List RP} (h : Rd S w 4 A l.length (rqcells l)) {k : Nat} (hk : k < l.length) : ∃ b o, A = some ⟨b, o, none⟩ ∧ S b ∧ b < w.heap.size ∧
    w.cell? ⟨b, o + k * 4, none⟩ = some (.int .i64 l[k].p.cl) ∧ w.cell? ⟨b, o + k * 4 + 1, none⟩ = some (.int .u64 l[k].p.tok) ∧ w.cell? ⟨b, o + k * 4 + 2, none⟩ = some (.string l[k].p.nm) := by
  obtain ⟨b, o, e, hS, hl, hc⟩ := h.at_ hk
  have g := fun j (hj : j < 4) u (hu : (rcells l[k])[j]? = some u) => hc (k * 4 + j) u (by rw [rqcells_at l k j hk hj]; exact hu)
  simp only [← Nat.add_assoc] at g
  exact ⟨b, o, e, hS, hl, g 0 (by omega) _ rfl, g 1 (by omega) _ rfl, g 2 (by omega) _ rfl⟩
theorem find_any (S : Nat → Prop) (A : Option Addr) (cc : Nat) (l : List RP) (c t : Int) (w : World) (ha : Rd S w 4 A l.length (rqcells l)) (hl : l.length ≤ 1000000000) :
    Calls Try.prog 22 #[.slice A l.length cc, .int .i64 c, .int .u64 t] w fun e w' => e = .returned (.int .i64 (idxP c t (plans l) 0)) ∧ w' = w := by
  go_enter Try.func22, Try.ntmps22
  go_wp2_with fail
  go_loopw [7] (fun i wr => ∃ k : Nat, k ≤ l.length ∧ i = .int .i64 k ∧ wr = w ∧ ∀ j (h : j < l.length), j < k → isP c t l[j].p = false) (fun i _ => l.length - (intOf i).toNat)
  case atStart => exact ⟨0, Nat.zero_le _, rfl, rfl, fun j _ h => absurd h (by omega)⟩
  case round =>
    obtain ⟨k, hk, rfl, rfl, hne0⟩ := hrel
    have hne := hid hne0
    clear hne0
    by_cases hlt : k < l.length
    · obtain ⟨b, o, rfl, _, hbl, f0, f1, _⟩ := req_at ha hlt
      have i1 : (k : Int) < (l.length : Int) := by omega
      cases hP : isP c t l[k].p with
      | true =>
        have hP' := hid hP
        unfold isP at hP
        simp only [Bool.and_eq_true] at hP
        obtain ⟨e1, e2⟩ := hP
        go_wp2_with fail
        go_ret
        refine ⟨?_, rfl⟩
        rw [idxP_some (m := k) (by simpa [plans] using hlt) (fun j hj hjk => by simpa [plans] using hne.out j (by simpa [plans] using hj) hjk) (by simpa [plans] using hP'.out), Nat.zero_add]; rfl
      | false =>
        have hP' := hid hP
        by_cases e1 : l[k].p.cl = c
        · have d1 : (l[k].p.cl == c) = true := by simpa using e1
          have d2 : (l[k].p.tok == t) = false := by unfold isP at hP; rw [d1] at hP; simpa using hP
          clear hP e1
          go_wp2_with fail
          go_roundw
          case rel =>
            refine ⟨k + 1, by omega, by go_num, by simp, fun j h hj => ?_⟩
            rcases Nat.lt_or_ge j k with g | g
            · exact hne.out j h g
            · obtain rfl : j = k := by omega
              exact hP'.out
          case measure => simp [intOf]; omega
        · have d1 : (l[k].p.cl == c) = false := by simpa using e1
          clear hP e1
          go_wp2_with fail
          go_roundw
          case rel =>
            refine ⟨k + 1, by omega, by go_num, by simp, fun j h hj => ?_⟩
            rcases Nat.lt_or_ge j k with g | g
            · exact hne.out j h g
            · obtain rfl : j = k := by omega
              exact hP'.out
          case measure => simp [intOf]; omega
    · obtain rfl : k = l.length := by omega
      go_wp2_with fail
      go_ret
      exact ⟨by rw [idxP_none fun j hj => by simpa [plans] using hne.out j (by simpa [plans] using hj) (by simpa [plans] using hj)]; rfl, rfl⟩

end Go.Proofs.Ytppcjaljhahdnaa
