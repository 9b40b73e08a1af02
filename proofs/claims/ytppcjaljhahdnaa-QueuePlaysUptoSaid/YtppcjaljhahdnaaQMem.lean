/- Blocks written at a range; slices of numbers inside a block of one's own. -/
import Derived.Test.YtppcjaljhahdnaaQOwn
import Derived.ArgAppend
import Derived.Deep.Upon
namespace Go.Proofs.Ytppcjaljhahdnaa
open Go.RowKit
set_option linter.unusedVariables false

def writeAt (cs : Array Value) : Nat → List Value → Array Value
  | _, [] => cs
  | o, v :: r => writeAt (cs.setIfInBounds o v) (o + 1) r
theorem writeAt_size (vs : List Value) : ∀ (o : Nat) (cs : Array Value), (writeAt cs o vs).size = cs.size := by
  induction vs with
  | nil => intro o cs; rfl
  | cons v r ih => intro o cs; rw [writeAt, ih]; simp
theorem writeAt_get (vs : List Value) : ∀ (o : Nat) (cs : Array Value) (j : Nat), o + vs.length ≤ cs.size → (writeAt cs o vs)[j]? = if j < o then cs[j]? else if j < o + vs.length then vs[j - o]? else cs[j]? := by
  induction vs with
  | nil =>
    intro o cs j h
    simp only [writeAt, List.length_nil, Nat.add_zero]
    split
    · rfl
    · rfl
  | cons v r ih =>
    intro o cs j h
    simp only [List.length_cons] at h ⊢
    rw [writeAt, ih _ _ _ (by simp; omega)]
    by_cases h1 : j < o
    · rw [if_pos (by omega), if_pos h1]; simp [Array.getElem?_setIfInBounds]; omega
    · rw [if_neg h1]
      by_cases h2 : j = o
      · subst h2
        rw [if_pos (by omega), if_pos (by omega)]
        simp [Array.getElem?_setIfInBounds]; omega
      · rw [if_neg (by omega)]
        by_cases h3 : j < o + 1 + r.length
        · rw [if_pos h3, if_pos (by omega), show j - o = (j - (o + 1)) + 1 by omega]; simp
        · rw [if_neg h3, if_neg (by omega)]; simp [Array.getElem?_setIfInBounds]; omega
theorem Blk.setCells {g : Nat} {t : TypeId} (vs : List Value) : ∀ {w : World} {cs : Array Value} (o : Nat), Blk w g t cs → Blk (w.setCells g o vs) g t (writeAt cs o vs) := by
  induction vs with
  | nil => intro w cs o h; exact h
  | cons v r ih => intro w cs o h; exact ih (o + 1) (h.set_ o v)
theorem Upd.setCells {M : Nat → Prop} {w : World} {g : Nat} (vs : List Value) : ∀ {w' : World} (o : Nat), Upd M w w' → (g < w.heap.size → M g) → Upd M w (w'.setCells g o vs) := by
  induction vs with
  | nil => intro w' o h _; exact h
  | cons v r ih => intro w' o h hg; exact ih (o + 1) (h.setCell (p := ⟨g, o, none⟩) hg v) hg

/-- v is the numbers xs, in a block of its own -/
def TokAt (w : World) (v : Value) (xs : List Int) : Prop :=
  (v = .slice none 0 0 ∧ xs = []) ∨ ∃ g o cap cur, v = .slice (some ⟨g, o, none⟩) xs.length cap ∧ Blk w g 32 cur ∧ xs.length ≤ cap ∧ cap ≤ maxLen ∧ o + cap ≤ cur.size ∧ ∀ j (h : j < xs.length), cur[o + j]? = some (.int .u64 xs[j])
theorem TokAt.nil (w : World) : TokAt w (.slice none 0 0) [] := .inl ⟨rfl, rfl⟩
theorem TokAt.keep {w w' : World} {v : Value} {xs : List Int} (h : TokAt w v xs) (hk : ∀ b cs, v.ownBlock = some b → Blk w b 32 cs → w'.heap[b]? = w.heap[b]?) : TokAt w' v xs := by
  rcases h with h | ⟨g, o, cap, cur, rfl, hb, h1, h2, h3, h4⟩
  · exact .inl h
  · exact .inr ⟨g, o, cap, cur, rfl, (hk g cur rfl hb).trans hb, h1, h2, h3, h4⟩
theorem TokAt.upd {w w' : World} {v : Value} {xs : List Int} {M : Nat → Prop} (h : TokAt w v xs) (hu : Upd M w w') (hM : ∀ b, v.ownBlock = some b → ¬ M b) : TokAt w' v xs := h.keep fun b cs hb hk => hu.block b hk.lt (hM b hb)
theorem TokAt.lt {w : World} {v : Value} {xs : List Int} (h : TokAt w v xs) {b : Nat} (hb : v.ownBlock = some b) : b < w.heap.size := by
  rcases h with ⟨rfl, _⟩ | ⟨g, o, cap, cur, rfl, hk, _⟩
  · simp [Value.ownBlock] at hb
  · have : g = b := by simpa [Value.ownBlock] using hb
    exact this ▸ hk.lt
theorem TokAt.blk {w : World} {v : Value} {xs : List Int} (h : TokAt w v xs) {b : Nat} (hb : v.ownBlock = some b) : ∃ cs, Blk w b 32 cs := by
  rcases h with ⟨rfl, _⟩ | ⟨g, o, cap, cur, rfl, hk, _⟩
  · simp [Value.ownBlock] at hb
  · have : g = b := by simpa [Value.ownBlock] using hb
    exact ⟨cur, this ▸ hk⟩
theorem TokAt.form {w : World} {v : Value} {xs : List Int} (h : TokAt w v xs) : ∃ A c, v = .slice A xs.length c ∧ xs.length ≤ c ∧ c ≤ maxLen := by
  rcases h with ⟨rfl, rfl⟩ | ⟨g, o, cap, cur, rfl, _, h1, h2, _⟩
  · exact ⟨_, _, rfl, Nat.le_refl _, by simp [maxLen]⟩
  · exact ⟨_, _, rfl, h1, h2⟩
theorem TokAt.rd {w : World} {A : Option Addr} {c : Nat} {xs : List Int} (h : TokAt w (.slice A xs.length c) xs) : Rd (fun b => b < w.heap.size) w 1 A xs.length (xs.map (.int .u64)) := by
  rcases h with ⟨h, h0⟩ | ⟨g, o, cap, cur, h, hk, h1, h2, h3, h4⟩
  · subst h0; exact Rd.nil_
  · simp only [Value.slice.injEq] at h
    obtain ⟨rfl, _, _⟩ := h
    refine ⟨by simp, fun _ => ⟨g, o, rfl, hk.lt, hk.lt, fun j u hu => ?_⟩⟩
    have hj : j < xs.length := by have := (List.getElem?_eq_some_iff.1 hu).1; simpa using this
    rw [hk.cell, h4 j hj, ← hu]
    simp [hj]
theorem TokAt.of_own {w : World} {base : Nat} {v : Value} {xs : List Int} {n : Nat} (hn : n = xs.length) (h : w.ownsRow base 32 1 v n (xs.map (.int .u64))) : TokAt w v xs := by
  subst hn
  rcases h.2 with ⟨rfl, h0⟩ | ⟨g, cap, cur, rfl, _, hb, h1, h2, h3, h4⟩
  · exact .inl ⟨rfl, List.eq_nil_of_length_eq_zero h0⟩
  · refine .inr ⟨g, 0, cap, cur, rfl, hb, h1, h2, by omega, fun j hj => ?_⟩
    have e : (cur.toList.take (xs.length * 1))[j]? = (xs.map (Value.int .u64))[j]? := by rw [h4]
    rw [List.getElem?_take, if_pos (by omega)] at e
    simpa [hj] using e
/-- cut from d on -/
theorem TokAt.cut {w : World} {A : Option Addr} {c : Nat} {xs : List Int} (h : TokAt w (.slice A xs.length c) xs) (d : Nat) (hd : d ≤ xs.length) {B : Option Addr} (hB : ∀ g o, A = some ⟨g, o, none⟩ → B = some (if c = d then ⟨g, o, none⟩ else ⟨g, o + d, none⟩)) (hN : A = none → B = none) :
    TokAt w (.slice B (xs.length - d) (c - d)) (xs.drop d) := by
  rcases h with ⟨h, h0⟩ | ⟨g, o, cap, cur, h, hk, h1, h2, h3, h4⟩
  · subst h0
    simp only [Value.slice.injEq] at h
    obtain ⟨rfl, _, rfl⟩ := h
    rw [hN rfl]
    exact .inl ⟨by simp, by simp⟩
  · simp only [Value.slice.injEq] at h
    obtain ⟨rfl, _, rfl⟩ := h
    rw [hB g o rfl]
    right
    by_cases he : c = d
    · have : xs.drop d = [] := List.drop_eq_nil_of_le (by omega)
      refine ⟨g, o, c - d, cur, by rw [if_pos he, this]; simp; omega, hk, by rw [this]; simp, by omega, by omega, fun j hj => ?_⟩
      rw [this] at hj; simp at hj
    · refine ⟨g, o + d, c - d, cur, by rw [if_neg he, List.length_drop], hk, by simp; omega, by omega, by omega, fun j hj => ?_⟩
      simp only [List.length_drop] at hj
      rw [Nat.add_assoc, h4 (d + j) (by omega)]
      simp

theorem info_u64 : (Try.prog.info? 32).map (fun i => (i.zero, i.size, i.bytes)) = some (some (.int .u64 0), 1, 8) := by kernel_rfl
theorem nums_one (l : List Int) : ∀ u ∈ l.map (Value.int .u64), u.oneCell' = true := by
  intro u hu
  obtain ⟨_, _, rfl⟩ := List.mem_map.1 hu
  rfl

theorem run_tok_append (w : World) (v : Value) (xs : List Int) (h : TokAt w v xs) (G : Nat) (x : Int) (hG : w.cell? ⟨G, 0, none⟩ = some (.int .u64 x)) (hl : xs.length ≤ 1000000000) (ty : TypeId) :
    ∃ v' w', (Builtin.append_ #[61, 61] ty #[v, .slice (some ⟨G, 0, none⟩) 1 1]).run Try.prog w = .ok v' w' ∧ TokAt w' v' (xs ++ [x]) ∧ Upd (fun k => v.ownBlock = some k) w w' ∧ (∀ b, v'.ownBlock = some b → v.ownBlock = some b ∨ w.heap.size ≤ b) := by
  obtain ⟨i0, hi0, hz0, hz1, hz2⟩ := info_parts info_u64
  have hc1 : ∀ j u, ([Value.int .u64 x] : List Value)[j]? = some u → w.cell? ((⟨G, 0, none⟩ : Addr).add j) = some u := by
    intro j u hu
    have hj : j = 0 := by have := (List.getElem?_eq_some_iff.1 hu).1; simp at this; omega
    subst hj
    rw [Addr.add_lit]
    simpa [← hu] using hG
  rcases h with ⟨rfl, rfl⟩ | ⟨g, o, cap, cur, rfl, hk, h1, h2, h3, h4⟩
  · obtain ⟨v', w', hr, ho, hg, ha⟩ := run_append_rd (P := Try.prog) w 0 61 ty 32 i0 _ 1 8 Try.underlying61 hi0 hz0 hz1 hz2 rfl (by omega) (.slice none 0 0) 0 [] (World.ownsRow_nil _ _ _ _) (fun b => b = G) (some ⟨G, 0, none⟩) 1 1 [.int .u64 x]
      ⟨rfl, fun _ => ⟨G, 0, rfl, rfl, World.block_lt_of_cell? w _ hG, fun j u hu => by have := hc1 j u hu; rwa [Addr.add_lit] at this⟩⟩ (nums_one [x]) (by simp [maxLen]) (by omega) (Nat.zero_le _)
    exact ⟨v', w', hr, TokAt.of_own rfl ho, (Upd.refl _ w).grown hg fun k hk _ => hk, fun b hb => by
      rcases ha with ha | ha
      · exact .inl (ha ▸ hb)
      · rw [ha] at hb; injection hb with hb; exact .inr (by omega)⟩
  · by_cases hroom : xs.length + 1 ≤ cap
    · have hcc : cur.size ≥ o + xs.length + 1 := by omega
      have hr := run_append_room_cells (P := Try.prog) w 61 ty 32 i0 Try.underlying61 hi0 g o xs.length cap ⟨G, 0, none⟩ 1 1 [.int .u64 x] (by rw [hz1]; rfl) hc1 (nums_one [x]) hroom
        (fun j hj => by
          have : j = 0 := by simpa using hj
          subst this
          rw [hz1, hk.cell]; simp; omega) (fun j hj => hk.frozen _)
      rw [hz1, Nat.mul_one] at hr
      refine ⟨_, _, hr, .inr ⟨g, o, cap, _, by simp, Blk.setCells [.int .u64 x] (o + xs.length) hk, by simp; omega, h2, by rw [writeAt_size]; omega, fun j hj => ?_⟩, Upd.setCells [.int .u64 x] (o + xs.length) (Upd.refl _ w) (fun _ => rfl), fun b hb => .inl hb⟩
      simp only [List.length_append, List.length_cons, List.length_nil] at hj
      rw [writeAt_get _ _ _ _ (by simp; omega)]
      by_cases hj2 : j < xs.length
      · rw [if_pos (by omega), h4 j hj2, List.getElem_append_left hj2]
      · have : j = xs.length := by omega
        subst this
        rw [if_neg (by omega), if_pos (by simp)]
        simp
    · obtain ⟨v', w', hr, ho, hg⟩ := run_append_arg_grows (P := Try.prog) w 61 ty 32 i0 _ 1 8 Try.underlying61 hi0 hz0 hz1 hz2 rfl (by omega) ⟨g, o, none⟩ xs.length cap (xs.map (.int .u64)) (by simp)
        (fun j u hu => by
          have hj : j < xs.length := by have := (List.getElem?_eq_some_iff.1 hu).1; simpa using this
          rw [Addr.add_lit, hk.cell, h4 j hj, ← hu]; simp [hj]) ⟨G, 0, none⟩ 1 1 [.int .u64 x] rfl hc1 (by omega) (by simp only [maxLen]; omega) (by omega)
      refine ⟨v', w', hr, TokAt.of_own (n := xs.length + 1) (by simp) (by simpa using ho), (Upd.refl _ w).grown hg (fun k hk _ => by cases hk), fun b hb => .inr (ho.lt b hb).1⟩

end Go.Proofs.Ytppcjaljhahdnaa
