/- QueueOnce: the walk of the law. -/
import Derived.Test.YtppcjaljhahdnaaQCancel
import Derived.Test.YtppcjaljhahdnaaQBounds
namespace Go.Proofs.Ytppcjaljhahdnaa
open Go.RowKit
set_option linter.unusedVariables false
set_option linter.unusedSimpArgs false

def rcells (r : RP) : List Value := [.int .i64 r.p.cl, .int .u64 r.p.tok, .string r.p.nm, .slice r.A1 r.p.args.length r.c1]
def rqcells (l : List RP) : List Value := l.flatMap rcells
theorem rcells_one (r : RP) : ∀ u ∈ rcells r, u.oneCell' = true := by
  intro u hu
  simp only [rcells, List.mem_cons, List.not_mem_nil, or_false] at hu
  rcases hu with h | h | h | h <;> subst h <;> rfl
theorem info_req : (Try.prog.info? 35).map (fun i => (i.zero, i.size, i.bytes)) = some (some (.agg #[.int .i64 0, .int .u64 0, .string ⟨#[]⟩, .slice none 0 0]), 4, 56) := by kernel_rfl
theorem own_keep {M : Nat → Prop} {w w' : World} {base : Nat} {e : TypeId} {size n : Nat} {v : Value} {xs : List Value} (h : w.ownsRow base e size v n xs) (hu : Upd M w w') (hM : ∀ b, v.ownBlock = some b → ¬ M b) : w'.ownsRow base e size v n xs := by
  refine ⟨h.1, ?_⟩
  rcases h.2 with hn | ⟨g, cap, cur, rfl, hg, hh, rest⟩
  · exact .inl hn
  · exact .inr ⟨g, cap, cur, rfl, hg, (hu.block g (Array.getElem?_eq_some_iff.1 hh).1 (hM g rfl)).trans hh, rest⟩

/-- the tokens of a client's admissions -/
def toksOf (c : Int) (l : List RP) : List Int := (l.filter fun r => decide (r.p.cl = c)).map fun r => r.p.tok
def lastN (n : Nat) (l : List Int) : List Int := l.drop (l.length - n)
theorem lastN_snoc (n : Nat) (l : List Int) (t : Int) : (lastN n l ++ [t]).drop ((lastN n l).length + 1 - n) = lastN n (l ++ [t]) := by
  unfold lastN
  rw [List.length_drop, List.length_append, List.length_singleton]
  rcases Nat.lt_or_ge l.length n with h | h
  · rw [show l.length - n = 0 by omega, List.drop_zero, show l.length - 0 + 1 - n = l.length + 1 - n by omega]
  · have e : l.drop (l.length - n) ++ [t] = (l ++ [t]).drop (l.length - n) := by rw [List.drop_append_of_le_length (by omega)]
    rw [e, List.drop_drop]
    congr 1; omega
theorem lastN_mem {n : Nat} {a b : List Int} {t : Int} (h : b.length + 1 ≤ n) : t ∈ lastN n (a ++ t :: b) := by
  unfold lastN
  rw [List.length_append, List.length_cons]
  rcases Nat.lt_or_ge (a.length + (b.length + 1)) n with h1 | h1
  · rw [show a.length + (b.length + 1) - n = 0 by omega, List.drop_zero]; simp
  · rw [List.drop_append_of_le_length (by omega)]; simp
theorem toksOf_snoc (c : Int) (l : List RP) (r : RP) : toksOf c (l ++ [r]) = if r.p.cl = c then toksOf c l ++ [r.p.tok] else toksOf c l := by
  unfold toksOf
  rw [List.filter_append, List.map_append]
  by_cases h : r.p.cl = c <;> simp [h]
theorem toksOf_drop (c : Int) (l : List RP) (k : Nat) (h : k < l.length) : toksOf c (l.drop k) = if l[k].p.cl = c then l[k].p.tok :: toksOf c (l.drop (k + 1)) else toksOf c (l.drop (k + 1)) := by
  rw [← List.getElem_cons_drop h]
  unfold toksOf
  rw [List.filter_cons]
  by_cases e : l[k].p.cl = c <;> simp [e]
theorem toksOf_at (c : Int) (l : List RP) (k : Nat) (h : k < l.length) (e : l[k].p.cl = c) : toksOf c l = toksOf c (l.take k) ++ l[k].p.tok :: toksOf c (l.drop (k + 1)) := by
  have h1 : toksOf c (l.take k ++ l.drop k) = toksOf c (l.take k) ++ toksOf c (l.drop k) := by unfold toksOf; rw [List.filter_append, List.map_append]
  rw [List.take_append_drop, toksOf_drop c l k h, if_pos e] at h1
  exact h1
/-- the tokens that are seen are the last admissions' -/
def Seen (wn : Int) (l : List RP) (T : Int → List Int) : Prop := ∀ c, T c = lastN wn.toNat (toksOf c l)
theorem Seen.nil (wn : Int) : Seen wn [] (fun _ => []) := fun c => by simp [toksOf, lastN]
theorem Seen.snoc {wn : Int} {l : List RP} {T : Int → List Int} {r : RP} {p : Pl} (h : Seen wn l T) (h1 : p.cl = r.p.cl) (h2 : p.tok = r.p.tok) : Seen wn (l ++ [r]) (subTok wn T p) := by
  intro c
  unfold subTok
  rw [toksOf_snoc, h1, h2]
  by_cases e : c = r.p.cl
  · subst e
    rw [if_pos rfl, if_pos rfl, h, lastN_snoc]
  · rw [if_neg e, if_neg fun x => e x.symm]
    exact h c
theorem code_tok {mt sh : Int} {L : List Pl} {T : Int → List Int} {p : Pl} (h : subCode mt sh L T p = 0) : ¬ p.tok ∈ T p.cl := by
  intro hm
  unfold subCode at h
  split at h
  · simp at h
  · simp [hm] at h

/-- the admissions in a row of their own -/
structure Adm (W : World) (S : Nat → Prop) (v : Value) (l : List RP) (wr : World) : Prop where
  form : ∃ A c, v = .slice A l.length c
  row : wr.ownsRow 0 35 4 v l.length (rqcells l)
  out : ∀ b, v.ownBlock = some b → ¬ S b ∧ W.heap.size < b
theorem Adm.step {W wr w' : World} {S : Nat → Prop} {v : Value} {l : List RP} (h : Adm W S v l wr) (hb : Below wr.heap.size wr w') : Adm W S v l w' :=
  ⟨h.form, own_keep h.row (.of_below' hb Nil) fun _ _ => id, h.out⟩
theorem Adm.turn {W wr w' : World} {S S' : Nat → Prop} {v : Value} {l : List RP} (h : Adm W S v l wr) (hS : ∀ k, S' k → S k ∨ wr.heap.size ≤ k) (hu : Upd S wr w') : Adm W S' v l w' := by
  refine ⟨h.form, own_keep h.row hu fun b hb => (h.out b hb).1, fun b hb => ⟨fun hs => ?_, (h.out b hb).2⟩⟩
  rcases hS b hs with h1 | h1
  · exact (h.out b hb).1 h1
  · have := (h.row.lt b hb).2; omega
theorem rqcells_at (l : List RP) (k j : Nat) (h : k < l.length) (hj : j < 4) : (rqcells l)[k * 4 + j]? = (rcells l[k])[j]? := aflat_at rcells 4 (fun _ => rfl) l k j h hj
theorem Adm.cells {W wr : World} {S : Nat → Prop} {A : Option Addr} {c : Nat} {l : List RP} (h : Adm W S (.slice A l.length c) l wr) {k : Nat} (hk : k < l.length) : ∃ b, A = some ⟨b, 0, none⟩ ∧ b < wr.heap.size ∧ wr.cell? ⟨b, k * 4, none⟩ = some (.int .i64 l[k].p.cl) ∧ wr.cell? ⟨b, k * 4 + 1, none⟩ = some (.int .u64 l[k].p.tok) := by
  obtain ⟨g, cap, hv, _, hl⟩ := h.row.form (by omega)
  simp only [Value.slice.injEq, true_and] at hv
  obtain ⟨rfl, rfl⟩ := hv
  refine ⟨g, rfl, hl, ?_, ?_⟩
  · have h1 := h.row.cells (g := g) rfl (k * 4) (.int .i64 l[k].p.cl) (by rw [← Nat.add_zero (k * 4), rqcells_at l k 0 hk (by omega)]; rfl)
    rwa [add_zero, Nat.zero_add] at h1
  · have h1 := h.row.cells (g := g) rfl (k * 4 + 1) (.int .u64 l[k].p.tok) (by rw [rqcells_at l k 1 hk (by omega)]; rfl)
    rwa [add_zero, Nat.zero_add] at h1

theorem Beside.far {W wr w' : World} {g : Nat} {mt sh wn : Int} {A : Option Addr} {c : Nat} {us : List QA} {S : Nat → Prop} {L : List Pl} {T : Int → List Int} {M : Nat → Prop} (h : Beside W g mt sh wn A c us S L T wr) (hu : Upd M wr w') (hM : ∀ k, M k → W.heap.size < k ∧ ¬ S k) : Beside W g mt sh wn A c us S L T w' :=
  ⟨h.q.far hu fun k hk hm => (hM k hm).2 hk, h.new, h.box.upd hu fun hm => by have := (hM _ hm).1; omega, h.below.trans (hu.below h.below.size fun k hk hm => by have := (hM k hm).1; omega)⟩

def ORel (W : World) (g : Nat) (mt sh wn : Int) (A : Option Addr) (c : Nat) (us : List QA) (v i' : Value) (wr : World) : Prop :=
  ∃ (i : Nat) (S : Nat → Prop) (L : List Pl) (T : Int → List Int) (l : List RP), i' = .int .i64 i ∧ i ≤ us.length ∧ Beside W g mt sh wn A c us S L T wr ∧ Adm W S v l wr ∧ Seen wn l T ∧ l.length ≤ i

set_option maxRecDepth 100000 in
set_option maxHeartbeats 8000000 in
theorem once_walk (mt sh wn : Int) (A : Option Addr) (c : Nat) (us : List QA) (W : World) (ha : QActs (fun b => b < W.heap.size) W A us) (hl : us.length ≤ 2000000) (hp : partsQ us ≤ 100000000) (hf : ∀ a ∈ us, a.r.p.fits) :
    Calls Try.prog 5 #[.agg #[.int .i64 mt, .int .i64 sh, .int .i64 wn, .slice A us.length c]] W fun e w' => e = .returned (.bool true) ∧ Below W.heap.size W w' := by
  obtain ⟨ip, hip, hp0, hp1, hp2⟩ := info_parts info_req
  go_enter Try.func5, Try.ntmps5
  go_wp2_with fail
  have hB0 : Below W.heap.size W (W.alloc (.cells #[.int .i64 mt, .int .i64 sh, .int .i64 wn, .slice A us.length c] 24)) := (Below.refl _ _).alloc (Nat.le_refl _) _
  have kb0 := Blk.new W 24 #[.int .i64 mt, .int .i64 sh, .int .i64 wn, .slice A us.length c]
  generalize W.alloc (.cells #[.int .i64 mt, .int .i64 sh, .int .i64 wn, .slice A us.length c] 24) = W0 at *
  refine (long_any _ A c us mt sh wn W0 (ha.below hB0) (by omega) hp).mono ?_
  rintro e w1 ⟨b, rfl, hb1⟩
  have hB1 := hB0.trans (hb1.mono hB0.size)
  have kb1 := kb0.below_all hb1
  have hz1 := kb1.lt
  have d0 : w1.cell? ⟨W.heap.size, 0, none⟩ = some (.int .i64 mt) := kb1.cell 0
  have d1 : w1.cell? ⟨W.heap.size, 1, none⟩ = some (.int .i64 sh) := kb1.cell 1
  have d2 : w1.cell? ⟨W.heap.size, 2, none⟩ = some (.int .i64 wn) := kb1.cell 2
  clear hb1 hB0 kb0
  cases b with
  | true =>
    go_wp2_with (go_at_call 10; refine (live_any _).mono ?_; rintro e w3 ⟨rfl, hb3⟩)
    go_ret
    exact ⟨rfl, hB1.trans (hb3.mono hB1.size)⟩
  | false =>
    cases hbad : badNew mt sh wn with
    | true =>
      go_wp2_with (first
        | (go_at_call 11; refine (new_bad mt sh wn _ hbad).mono ?_; rintro e w' ⟨rfl, rfl⟩)
        | (go_at_call 12; refine (num_any _ _).mono ?_; rintro e w' ⟨rfl, rfl⟩)
        | (go_at_call 10; refine (live_any _).mono ?_; rintro e w3 ⟨rfl, hb3⟩))
      go_ret
      exact ⟨rfl, hB1.trans (hb3.mono hB1.size)⟩
    | false =>
      have hwn : 0 ≤ wn := by unfold badNew at hbad; have := of_decide_eq_false hbad; omega
      have hwn2 : wn ≤ 256 := by unfold badNew at hbad; have := of_decide_eq_false hbad; omega
      go_wp2_with fail
      refine (new_ok mt sh wn _ hbad).mono ?_
      rintro e w2 ⟨S2, g, ⟨rfl, hS2⟩, h2, hb2⟩
      have R2 : Beside W g mt sh wn A c us S2 [] (fun _ => []) w2 := ⟨h2, fun k hk => by have := hS2 k hk; omega, kb1.below_all hb2, hB1.trans (hb2.mono hB1.size)⟩
      clear h2 hb2 kb1 hB1 d0 d1 d2 hS2
      go_wp2_with (go_at_call 12; refine (num_any _ _).mono ?_; rintro e w' ⟨rfl, rfl⟩)
      go_loopw [5, 6] (fun v i' wr => ORel W g mt sh wn A c us v i' wr) (fun _ i' _ => us.length - (intOf i').toNat)
      case atStart => exact ⟨0, S2, [], _, [], rfl, Nat.zero_le _, R2, ⟨⟨none, 0, rfl⟩, World.ownsRow_nil _ _ _ _, by simp [Value.ownBlock]⟩, Seen.nil wn, Nat.le_refl _⟩
      case round =>
        clear R2
        obtain ⟨i, S, L, T, l, rfl, hi, R, D, hT, hli⟩ := hrel
        have b3 : wr.cell? ⟨W.heap.size, 3, none⟩ = some (.slice A us.length c) := R.box.cell 3
        have hwrS : ∀ k, S k → k < wr.heap.size := R.q.lt.1
        by_cases hlt : i < us.length
        · obtain ⟨b, o, rfl, hbW, hbl, okp, a0, a1, a2, a3, a4, a5, a6, a7, a8, a9, a10⟩ := (ha.below R.below).at_ hlt
          have hrf := hf _ (List.getElem_mem hlt)
          have i1 : (i : Int) < (us.length : Int) := by omega
          by_cases hk2 : us[i].kind = 2
          · rw [hk2] at a0
            clear hk2
            have hX : Below wr.heap.size wr (wr.alloc (.cells #[.int .i64 2, .int .i64 us[i].r.p.cl, .int .u64 us[i].r.p.tok, .string us[i].r.p.nm, .slice us[i].r.A1 us[i].r.p.args.length us[i].r.c1, .int .i64 us[i].r.p.how, .slice us[i].r.A2 us[i].r.p.rd.length us[i].r.c2, .slice us[i].r.A3 us[i].r.p.wr.length us[i].r.c3, .int .i64 us[i].i, .int .i64 us[i].cl, .int .u64 us[i].tok] 42)) := (Below.refl _ _).alloc (Nat.le_refl _) _
            have R1 := R.step hX
            have D1 := D.step hX
            have ka := Blk.new wr 42 #[.int .i64 2, .int .i64 us[i].r.p.cl, .int .u64 us[i].r.p.tok, .string us[i].r.p.nm, .slice us[i].r.A1 us[i].r.p.args.length us[i].r.c1, .int .i64 us[i].r.p.how, .slice us[i].r.A2 us[i].r.p.rd.length us[i].r.c2, .slice us[i].r.A3 us[i].r.p.wr.length us[i].r.c3, .int .i64 us[i].i, .int .i64 us[i].cl, .int .u64 us[i].tok]
            have okp1 := okp.below hX
            clear R D hX
            go_wp2_with fail
            refine (takeI R1.q).mono ?_
            rintro e w5 ⟨r5, ok5, rfl, _, _, hq5, hu5⟩
            have R5 := R1.turn hq5 (fun k h => .inl h) hu5
            have D5 := D1.turn (fun k h => .inl h) hu5
            clear R1 D1 hq5 hu5
            go_wp2_with fail
            go_roundw
            case rel => exact ⟨i + 1, S, _, T, l, by go_num, hlt, R5, D5, hT, by omega⟩
            case measure => simp [intOf]; omega
          · by_cases hk4 : us[i].kind = 4
            · rw [hk4] at a0
              clear hk2 hk4
              have hX : Below wr.heap.size wr (wr.alloc (.cells #[.int .i64 4, .int .i64 us[i].r.p.cl, .int .u64 us[i].r.p.tok, .string us[i].r.p.nm, .slice us[i].r.A1 us[i].r.p.args.length us[i].r.c1, .int .i64 us[i].r.p.how, .slice us[i].r.A2 us[i].r.p.rd.length us[i].r.c2, .slice us[i].r.A3 us[i].r.p.wr.length us[i].r.c3, .int .i64 us[i].i, .int .i64 us[i].cl, .int .u64 us[i].tok] 42)) := (Below.refl _ _).alloc (Nat.le_refl _) _
              have R1 := R.step hX
              have D1 := D.step hX
              have ka := Blk.new wr 42 #[.int .i64 4, .int .i64 us[i].r.p.cl, .int .u64 us[i].r.p.tok, .string us[i].r.p.nm, .slice us[i].r.A1 us[i].r.p.args.length us[i].r.c1, .int .i64 us[i].r.p.how, .slice us[i].r.A2 us[i].r.p.rd.length us[i].r.c2, .slice us[i].r.A3 us[i].r.p.wr.length us[i].r.c3, .int .i64 us[i].i, .int .i64 us[i].cl, .int .u64 us[i].tok]
              have okp1 := okp.below hX
              clear R D hX
              have a9' : (wr.alloc (.cells #[.int .i64 4, .int .i64 us[i].r.p.cl, .int .u64 us[i].r.p.tok, .string us[i].r.p.nm, .slice us[i].r.A1 us[i].r.p.args.length us[i].r.c1, .int .i64 us[i].r.p.how, .slice us[i].r.A2 us[i].r.p.rd.length us[i].r.c2, .slice us[i].r.A3 us[i].r.p.wr.length us[i].r.c3, .int .i64 us[i].i, .int .i64 us[i].cl, .int .u64 us[i].tok] 42)).cell? ⟨wr.heap.size, 9, none⟩ = some (.int .i64 us[i].cl) := ka.cell 9
              have a10' : (wr.alloc (.cells #[.int .i64 4, .int .i64 us[i].r.p.cl, .int .u64 us[i].r.p.tok, .string us[i].r.p.nm, .slice us[i].r.A1 us[i].r.p.args.length us[i].r.c1, .int .i64 us[i].r.p.how, .slice us[i].r.A2 us[i].r.p.rd.length us[i].r.c2, .slice us[i].r.A3 us[i].r.p.wr.length us[i].r.c3, .int .i64 us[i].i, .int .i64 us[i].cl, .int .u64 us[i].tok] 42)).cell? ⟨wr.heap.size, 10, none⟩ = some (.int .u64 us[i].tok) := ka.cell 10
              go_wp2_with fail
              refine (cancel_any us[i].cl us[i].tok R1.q).mono ?_
              rintro e w5 ⟨rfl, hq5, hu5⟩
              have R5 := R1.turn hq5 (fun k h => .inl h) hu5
              have D5 := D1.turn (fun k h => .inl h) hu5
              clear R1 D1 hq5 hu5
              go_wp2_with fail
              go_roundw
              case rel => exact ⟨i + 1, S, _, T, l, by go_num, hlt, R5, D5, hT, by omega⟩
              case measure => simp [intOf]; omega
            · by_cases hk5 : us[i].kind = 5
              · rw [hk5] at a0
                clear hk2 hk4 hk5
                have hX : Below wr.heap.size wr (wr.alloc (.cells #[.int .i64 5, .int .i64 us[i].r.p.cl, .int .u64 us[i].r.p.tok, .string us[i].r.p.nm, .slice us[i].r.A1 us[i].r.p.args.length us[i].r.c1, .int .i64 us[i].r.p.how, .slice us[i].r.A2 us[i].r.p.rd.length us[i].r.c2, .slice us[i].r.A3 us[i].r.p.wr.length us[i].r.c3, .int .i64 us[i].i, .int .i64 us[i].cl, .int .u64 us[i].tok] 42)) := (Below.refl _ _).alloc (Nat.le_refl _) _
                have R1 := R.step hX
                have D1 := D.step hX
                have ka := Blk.new wr 42 #[.int .i64 5, .int .i64 us[i].r.p.cl, .int .u64 us[i].r.p.tok, .string us[i].r.p.nm, .slice us[i].r.A1 us[i].r.p.args.length us[i].r.c1, .int .i64 us[i].r.p.how, .slice us[i].r.A2 us[i].r.p.rd.length us[i].r.c2, .slice us[i].r.A3 us[i].r.p.wr.length us[i].r.c3, .int .i64 us[i].i, .int .i64 us[i].cl, .int .u64 us[i].tok]
                have okp1 := okp.below hX
                clear R D hX
                go_wp2_with fail
                refine (clear_any R1.q).mono ?_
                rintro e w5 ⟨rfl, hq5, hu5⟩
                have R5 := R1.turn hq5 (fun k h => .inl h) hu5
                have D5 := D1.turn (fun k h => .inl h) hu5
                clear R1 D1 hq5 hu5
                go_wp2_with fail
                go_roundw
                case rel => exact ⟨i + 1, S, _, T, l, by go_num, hlt, R5, D5, hT, by omega⟩
                case measure => simp [intOf]; omega
              · by_cases hk7 : us[i].kind = 7
                · rw [hk7] at a0
                  clear hk2 hk4 hk5 hk7
                  have hX : Below wr.heap.size wr (wr.alloc (.cells #[.int .i64 7, .int .i64 us[i].r.p.cl, .int .u64 us[i].r.p.tok, .string us[i].r.p.nm, .slice us[i].r.A1 us[i].r.p.args.length us[i].r.c1, .int .i64 us[i].r.p.how, .slice us[i].r.A2 us[i].r.p.rd.length us[i].r.c2, .slice us[i].r.A3 us[i].r.p.wr.length us[i].r.c3, .int .i64 us[i].i, .int .i64 us[i].cl, .int .u64 us[i].tok] 42)) := (Below.refl _ _).alloc (Nat.le_refl _) _
                  have R1 := R.step hX
                  have D1 := D.step hX
                  have ka := Blk.new wr 42 #[.int .i64 7, .int .i64 us[i].r.p.cl, .int .u64 us[i].r.p.tok, .string us[i].r.p.nm, .slice us[i].r.A1 us[i].r.p.args.length us[i].r.c1, .int .i64 us[i].r.p.how, .slice us[i].r.A2 us[i].r.p.rd.length us[i].r.c2, .slice us[i].r.A3 us[i].r.p.wr.length us[i].r.c3, .int .i64 us[i].i, .int .i64 us[i].cl, .int .u64 us[i].tok]
                  have okp1 := okp.below hX
                  clear R D hX
                  have a8' : (wr.alloc (.cells #[.int .i64 7, .int .i64 us[i].r.p.cl, .int .u64 us[i].r.p.tok, .string us[i].r.p.nm, .slice us[i].r.A1 us[i].r.p.args.length us[i].r.c1, .int .i64 us[i].r.p.how, .slice us[i].r.A2 us[i].r.p.rd.length us[i].r.c2, .slice us[i].r.A3 us[i].r.p.wr.length us[i].r.c3, .int .i64 us[i].i, .int .i64 us[i].cl, .int .u64 us[i].tok] 42)).cell? ⟨wr.heap.size, 8, none⟩ = some (.int .i64 us[i].i) := ka.cell 8
                  go_wp2_with fail
                  refine (outI us[i].i R1.q).mono ?_
                  rintro e w5 ⟨r5, ok5, rfl, _, _, hq5, hu5⟩
                  have R5 := R1.turn hq5 (fun k h => .inl h) hu5
                  have D5 := D1.turn (fun k h => .inl h) hu5
                  clear R1 D1 hq5 hu5
                  go_wp2_with fail
                  go_roundw
                  case rel => exact ⟨i + 1, S, _, T, l, by go_num, hlt, R5, D5, hT, by omega⟩
                  case measure => simp [intOf]; omega
                · by_cases hk1 : us[i].kind = 1
                  · rw [hk1] at a0
                    clear hk1 hk2 hk4 hk5 hk7
                    have hX : Below wr.heap.size wr (wr.alloc (.cells #[.int .i64 1, .int .i64 us[i].r.p.cl, .int .u64 us[i].r.p.tok, .string us[i].r.p.nm, .slice us[i].r.A1 us[i].r.p.args.length us[i].r.c1, .int .i64 us[i].r.p.how, .slice us[i].r.A2 us[i].r.p.rd.length us[i].r.c2, .slice us[i].r.A3 us[i].r.p.wr.length us[i].r.c3, .int .i64 us[i].i, .int .i64 us[i].cl, .int .u64 us[i].tok] 42)) := (Below.refl _ _).alloc (Nat.le_refl _) _
                    have R1 := R.step hX
                    have D1 := D.step hX
                    have ka := Blk.new wr 42 #[.int .i64 1, .int .i64 us[i].r.p.cl, .int .u64 us[i].r.p.tok, .string us[i].r.p.nm, .slice us[i].r.A1 us[i].r.p.args.length us[i].r.c1, .int .i64 us[i].r.p.how, .slice us[i].r.A2 us[i].r.p.rd.length us[i].r.c2, .slice us[i].r.A3 us[i].r.p.wr.length us[i].r.c3, .int .i64 us[i].i, .int .i64 us[i].cl, .int .u64 us[i].tok]
                    have okp1 := okp.below hX
                    clear R D hX
                    have hX2 : Below (wr.alloc (.cells #[.int .i64 1, .int .i64 us[i].r.p.cl, .int .u64 us[i].r.p.tok, .string us[i].r.p.nm, .slice us[i].r.A1 us[i].r.p.args.length us[i].r.c1, .int .i64 us[i].r.p.how, .slice us[i].r.A2 us[i].r.p.rd.length us[i].r.c2, .slice us[i].r.A3 us[i].r.p.wr.length us[i].r.c3, .int .i64 us[i].i, .int .i64 us[i].cl, .int .u64 us[i].tok] 42)).heap.size (wr.alloc (.cells #[.int .i64 1, .int .i64 us[i].r.p.cl, .int .u64 us[i].r.p.tok, .string us[i].r.p.nm, .slice us[i].r.A1 us[i].r.p.args.length us[i].r.c1, .int .i64 us[i].r.p.how, .slice us[i].r.A2 us[i].r.p.rd.length us[i].r.c2, .slice us[i].r.A3 us[i].r.p.wr.length us[i].r.c3, .int .i64 us[i].i, .int .i64 us[i].cl, .int .u64 us[i].tok] 42)) ((wr.alloc (.cells #[.int .i64 1, .int .i64 us[i].r.p.cl, .int .u64 us[i].r.p.tok, .string us[i].r.p.nm, .slice us[i].r.A1 us[i].r.p.args.length us[i].r.c1, .int .i64 us[i].r.p.how, .slice us[i].r.A2 us[i].r.p.rd.length us[i].r.c2, .slice us[i].r.A3 us[i].r.p.wr.length us[i].r.c3, .int .i64 us[i].i, .int .i64 us[i].cl, .int .u64 us[i].tok] 42)).alloc (.cells #[.int .i64 us[i].r.p.cl, .int .u64 us[i].r.p.tok, .string us[i].r.p.nm, .slice us[i].r.A1 us[i].r.p.args.length us[i].r.c1] 35)) := (Below.refl _ _).alloc (Nat.le_refl _) _
                    have R2 := R1.step hX2
                    have D2 := D1.step hX2
                    have okp2 := okp1.below hX2
                    have kq : Blk ((wr.alloc (.cells #[.int .i64 1, .int .i64 us[i].r.p.cl, .int .u64 us[i].r.p.tok, .string us[i].r.p.nm, .slice us[i].r.A1 us[i].r.p.args.length us[i].r.c1, .int .i64 us[i].r.p.how, .slice us[i].r.A2 us[i].r.p.rd.length us[i].r.c2, .slice us[i].r.A3 us[i].r.p.wr.length us[i].r.c3, .int .i64 us[i].i, .int .i64 us[i].cl, .int .u64 us[i].tok] 42)).alloc (.cells #[.int .i64 us[i].r.p.cl, .int .u64 us[i].r.p.tok, .string us[i].r.p.nm, .slice us[i].r.A1 us[i].r.p.args.length us[i].r.c1] 35)) (wr.heap.size + 1) 35 #[.int .i64 us[i].r.p.cl, .int .u64 us[i].r.p.tok, .string us[i].r.p.nm, .slice us[i].r.A1 us[i].r.p.args.length us[i].r.c1] := Blk.new' _ _ _ (by simp)
                    clear R1 D1 okp1 hX2
                    go_wp2_with fail
                    generalize (wr.alloc (.cells #[.int .i64 1, .int .i64 us[i].r.p.cl, .int .u64 us[i].r.p.tok, .string us[i].r.p.nm, .slice us[i].r.A1 us[i].r.p.args.length us[i].r.c1, .int .i64 us[i].r.p.how, .slice us[i].r.A2 us[i].r.p.rd.length us[i].r.c2, .slice us[i].r.A3 us[i].r.p.wr.length us[i].r.c3, .int .i64 us[i].i, .int .i64 us[i].cl, .int .u64 us[i].tok] 42)).alloc (.cells #[.int .i64 us[i].r.p.cl, .int .u64 us[i].r.p.tok, .string us[i].r.p.nm, .slice us[i].r.A1 us[i].r.p.args.length us[i].r.c1] 35) = w5 at *
                    refine (eplan_any _ us[i].r w5 okp2 hrf).mono ?_
                    rintro e w6 ⟨r6, ⟨hp0, rfl⟩, hown6, hb6⟩
                    have hf6 : r6.p.fits := by rw [hp0]; exact hrf
                    have hp6 := hid hp0
                    clear hp0
                    have R6 := R2.step hb6
                    have D6 := D2.step hb6
                    have kq6 := kq.below_all hb6
                    go_wp2_with fail
                    refine (submit_any _ r6 R6.q hown6.ok hf6).mono ?_
                    rintro e w7 ⟨S7, rfl, hq7, hS7, hu7⟩
                    have R7 := R6.turn hq7 hS7 hu7
                    have D7 := D6.turn hS7 hu7
                    have kq7 := kq6.upd hu7 fun h => by have := hwrS _ h; omega
                    have hlt7 := kq7.lt
                    by_cases hc : subCode mt sh L T r6.p = 0
                    · have hT7 : Seen wn (l ++ [us[i].r]) (subT mt sh wn L T r6.p) := by
                        unfold subT
                        rw [if_pos hc]
                        exact hT.snoc (by rw [hp6.out]) (by rw [hp6.out])
                      have hno : ¬ us[i].r.p.tok ∈ lastN wn.toNat (toksOf us[i].r.p.cl l) := by
                        have := code_tok hc
                        rw [hT, hp6.out] at this
                        exact this
                      rw [hc]
                      generalize subL mt sh L T r6.p = L7 at *
                      generalize subT mt sh wn L T r6.p = T7 at *
                      have hno := hid hno
                      have hT7 := hid hT7
                      obtain ⟨Aa, ca, rfl⟩ := D7.form
                      generalize wr.heap.size + 1 = bq at *
                      clear R2 R6 D2 D6 kq kq6 hq7 hS7 hu7 hb6 hown6 hf6 hT hc okp2
                      go_wp2_with (go_at_call 12; refine (num_any _ _).mono ?_; rintro e w' ⟨rfl, rfl⟩)
                      go_loopw [9, 10] (fun m v wx => ∃ k : Nat, k ≤ l.length ∧ v = .int .i64 ((k : Int) - 1) ∧ m = .int .i64 ((toksOf us[i].r.p.cl (l.drop k)).length : Nat) ∧ ((toksOf us[i].r.p.cl (l.drop k)).length : Int) ≤ wn ∧ Below w7.heap.size w7 wx) (fun _ v _ => (intOf v + 1).toNat)
                      case atStart => exact ⟨l.length, Nat.le_refl _, by go_num, by simp [toksOf], by simp [toksOf]; omega, Below.refl _ _⟩
                      case round =>
                        obtain ⟨k, hk, rfl, rfl, hmw, hB⟩ := hrel
                        have Rx := R7.step hB
                        have Dx := D7.step hB
                        have kx := kq7.below_all hB
                        have b2 : wr.cell? ⟨W.heap.size, 2, none⟩ = some (.int .i64 wn) := Rx.box.cell 2
                        have hlen1 : (l.length : Int) ≤ 2000000 := by omega
                        cases k with
                        | zero =>
                          have e0 : wr.cell? ⟨bq, 0, none⟩ = some (.int .i64 us[i].r.p.cl) := kx.cell 0
                          have e1 : wr.cell? ⟨bq, 1, none⟩ = some (.int .u64 us[i].r.p.tok) := kx.cell 1
                          have e2 : wr.cell? ⟨bq, 2, none⟩ = some (.string us[i].r.p.nm) := kx.cell 2
                          have e3 : wr.cell? ⟨bq, 3, none⟩ = some (.slice us[i].r.A1 us[i].r.p.args.length us[i].r.c1) := kx.cell 3
                          go_wp2_with (at_builtin; refine wpList_append_rd _ rfl (.tmp 111) (.tmp 113) 52 rfl 0 35 ip _ 4 56 Try.underlying52 hip hp0 hp1 hp2 rfl (by omega) (.slice Aa l.length ca) l.length (rqcells l) rfl (Dx.row.alloc _) (fun b => b = wr.heap.size) (some ⟨wr.heap.size, 0, none⟩) 1 1 (rcells us[i].r) rfl (Rd.new wr 35 4 1 (rcells us[i].r).toArray _ rfl rfl) (rcells_one _) (by simp only [maxLen]; omega) (by omega) (Nat.zero_le _) ?_; intro v9 w9 hown9 hg9 hat9)
                          go_roundw
                          case rel =>
                            have hl9 : (l ++ [us[i].r]).length = l.length + 1 := by simp
                            have hu9 : Upd (fun k => (Value.slice Aa l.length ca).ownBlock = some k) wr w9 := ((Upd.refl _ wr).alloc _).grown hg9 fun k hk _ => hk
                            refine ⟨i + 1, S7, L7, T7, l ++ [us[i].r], by go_num, hlt, Rx.far hu9 fun k hk => ⟨(Dx.out k hk).2, (Dx.out k hk).1⟩, ⟨?_, ?_, ?_⟩, hT7.out, by rw [hl9]; omega⟩
                            · obtain ⟨A9, c9, h9, _⟩ := own_form hown9
                              exact ⟨A9, c9, by rw [hl9]; exact h9⟩
                            · rw [hl9, show rqcells (l ++ [us[i].r]) = rqcells l ++ rcells us[i].r from by simp [rqcells]]
                              exact hown9
                            · intro b' hb'
                              rcases hat9 with h | h
                              · exact Dx.out b' (h ▸ hb')
                              · rw [h] at hb'
                                injection hb' with hb'
                                have := Rx.below.size
                                have := Rx.box.lt
                                simp at hb'
                                exact ⟨fun hs => by have := Rx.q.lt.1 b' hs; omega, by omega⟩
                          case measure => simp [intOf]; omega
                        | succ k =>
                          have hkl : k < l.length := hk
                          rw [show (((k + 1 : Nat) : Int) - 1) = (k : Int) from by omega]
                          obtain ⟨bA, rfl, hbA, f0, f1⟩ := Dx.cells hkl
                          have i2 : (k : Int) < (l.length : Int) := by omega
                          have i3 : (0 : Int) ≤ (k : Int) := by omega
                          have hdr := toksOf_drop us[i].r.p.cl l k hkl
                          by_cases hm : ((toksOf us[i].r.p.cl (l.drop (k + 1))).length : Int) < wn
                          · have g0 : wr.cell? ⟨bq, 0, none⟩ = some (.int .i64 us[i].r.p.cl) := kx.cell 0
                            have g1 : wr.cell? ⟨bq, 1, none⟩ = some (.int .u64 us[i].r.p.tok) := kx.cell 1
                            by_cases hcl : l[k].p.cl = us[i].r.p.cl
                            · have htk : ¬ l[k].p.tok = us[i].r.p.tok := fun e => hno.out (by
                                rw [toksOf_at us[i].r.p.cl l k hkl hcl, e]
                                exact lastN_mem (by omega))
                              have hd1 : (l[k].p.cl == us[i].r.p.cl) = true := by simpa using hcl
                              have hd2 : (l[k].p.tok == us[i].r.p.tok) = false := by simpa using htk
                              rw [if_pos hcl] at hdr
                              have hm1 : Hid (((toksOf us[i].r.p.cl (l.drop k)).length : Int) = ((toksOf us[i].r.p.cl (l.drop (k + 1))).length : Int) + 1) := by
                                have : ((toksOf us[i].r.p.cl (l.drop k)).length : Int) = ((toksOf us[i].r.p.cl (l.drop (k + 1))).length : Int) + 1 := by rw [hdr]; simp
                                exact hid this
                              have hm2 : ((toksOf us[i].r.p.cl (l.drop (k + 1))).length : Int) ≤ 256 := by omega
                              clear hdr htk
                              generalize hcq : us[i].r.p.cl = cq at *
                              clear hcl
                              go_wp2_with fail
                              go_quiet (fail)
                              go_wp2_with fail
                              go_quiet (fail)
                              go_wp2_with fail
                              go_roundw
                              case rel => exact ⟨k, by omega, by go_num, by rw [hm1.out], by have := hm1.out; omega, by first | exact below_drewN hB _ | exact below_drewN (below_drewN hB _) _⟩
                              case measure => simp [intOf]
                            · have hd1 : (l[k].p.cl == us[i].r.p.cl) = false := by simpa using hcl
                              rw [if_neg hcl] at hdr
                              have hdr := hid hdr
                              go_wp2_with fail
                              go_quiet (fail)
                              go_wp2_with fail
                              go_roundw
                              case rel => exact ⟨k, by omega, by go_num, by rw [hdr.out], by rw [hdr.out]; exact hmw, below_drewN hB _⟩
                              case measure => simp [intOf]
                          · have hdr := hid hdr
                            have e0 : wr.cell? ⟨bq, 0, none⟩ = some (.int .i64 us[i].r.p.cl) := kx.cell 0
                            have e1 : wr.cell? ⟨bq, 1, none⟩ = some (.int .u64 us[i].r.p.tok) := kx.cell 1
                            have e2 : wr.cell? ⟨bq, 2, none⟩ = some (.string us[i].r.p.nm) := kx.cell 2
                            have e3 : wr.cell? ⟨bq, 3, none⟩ = some (.slice us[i].r.A1 us[i].r.p.args.length us[i].r.c1) := kx.cell 3
                            go_wp2_with (at_builtin; refine wpList_append_rd _ rfl (.tmp 111) (.tmp 113) 52 rfl 0 35 ip _ 4 56 Try.underlying52 hip hp0 hp1 hp2 rfl (by omega) (.slice (some ⟨bA, 0, none⟩) l.length ca) l.length (rqcells l) rfl (Dx.row.alloc _) (fun b => b = wr.heap.size) (some ⟨wr.heap.size, 0, none⟩) 1 1 (rcells us[i].r) rfl (Rd.new wr 35 4 1 (rcells us[i].r).toArray _ rfl rfl) (rcells_one _) (by simp only [maxLen]; omega) (by omega) (Nat.zero_le _) ?_; intro v9 w9 hown9 hg9 hat9)
                            go_roundw
                            case rel =>
                              have hl9 : (l ++ [us[i].r]).length = l.length + 1 := by simp
                              have hu9 : Upd (fun k => (Value.slice (some ⟨bA, 0, none⟩) l.length ca).ownBlock = some k) wr w9 := ((Upd.refl _ wr).alloc _).grown hg9 fun k hk _ => hk
                              refine ⟨i + 1, S7, L7, T7, l ++ [us[i].r], by go_num, hlt, Rx.far hu9 fun k hk => ⟨(Dx.out k hk).2, (Dx.out k hk).1⟩, ⟨?_, ?_, ?_⟩, hT7.out, by rw [hl9]; omega⟩
                              · obtain ⟨A9, c9, h9, _⟩ := own_form hown9
                                exact ⟨A9, c9, by rw [hl9]; exact h9⟩
                              · rw [hl9, show rqcells (l ++ [us[i].r]) = rqcells l ++ rcells us[i].r from by simp [rqcells]]
                                exact hown9
                              · intro b' hb'
                                rcases hat9 with h | h
                                · exact Dx.out b' (h ▸ hb')
                                · rw [h] at hb'
                                  injection hb' with hb'
                                  have := Rx.below.size
                                  have := Rx.box.lt
                                  simp at hb'
                                  exact ⟨fun hs => by have := Rx.q.lt.1 b' hs; omega, by omega⟩
                            case measure => simp [intOf]; omega
                    · have hcc : (subCode mt sh L T r6.p != 0) = true := by simpa using hc
                      have hT7 : Seen wn l (subT mt sh wn L T r6.p) := by
                        unfold subT
                        rw [if_neg hc]
                        exact hT
                      have hT7 := hid hT7
                      clear hc R2 R6 D2 D6 kq kq6 hq7 hS7 hu7 hb6 hown6 hf6 hT
                      generalize subCode mt sh L T r6.p = cd at *
                      generalize subL mt sh L T r6.p = L7 at *
                      generalize subT mt sh wn L T r6.p = T7 at *
                      go_wp2_with (go_at_call 12; refine (num_any _ _).mono ?_; rintro e w' ⟨rfl, rfl⟩)
                      go_roundw
                      case rel => exact ⟨i + 1, S7, L7, T7, l, by go_num, hlt, R7, D7, hT7.out, by omega⟩
                      case measure => simp [intOf]; omega
                  · have hd1 : (us[i].kind == 1) = false := by simpa using hk1
                    have hd2 : (us[i].kind == 2) = false := by simpa using hk2
                    have hd4 : (us[i].kind == 4) = false := by simpa using hk4
                    have hd5 : (us[i].kind == 5) = false := by simpa using hk5
                    have hd7 : (us[i].kind == 7) = false := by simpa using hk7
                    clear hk1 hk2 hk4 hk5 hk7
                    have hX : Below wr.heap.size wr (wr.alloc (.cells #[.int .i64 us[i].kind, .int .i64 us[i].r.p.cl, .int .u64 us[i].r.p.tok, .string us[i].r.p.nm, .slice us[i].r.A1 us[i].r.p.args.length us[i].r.c1, .int .i64 us[i].r.p.how, .slice us[i].r.A2 us[i].r.p.rd.length us[i].r.c2, .slice us[i].r.A3 us[i].r.p.wr.length us[i].r.c3, .int .i64 us[i].i, .int .i64 us[i].cl, .int .u64 us[i].tok] 42)) := (Below.refl _ _).alloc (Nat.le_refl _) _
                    have R1 := R.step hX
                    have D1 := D.step hX
                    have ka := Blk.new wr 42 #[.int .i64 us[i].kind, .int .i64 us[i].r.p.cl, .int .u64 us[i].r.p.tok, .string us[i].r.p.nm, .slice us[i].r.A1 us[i].r.p.args.length us[i].r.c1, .int .i64 us[i].r.p.how, .slice us[i].r.A2 us[i].r.p.rd.length us[i].r.c2, .slice us[i].r.A3 us[i].r.p.wr.length us[i].r.c3, .int .i64 us[i].i, .int .i64 us[i].cl, .int .u64 us[i].tok]
                    have okp1 := okp.below hX
                    clear R D hX
                    go_wp2_with fail
                    go_roundw
                    case rel => exact ⟨i + 1, S, L, T, l, by go_num, hlt, R1, D1, hT, by omega⟩
                    case measure => simp [intOf]; omega
        · obtain rfl : i = us.length := by omega
          go_wp2_with (go_at_call 10; refine (live_any _).mono ?_; rintro e w3 ⟨rfl, hb3⟩)
          go_ret
          exact ⟨rfl, R.below.trans (hb3.mono R.below.size)⟩

end Go.Proofs.Ytppcjaljhahdnaa
