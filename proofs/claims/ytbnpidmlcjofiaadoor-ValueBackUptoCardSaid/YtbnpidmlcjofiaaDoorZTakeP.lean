/- codec, value: what is read is what would be put; a beginning of it is too short. -/
import Derived.Test.YtbnpidmlcjofiaaDoorJ12
namespace Go.Proofs.YtbnpidmlcjofiaaDoor
set_option linter.unusedVariables false
set_option linter.unusedSimpArgs false

theorem numF_canon (b : List Nat) (hb : ∀ x ∈ b, x < 256) (at_ : Nat) : ∀ (k i acc n j : Nat), i + k = 9 → numF b at_ (k + 1) i acc = .inl (n, j) → ∃ m, n = acc + m * 128 ^ i ∧ j = i + (putF k m).length ∧ (0 < i → 0 < m) ∧ (∀ t c, (putF k m)[t]? = some c → b[at_ + i + t]? = some c) := by
  intro k
  induction k with
  | zero =>
    intro i acc n j hi h
    unfold numF at h
    cases hc : b[at_ + i]? with
    | none => rw [hc] at h; simp at h
    | some c =>
      rw [hc] at h
      simp only at h
      split at h
      · cases h
      · split at h
        · split at h
          · cases h
          · injection h with h
            injection h with e1 e2
            refine ⟨c, e1.symm, by simp [putF]; omega, fun h0 => by omega, fun t c' ht => ?_⟩
            cases t with
            | zero => simp [putF] at ht; subst ht; simpa using hc
            | succ t => simp [putF] at ht
        · simp [numF] at h
  | succ k ih =>
    intro i acc n j hi h
    unfold numF at h
    cases hc : b[at_ + i]? with
    | none => rw [hc] at h; simp at h
    | some c =>
      rw [hc] at h
      simp only at h
      split at h
      · cases h
      · split at h
        · rename_i h2
          split at h
          · cases h
          · injection h with h
            injection h with e1 e2
            have q : putF (k + 1) c = [c] := by rw [putF, if_neg (by omega)]
            refine ⟨c, e1.symm, by rw [q]; simp; omega, fun h0 => by omega, fun t c' ht => ?_⟩
            rw [q] at ht
            cases t with
            | zero => simp at ht; subst ht; simpa using hc
            | succ t => simp at ht
        · rename_i h2
          obtain ⟨m, e1, e2, e3, e4⟩ := ih (i + 1) _ _ _ (by omega) h
          have hm := e3 (by omega)
          have hc256 : c < 256 := hb c (List.mem_of_getElem? hc)
          have q : putF (k + 1) (c % 128 + 128 * m) = c :: putF k m := by
            rw [putF, if_pos (by omega), show (c % 128 + 128 * m) % 128 + 128 = c by omega, show (c % 128 + 128 * m) / 128 = m by omega]
          refine ⟨c % 128 + 128 * m, ?_, by rw [q]; simp; omega, fun _ => by omega, fun t c' ht => ?_⟩
          · rw [e1, Nat.pow_succ, Nat.add_mul]
            have : 128 * m * 128 ^ i = m * (128 ^ i * 128) := by rw [Nat.mul_comm 128 m, Nat.mul_assoc, Nat.mul_comm 128]
            omega
          · rw [q] at ht
            cases t with
            | zero => simp at ht; subst ht; simpa using hc
            | succ t =>
              have := e4 t c' (by simpa using ht)
              rwa [show at_ + (i + 1) + t = at_ + i + (t + 1) by omega] at this
theorem num_canon {b : List Nat} (hb : ∀ x ∈ b, x < 256) {at_ n k : Nat} (h : num b at_ = .inl (n, k)) : Has b at_ (putU n) ∧ k = (putU n).length := by
  obtain ⟨m, e1, e2, _, e4⟩ := numF_canon b hb at_ 9 0 0 n k rfl h
  have e : n = m := by simpa using e1
  subst e
  refine ⟨fun j c hj => ?_, by simpa [putU] using e2⟩
  have := e4 j c hj
  rwa [Nat.add_zero] at this
theorem numF_trunc (b : List Nat) (at_ cut : Nat) : ∀ (k i acc n j : Nat), numF b at_ k i acc = .inl (n, j) → cut < at_ + j → numF (b.take cut) at_ k i acc = .inr 3 := by
  intro k
  induction k with
  | zero => intro i acc n j h; simp [numF] at h
  | succ k ih =>
    intro i acc n j h hcut
    unfold numF at h ⊢
    cases hc : b[at_ + i]? with
    | none => rw [hc] at h; simp at h
    | some c =>
      rw [hc] at h
      by_cases hlt : at_ + i < cut
      · rw [List.getElem?_take_of_lt hlt, hc]
        simp only at h ⊢
        split at h
        · cases h
        · rename_i h1
          rw [if_neg h1]
          split at h
          · split at h
            · cases h
            · injection h with h
              injection h with e1 e2
              omega
          · rename_i h2
            rw [if_neg h2]
            exact ih _ _ _ _ h hcut
      · have : (b.take cut)[at_ + i]? = none := by rw [List.getElem?_eq_none]; simp; omega
        rw [this]
theorem num_trunc {b : List Nat} {at_ n k cut : Nat} (h : num b at_ = .inl (n, k)) (hc : cut < at_ + k) : num (b.take cut) at_ = .inr 3 := numF_trunc b at_ cut 10 0 0 n k h hc
theorem numF_keep (b : List Nat) (at_ cut : Nat) : ∀ (k i acc n j : Nat), numF b at_ k i acc = .inl (n, j) → at_ + j ≤ cut → numF (b.take cut) at_ k i acc = .inl (n, j) := by
  intro k
  induction k with
  | zero => intro i acc n j h; simp [numF] at h
  | succ k ih =>
    intro i acc n j h hcut
    have hp := numF_pos b at_ _ _ _ _ _ h
    unfold numF at h ⊢
    cases hc : b[at_ + i]? with
    | none => rw [hc] at h; simp at h
    | some c =>
      rw [hc] at h
      rw [List.getElem?_take_of_lt (by omega), hc]
      simp only at h ⊢
      split at h
      · cases h
      · rename_i h1
        rw [if_neg h1]
        split at h
        · rename_i h2
          rw [if_pos h2]
          exact h
        · rename_i h2
          rw [if_neg h2]
          exact ih _ _ _ _ h hcut
theorem num_keep {b : List Nat} {at_ n k cut : Nat} (h : num b at_ = .inl (n, k)) (hc : at_ + k ≤ cut) : num (b.take cut) at_ = .inl (n, k) := numF_keep b at_ cut 10 0 0 n k h hc
theorem zig_zag {u : Nat} : zig (zag u) = u := by
  unfold zag zig
  by_cases h : u % 2 = 0
  · rw [if_pos h, if_pos (by omega)]; omega
  · rw [if_neg h, if_neg (by omega)]; omega
theorem tb_bt {l : List Nat} (h : ∀ x ∈ l, x < 256) : tb (bt l) = l := by
  unfold tb bt
  rw [List.map_map]
  conv => rhs; rw [← List.map_id l]
  apply List.map_congr_left
  intro x hx
  have := h x hx
  simp [Nat.mod_eq_of_lt this]
theorem Has.intro {b : List Nat} {a : Nat} {l : List Nat} (h : (b.drop a).take l.length = l) : Has b a l := fun j c hj => by
  have hl := (List.getElem?_eq_some_iff.1 hj).1
  rw [← h, List.getElem?_take_of_lt hl, List.getElem?_drop] at hj
  exact hj
theorem Has.append {b : List Nat} {a : Nat} {l m : List Nat} (h1 : Has b a l) (h2 : Has b (a + l.length) m) : Has b a (l ++ m) := fun j c hj => by
  by_cases hl : j < l.length
  · rw [List.getElem?_append_left hl] at hj; exact h1 j c hj
  · rw [List.getElem?_append_right (by omega)] at hj
    have := h2 _ c hj
    rwa [show a + l.length + (j - l.length) = a + j by omega] at this
section
variable {r : Rr} {n k : Nat} {e : Int}
theorem int_inl (he : r.e = 0) (h : num r.b r.at_ = .inl (n, k)) : r.int = (zag n, r.took k) := by unfold Rr.int; rw [if_neg (by simp [he]), h]
theorem int_inr (he : r.e = 0) (h : num r.b r.at_ = .inr e) : r.int = (0, r.fails e) := by unfold Rr.int; rw [if_neg (by simp [he]), h]
theorem text_inr (he : r.e = 0) (h : num r.b r.at_ = .inr e) : r.text 64 = (⟨#[]⟩, r.fails e) := by unfold Rr.text; rw [if_neg (by simp [he]), h]
theorem text_long (he : r.e = 0) (h : num r.b r.at_ = .inl (n, k)) (hm : 64 < n) : r.text 64 = (⟨#[]⟩, r.fails 1) := by unfold Rr.text; rw [if_neg (by simp [he]), h]; simp only; rw [if_pos (.inr (by omega))]
theorem text_short (he : r.e = 0) (h : num r.b r.at_ = .inl (n, k)) (hm : ¬ 64 < n) (hs : r.b.length < r.at_ + k + n) : r.text 64 = (⟨#[]⟩, r.fails 3) := by unfold Rr.text; rw [if_neg (by simp [he]), h]; simp only; rw [if_neg (by omega), if_pos hs]
theorem text_inl (he : r.e = 0) (h : num r.b r.at_ = .inl (n, k)) (hm : ¬ 64 < n) (hs : ¬ r.b.length < r.at_ + k + n) : r.text 64 = (bt ((r.b.drop (r.at_ + k)).take n), r.took (k + n)) := by unfold Rr.text; rw [if_neg (by simp [he]), h]; simp only; rw [if_neg (by omega), if_neg hs]
theorem okT_nil : okT (⟨#[]⟩ : ByteArray) = true := rfl
end
/-- a value is read: its bytes stand there, and a beginning of them is too short -/
theorem take_canon {b : List Nat} (hb : ∀ x ∈ b, x < 256) {v : Vl} {q : Rr} (h : (Rr.new b).take = (v, q)) (he : q.e = 0) : v.ok = true ∧ v.rng ∧ q.b = b ∧ q.at_ = (vput v).length ∧ q.at_ ≤ b.length ∧ b.take q.at_ = vput v ∧ ∀ cut, cut < q.at_ → (Rr.new (b.take cut)).take.2.e = 3 := by
  have short0 : (Rr.new (b.take 0)).take.2.e = 3 := rfl
  cases hb0 : b[0]? with
  | none =>
    have e : b = [] := by cases b with | nil => rfl | cons a t => simp at hb0
    subst e
    simp only [Rr.new, Rr.take, Rr.byte, Rr.fails] at h
    simp at h
    rw [← h.2] at he
    simp at he
  | some c =>
    have hby : (Rr.new b).byte = (c, (Rr.new b).took 1) := by unfold Rr.byte; rw [if_neg (by simp [Rr.new])]; show (match b[0]? with | none => _ | some c => _) = _; rw [hb0]
    have hbyc : ∀ cut, 0 < cut → (Rr.new (b.take cut)).byte = (c, (Rr.new (b.take cut)).took 1) := fun cut hc => by
      unfold Rr.byte; rw [if_neg (by simp [Rr.new])]
      show (match (b.take cut)[0]? with | none => _ | some c => _) = _
      rw [List.getElem?_take_of_lt hc, hb0]
    have hlen : 1 ≤ b.length := by have := (List.getElem?_eq_some_iff.1 hb0).1; omega
    have H0 : Has b 0 [c] := fun j x hj => by
      cases j with
      | zero => simp at hj; subst hj; simpa using hb0
      | succ j => simp at hj
    unfold Rr.take at h
    rw [hby] at h
    simp only at h
    by_cases k0 : c = 0
    · rw [if_pos k0] at h
      injection h with e1 e2
      subst e1 e2
      refine ⟨rfl, ⟨by decide, by decide⟩, rfl, rfl, hlen, ?_, fun cut hc => ?_⟩
      · have := H0.took (by simpa using hlen)
        rw [k0] at this
        exact this
      · have : cut = 0 := by simp [Rr.took, Rr.new] at hc; omega
        rw [this]; exact short0
    · rw [if_neg k0] at h
      by_cases k1 : c = 1
      · rw [if_pos k1] at h
        cases hn' : num b 1 with
        | inr e =>
          rw [int_inr (r := (Rr.new b).took 1) rfl hn'] at h
          simp only at h
          injection h with e1 e2
          rw [← e2] at he
          exact absurd he (numF_ne _ _ _ _ _ _ hn')
        | inl nk =>
          obtain ⟨n, k⟩ := nk
          rw [int_inl (r := (Rr.new b).took 1) rfl hn'] at h
          simp only at h
          injection h with e1 e2
          rw [if_pos (show (((Rr.new b).took 1).took k).e = 0 from rfl)] at e1
          subst e1 e2
          obtain ⟨hh, hk⟩ := num_canon hb hn'
          have hnl := num_lt hn'
          have hvp : vput ⟨1, zag n, ⟨#[]⟩⟩ = 1 :: putU n := by
            unfold vput
            rw [if_pos (by simp [Vl.ok]), if_pos rfl, zig_zag]
          have hall : Has b 0 (1 :: putU n) := by
            have := (k1 ▸ H0).append (m := putU n) (by simpa using hh)
            exact this
          refine ⟨by simp [Vl.ok], ?_, rfl, ?_, ?_, ?_, fun cut hc => ?_⟩
          · have := hnl.1
            unfold Vl.rng zag
            simp only
            split <;> omega
          · show 0 + 1 + k = _
            rw [hvp, List.length_cons]; omega
          · show 0 + 1 + k ≤ _
            omega
          · show b.take (0 + 1 + k) = _
            rw [hvp]
            have := hall.took (by simp; omega)
            rw [List.length_cons, List.drop_zero] at this
            rw [show 0 + 1 + k = (putU n).length + 1 by omega]
            exact this
          · have hc' : cut < 0 + 1 + k := hc
            by_cases hc0 : cut = 0
            · rw [hc0]; exact short0
            · have ht : num (b.take cut) 1 = .inr 3 := num_trunc hn' (by omega)
              unfold Rr.take
              rw [hbyc cut (by omega)]
              simp only
              rw [if_neg k0, if_pos k1, int_inr (r := (Rr.new (b.take cut)).took 1) rfl ht]
              rfl
      · rw [if_neg k1] at h
        by_cases k2 : c = 2
        · rw [if_pos k2] at h
          cases hn' : num b 1 with
          | inr e =>
            rw [text_inr (r := (Rr.new b).took 1) rfl hn'] at h
            simp only at h
            rw [if_pos okT_nil] at h
            injection h with e1 e2
            rw [← e2] at he
            exact absurd he (numF_ne _ _ _ _ _ _ hn')
          | inl nk =>
            obtain ⟨n, k⟩ := nk
            by_cases hm : 64 < n
            · rw [text_long (r := (Rr.new b).took 1) rfl hn' hm] at h
              simp only at h
              rw [if_pos okT_nil] at h
              injection h with e1 e2
              rw [← e2] at he
              exact absurd he (show (1 : Int) ≠ 0 by decide)
            · by_cases hs : b.length < 0 + 1 + k + n
              · rw [text_short (r := (Rr.new b).took 1) rfl hn' hm hs] at h
                simp only at h
                rw [if_pos okT_nil] at h
                injection h with e1 e2
                rw [← e2] at he
                exact absurd he (show (3 : Int) ≠ 0 by decide)
              · rw [text_inl (r := (Rr.new b).took 1) rfl hn' hm hs] at h
                simp only at h
                have hs' : 1 + k + n ≤ b.length := by omega
                have hsub : ∀ x ∈ (b.drop (1 + k)).take n, x < 256 := fun x hx => hb x (List.mem_of_mem_drop (List.mem_of_mem_take hx))
                have hsl : ((b.drop (1 + k)).take n).length = n := by rw [List.length_take, List.length_drop]; omega
                have hbs : (bt ((b.drop (1 + k)).take n)).size = n := by rw [← tb_len, tb_bt hsub, hsl]
                have eqb : bt ((((Rr.new b).took 1).b.drop (((Rr.new b).took 1).at_ + k)).take n) = bt ((b.drop (1 + k)).take n) := by
                  show bt ((b.drop (0 + 1 + k)).take n) = _
                  rw [Nat.zero_add]
                rw [eqb] at h
                by_cases hok : okT (bt ((b.drop (1 + k)).take n)) = true
                · rw [if_pos hok] at h
                  injection h with e1 e2
                  rw [if_pos (show (((Rr.new b).took 1).took (k + n)).e = 0 from rfl)] at e1
                  subst e1 e2
                  obtain ⟨hh, hk⟩ := num_canon hb hn'
                  have hvok : Vl.ok ⟨2, 0, bt ((b.drop (1 + k)).take n)⟩ = true := by
                    unfold Vl.ok
                    simp only
                    rw [if_neg (by decide), if_neg (by decide)]
                    simp [hok, hbs]
                    omega
                  have hvp : vput ⟨2, 0, bt ((b.drop (1 + k)).take n)⟩ = 2 :: (putU n ++ (b.drop (1 + k)).take n) := by
                    unfold vput
                    rw [if_pos hvok]
                    simp only
                    rw [if_neg (by decide), if_pos trivial, hbs, tb_bt hsub]
                  have hall : Has b 0 (2 :: (putU n ++ (b.drop (1 + k)).take n)) := by
                    have h2 : Has b 1 (putU n ++ (b.drop (1 + k)).take n) := hh.append (Has.intro (by rw [hsl, ← hk]))
                    have := (k2 ▸ H0).append (m := putU n ++ (b.drop (1 + k)).take n) (by simpa using h2)
                    exact this
                  have hlv : (2 :: (putU n ++ (b.drop (1 + k)).take n)).length = 1 + (k + n) := by simp only [List.length_cons, List.length_append]; rw [hsl, hk]; omega
                  refine ⟨hvok, ⟨by simp, by simp⟩, rfl, ?_, ?_, ?_, fun cut hc => ?_⟩
                  · show 0 + 1 + (k + n) = (vput ⟨2, 0, bt ((b.drop (1 + k)).take n)⟩).length
                    rw [hvp, hlv]
                  · show 0 + 1 + (k + n) ≤ b.length
                    omega
                  · show b.take (0 + 1 + (k + n)) = vput ⟨2, 0, bt ((b.drop (1 + k)).take n)⟩
                    rw [hvp]
                    have := hall.took (by rw [hlv]; omega)
                    rw [hlv, List.drop_zero] at this
                    rw [show 0 + 1 + (k + n) = 1 + (k + n) by omega]
                    exact this
                  · have hc' : cut < 0 + 1 + (k + n) := hc
                    by_cases hc0 : cut = 0
                    · rw [hc0]; exact short0
                    · unfold Rr.take
                      rw [hbyc cut (by omega)]
                      simp only
                      rw [if_neg k0, if_neg k1, if_pos k2]
                      by_cases hcn : cut < 1 + k
                      · rw [text_inr (r := (Rr.new (b.take cut)).took 1) rfl (num_trunc hn' hcn)]
                        simp only
                        rw [if_pos okT_nil]
                        rfl
                      · rw [text_short (r := (Rr.new (b.take cut)).took 1) rfl (show num ((Rr.new (b.take cut)).took 1).b ((Rr.new (b.take cut)).took 1).at_ = .inl (n, k) from num_keep hn' (show 0 + 1 + k ≤ cut by omega)) hm (by show (b.take cut).length < 0 + 1 + k + n; rw [List.length_take]; omega)]
                        simp only
                        rw [if_pos okT_nil]
                        rfl
                · rw [if_neg hok] at h
                  injection h with e1 e2
                  rw [← e2] at he
                  simp [Rr.fail, Rr.took, Rr.new] at he
        · rw [if_neg k2] at h
          injection h with e1 e2
          rw [← e2] at he
          simp [Rr.fail, Rr.took, Rr.new] at he
theorem take_b {b : List Nat} {v : Vl} {q : Rr} (hq : q.e = 0) (hb : q.b = b) (ha : q.at_ ≤ b.length) : b.length - q.rest = q.at_ := by
  unfold Rr.rest
  rw [if_neg (by simp [hq]), hb]
  omega
end Go.Proofs.YtbnpidmlcjofiaaDoor
