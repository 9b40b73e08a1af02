/- value: bytes and literals of unlike values are unlike. -/
import Derived.Test.YtbnpidmlcjofiaaDoorZTakeP
import Derived.Test.YtbnpidmlcjofiaaDoorJ12
namespace Go.Proofs.YtbnpidmlcjofiaaDoor
set_option linter.unusedVariables false
set_option linter.unusedSimpArgs false

theorem vput_pre {a b : Vl} (ha : a.ok = true) (hra : a.rng) (hb : b.ok = true) (hrb : b.rng) (h : (vput b).take (vput a).length = vput a) : a = b := by
  obtain ⟨q, h1, _⟩ := take_has (r := Rr.new (vput b)) rfl ha hra (Has.intro (by simpa [Rr.new] using h))
  obtain ⟨q', h2, _⟩ := take_has (r := Rr.new (vput b)) rfl hb hrb (Has.self _)
  rw [h1] at h2
  exact congrArg Prod.fst h2
theorem vput_inj {a b : Vl} (ha : a.ok = true) (hra : a.rng) (hb : b.ok = true) (hrb : b.rng) (h : vput a = vput b) : a = b :=
  vput_pre ha hra hb hrb (by rw [h, List.take_length])
theorem vput_lt {v : Vl} (hr : v.rng) : ∀ x ∈ vput v, x < 256 := by
  intro x hx
  unfold vput at hx
  split at hx
  · rename_i hv
    split at hx
    · rcases List.mem_cons.1 hx with rfl | hx
      · decide
      · exact putF_lt 9 _ (by have := zig_lt hr.1 hr.2; have e : 128 ^ 9 * 2 = 18446744073709551616 := by decide
                              omega) x hx
    · rename_i h1
      split at hx
      · rename_i h2
        rcases List.mem_cons.1 hx with rfl | hx
        · decide
        · rcases List.mem_append.1 hx with hx | hx
          · rcases ok_forms hv with rfl | ⟨h3, _⟩ | ⟨_, _, h4, _⟩
            · simp [vl0] at h2
            · exact absurd h3 h1
            · exact putF_lt 9 _ (by have e : 128 ^ 9 * 2 = 18446744073709551616 := by decide
                                    omega) x hx
          · obtain ⟨c, _, rfl⟩ := List.mem_map.1 hx
            exact c.toNat_lt
      · rcases List.mem_cons.1 hx with rfl | hx
        · decide
        · cases hx
  · cases hx
theorem vput_ne {v : Vl} (h : v.ok = true) : 0 < (vput v).length := vput_len v h
theorem take_back {a : Vl} (ha : a.ok = true) (hra : a.rng) (p : List Nat) : ∃ q, (Rr.new (vput a ++ p)).take = (a, q) ∧ q.why = (0, 0) ∧ q.rest = p.length := by
  obtain ⟨q, h1, h2, h3, h4⟩ := take_has (r := Rr.new (vput a ++ p)) rfl ha hra (fun j c hj => by
    show (vput a ++ p)[0 + j]? = some c
    rw [Nat.zero_add, List.getElem?_append_left (List.getElem?_eq_some_iff.1 hj).1]; exact hj)
  refine ⟨q, h1, by unfold Rr.why; rw [if_pos h3], ?_⟩
  unfold Rr.rest
  rw [if_neg (by simp [h3]), h2, h4]
  show (vput a ++ p).length - (0 + (vput a).length) = _
  rw [List.length_append]; omega
theorem lit_dec {a b : Vl} (ha : a.ok = true) (hra : a.rng) (hb : b.ok = true) (hrb : b.rng) : decide ((⟨(printL a).toArray⟩ : ByteArray) = ⟨(printL b).toArray⟩) = decide (a = b) := by
  apply decide_eq_decide.2
  constructor
  · intro h
    have h1 := congrArg (fun x : ByteArray => x.data.toList) h
    simp only [printL, ha, hb, if_true] at h1
    exact lit_inj ha hra hb hrb (by simpa using h1)
  · rintro rfl; rfl
theorem print_back {a : Vl} (ha : a.ok = true) (hra : a.rng) : parseL (⟨(printL a).toArray⟩ : ByteArray).data.toList = .good a := by
  have : (⟨(printL a).toArray⟩ : ByteArray).data.toList = litL a := by simp [printL, ha]
  rw [this]
  exact parse_lit ha hra
end Go.Proofs.YtbnpidmlcjofiaaDoor
