/- Texts of the proof, joined: SLoadQ, VRParse, VNumber, VNumA, SLEnv, SActs, SRAt, SHeldE. -/
import Derived.Test.YtphglnenafdkaaaGreatDoorQ09
import Derived.Test.YtphglnenafdkaaaGreatDoorQ08
import Derived.Test.YtphglnenafdkaaaGreatDoorQ07
import Derived.Test.YtphglnenafdkaaaGreatDoorQ06
import Derived.Deep.RegionHeld3
import Derived.Test.YtphglnenafdkaaaGreatDoorRows
namespace Go.Proofs.YtphglnenafdkaaaGreatDoor
open Go.RowKit
set_option linter.unusedVariables false
set_option linter.unusedSimpArgs false

theorem asc_rise {X : List Kv} : Asc X ↔ riseB (keys0 X) = true := by
  constructor
  · intro h
    refine rise_yes fun j hj => ?_
    unfold Asc at h
    rw [List.pairwise_iff_getElem] at h
    have hl : (keys0 X).length = X.length := List.length_map ..
    have := h j (j + 1) (by omega) (by omega) (by omega)
    have e1 : (keys0 X)[j]'(by omega) = (X[j]'(by omega)).1 := List.getElem_map ..
    have e2 : (keys0 X)[j + 1]'(by omega) = (X[j + 1]'(by omega)).1 := List.getElem_map ..
    rw [e1, e2]
    exact this
  · intro h
    unfold Asc
    rw [List.pairwise_iff_getElem]
    intro i j hi hj hij
    have hl : (keys0 X).length = X.length := List.length_map ..
    have := rise_lt h i j hij (by omega)
    unfold keys0 at this
    simpa [List.getD_eq_getElem?_getD, hi, hj] using this
theorem keys0_has (X : List Kv) (k : ByteArray) : ((keys0 X).any fun j => decide (j = k)) = hasK k X := by unfold keys0 hasK; rw [List.any_map]; rfl
theorem keys0_cnt (p q t : Nat) (X : List Kv) : moreK ⟨p, q, []⟩ (keys0 X) t = cntP p t X := by
  unfold moreK keys0 cntP
  rw [List.countP_map]
  congr 1
theorem claim_good {p q : Nat} {X : List Kv} (h : Goodly p q X) : claimE ⟨p, q, []⟩ (keys0 X) = 0 := by
  refine claimE_ok ?_ (asc_rise.1 h.asc) fun t ht => ?_
  · rw [List.any_eq_false]
    intro k hk
    obtain ⟨x, hx, rfl⟩ := List.mem_map.1 hk
    rw [h.key x hx]; simp
  · rw [keys0_cnt p q]
    have := h.cnt t ht
    have h0 : cntP (St.mk p q []).parts t (St.mk p q []).L = 0 := rfl
    rw [h0]
    have hr : (St.mk p q []).room = q := rfl
    rw [hr]
    omega
theorem good_claim {p q : Nat} {X : List Kv} (h : claimE ⟨p, q, []⟩ (keys0 X) = 0) : Goodly p q X := by
  unfold claimE at h
  split at h; · cases h
  rename_i h1
  split at h; · cases h
  rename_i h2
  split at h; · cases h
  rename_i h3
  refine ⟨fun x hx => ?_, asc_rise.2 (by simpa using h2), fun t ht => ?_⟩
  · have h4 := (List.any_eq_false.1 ((Bool.not_eq_true _).mp h1)) x.1 (List.mem_map.2 ⟨x, hx, rfl⟩)
    simpa using h4
  · have h4 : ¬ (0 < moreK ⟨p, q, []⟩ (keys0 X) t ∧ (St.mk p q []).room < cntP (St.mk p q []).parts t (St.mk p q []).L + moreK ⟨p, q, []⟩ (keys0 X) t) := by
      intro h5
      apply h3
      unfold fullB
      exact List.any_eq_true.2 ⟨t, List.mem_range.2 ht, by simp only [Bool.and_eq_true, decide_eq_true_eq]; exact h5⟩
    rw [keys0_cnt p q] at h4
    have h0 : cntP (St.mk p q []).parts t (St.mk p q []).L = 0 := rfl
    have hr : (St.mk p q []).room = q := rfl
    rw [h0, hr] at h4
    omega
theorem ws0_len (X : List Kv) : (ws0 X).length = X.length := List.length_map ..
theorem apply_good {p q : Nat} {X : List Kv} (h : Goodly p q X) (hv : ∀ x ∈ X, x.2.ok = true) : applyE (claimS ⟨p, q, []⟩ (keys0 X)) (ws0 X) = 0 := by
  have hc := claim_good h
  unfold applyE
  rw [scan_zero]
  intro j _ hj
  rw [Nat.zero_add, ws0_len] at hj
  have hx := List.getElem_mem hj
  have e : (ws0 X).getD j ⟨⟨#[]⟩, false, vl0⟩ = ⟨(X[j]).1, false, (X[j]).2⟩ := by
    unfold ws0
    rw [List.getD_eq_getElem?_getD, List.getElem?_map, List.getElem?_eq_getElem hj]; rfl
  unfold wrE
  rw [e]
  simp only
  have hk : hasK (X[j]).1 (claimS ⟨p, q, []⟩ (keys0 X)).L = true := claim_has hc (List.mem_map.2 ⟨_, hx, rfl⟩)
  rw [if_neg (by simp [h.key _ hx]), if_neg, if_neg (by simp [hk]), if_neg (by simp [hv _ hx]), if_neg (by simp)]
  rintro ⟨h0, h1⟩
  have e2 : (ws0 X).getD (j - 1) ⟨⟨#[]⟩, false, vl0⟩ = ⟨(X[j - 1]'(by omega)).1, false, (X[j - 1]'(by omega)).2⟩ := by
    unfold ws0
    rw [List.getD_eq_getElem?_getD, List.getElem?_map, List.getElem?_eq_getElem (by omega)]; rfl
  rw [e2] at h1
  simp only at h1
  have h2 := h.asc
  unfold Asc at h2
  rw [List.pairwise_iff_getElem] at h2
  rw [h2 (j - 1) j (by omega) hj (by omega)] at h1
  cases h1
theorem end_good {p q : Nat} {X : List Kv} (h : Goodly p q X) (hv : ∀ x ∈ X, x.2.ok = true) : endP p q X = some ⟨p, q, X⟩ := by
  have hc := claim_good h
  have ha := apply_good h hv
  unfold endP
  rw [if_pos ⟨hc, ha⟩]
  unfold applyS
  rw [if_pos ha]
  unfold claimS
  rw [if_pos hc]
  congr 1
  show St.mk p q (upAll (insAll [] (keys0 X)) (ws0 X)) = _
  congr 1
  have hks : (ws0 X).map (·.key) = X.map (·.1) := by unfold ws0; rw [List.map_map]; rfl
  have hnd : ((ws0 X).map (·.key)).Nodup := by rw [hks]; exact asc_nodup h.asc
  have hhas : ∀ k, hasK k (insAll [] (keys0 X)) = hasK k X := fun k => by rw [insAll_has, keys0_has]; simp [hasK]
  refine asc_ext (asc_keys upAll_keys (insAll_asc List.Pairwise.nil)) h.asc (fun k => by rw [has_keys upAll_keys, hhas]) fun k => ?_
  cases hk : hasK k X with
  | false =>
    rw [valK_none hk]
    exact valK_none (by rw [has_keys upAll_keys, hhas, hk])
  | true =>
    obtain ⟨x, hx, rfl⟩ := hasK_mem.1 hk
    rw [valK_mem h.asc hx]
    exact upAll_in (x := ⟨x.1, false, x.2⟩) hnd (List.mem_map.2 ⟨x, hx, rfl⟩) (by rw [hhas]; exact hk)
theorem end_bad {p q : Nat} {X : List Kv} (h : ¬ Goodly p q X) : endP p q X = none := by
  unfold endP
  rw [if_neg fun e => h (good_claim e.1)]
theorem goodly_nil (p q : Nat) : Goodly p q [] := ⟨fun x hx => by (cases hx), List.Pairwise.nil, fun t _ => Nat.zero_le _⟩
theorem fold_end {p q : Nat} (hp : 0 < p) (M : List (List UInt8)) : (match parP M with
    | none => none
    | some X => endP p q X) = (foldD p q [] M).map fun L => (⟨p, q, L⟩ : St) := by
  cases hf : foldD p q [] M with
  | some Y =>
    obtain ⟨X, h1, h2, h3⟩ := (fold_good hp M [] Y (goodly_nil p q)).1 hf
    rw [List.nil_append] at h2
    subst h2
    rw [h1]
    simp only [Option.map_some]
    exact end_good h3 fun x hx => (parP_ok h1 x hx).1
  | none =>
    cases h1 : parP M with
    | none => rfl
    | some X =>
      simp only [Option.map_none]
      refine end_bad fun h => ?_
      have := (fold_good hp M [] X (goodly_nil p q)).2 ⟨X, h1, by simp, h⟩
      rw [hf] at this; cases this
theorem numR_bool (x : Int × Bool) : (x.2 = true ∧ 1 ≤ x.1 ∧ x.1 ≤ 4096) ↔ (x.2 && decide (1 ≤ x.1) && decide (x.1 ≤ 4096)) = true := by simp [and_assoc]
/-- the program reads what the document reads -/
theorem prog_doc (l : List UInt8) : progL (splitL l) = loadL l := by
  unfold progL loadL
  rcases nl_cases l with h1 | ⟨a, r, h1, rfl⟩
  · rw [splitL_one h1, if_pos (.inl (by simp))]
    unfold numH
    rw [lnL_none h1]
  · rw [splitL_cons r h1]
    unfold numH
    rw [lnL_some r h1]
    simp only
    rcases nl_cases r with h2 | ⟨b, rest, h2, rfl⟩
    · rw [splitL_one h2, if_pos (.inl (by simp))]
      split
      · rfl
      · rename_i p r' he
        split at he
        · injection he with he
          injection he with _ he
          rw [← he, lnL_none h2]
        · cases he
    · rw [splitL_cons rest h2]
      obtain ⟨c, m, e⟩ : ∃ c m, splitL rest = c :: m := by
        cases h : splitL rest with
        | nil => exact absurd h (splitL_ne rest)
        | cons c m => exact ⟨c, m, rfl⟩
      have hg : (a :: b :: splitL rest).getLastD [0] = (splitL rest).getLastD [0] := by rw [e]; simp [List.getLastD]
      have hlen : ¬ (a :: b :: splitL rest).length < 3 := by rw [e]; simp
      have hd : ((a :: b :: splitL rest).drop 2).dropLast = (splitL rest).dropLast := rfl
      have h0 : (a :: b :: splitL rest).getD 0 [] = a := rfl
      have h1' : (a :: b :: splitL rest).getD 1 [] = b := rfl
      rw [hg, hd, h0, h1']
      obtain ⟨n1, e1⟩ : ∃ n1, numR (parseL a) = n1 := ⟨_, rfl⟩
      obtain ⟨n2, e2⟩ : ∃ n2, numR (parseL b) = n2 := ⟨_, rfl⟩
      rw [e1, e2]
      by_cases hl : (splitL rest).getLastD [0] = []
      · rw [if_neg (by rintro (h | h); exact hlen h; exact h hl)]
        have hdoc : ∀ p q, docL p q [] rest = foldD p q [] (splitL rest).dropLast := fun p q => by unfold docL linesL; rw [if_pos hl]
        by_cases g1 : n1.2 = true ∧ 1 ≤ n1.1 ∧ n1.1 ≤ 4096
        · rw [if_pos g1]
          simp only
          rw [lnL_some rest h2]
          simp only
          rw [e2]
          by_cases g2 : n2.2 = true ∧ 1 ≤ n2.1 ∧ n2.1 ≤ 4096
          · rw [if_pos g2]
            simp only
            by_cases g3 : n1.1.toNat ≤ 64
            · rw [if_pos g3, if_neg (by unfold headP; simp only [g1.1, g2.1, Bool.true_and]; rw [decide_eq_true g1.2.1, decide_eq_true (show n1.1 ≤ 64 by omega), decide_eq_true g2.2.1, decide_eq_true g2.2.2]; simp), hdoc]
              exact fold_end (by omega) _
            · rw [if_neg g3, if_pos]
              unfold headP
              rw [decide_eq_false (show ¬ n1.1 ≤ 64 by omega)]
              simp
          · rw [if_neg g2]
            simp only
            rw [if_pos]
            unfold headP
            rw [numR_bool] at g2
            revert g2
            cases n2.2 <;> cases decide (1 ≤ n2.1) <;> cases decide (n2.1 ≤ 4096) <;> simp
        · rw [if_neg g1, if_pos]
          unfold headP
          rw [numR_bool] at g1
          have g4 : decide (n1.1 ≤ 64) = true → decide (n1.1 ≤ 4096) = true := fun h => decide_eq_true (by have := of_decide_eq_true h; omega)
          revert g1 g4
          cases n1.2 <;> cases decide (1 ≤ n1.1) <;> cases decide (n1.1 ≤ 4096) <;> cases decide (n1.1 ≤ 64) <;> simp
      · rw [if_pos (.inr hl)]
        have hdoc : ∀ p q, docL p q [] rest = none := fun p q => by unfold docL linesL; rw [if_neg hl]
        symm
        split
        · rfl
        · rename_i p r' he
          split at he
          · injection he with he
            injection he with _ he
            rw [← he, lnL_some rest h2]
            simp only
            split
            · rfl
            · rename_i q rest' he2
              split at he2
              · injection he2 with he2
                injection he2 with _ he2
                rw [← he2, hdoc]
                simp
              · cases he2
          · cases he
/-! a store's bytes -/
theorem ascii_dec (n : Nat) : (10 : UInt8) ∉ Lib.itoa (n : Int) := by
  intro h
  have e : Lib.itoa (n : Int) = Lib.decDigits n := by unfold Lib.itoa; rw [if_neg (by omega)]; rfl
  rw [e] at h
  exact absurd (dec_isD n 10 h) (by decide)
theorem lit_int (n : Int) : litL (intV n) = Lib.itoa n := rfl
theorem numR_itoa {n : Nat} (h : n ≤ 4096) : numR (parseL (Lib.itoa (n : Int))) = ((n : Int), true) := by
  have hp := parse_lit (v := intV n) rfl (show (-9223372036854775808 : Int) ≤ (n : Int) ∧ (n : Int) ≤ 9223372036854775807 by omega)
  rw [lit_int] at hp
  rw [hp]; rfl
theorem numH_itoa {n : Nat} (h : n ≤ 4096) (h1 : 1 ≤ n) (r : List UInt8) : numH (Lib.itoa (n : Int) ++ 10 :: r) = some (n, r) := by
  unfold numH
  rw [lnL_some r (ascii_dec n)]
  simp only
  rw [numR_itoa h, if_pos ⟨rfl, by omega, by omega⟩]
  simp
theorem key_no {k : ByteArray} (h : validK k = true) : (10 : UInt8) ∉ k.data.toList ∧ (32 : UInt8) ∉ k.data.toList := by
  unfold validK at h
  rw [Bool.and_eq_true, Bool.and_eq_true] at h
  have h1 := List.all_eq_true.1 h.1.1
  rw [ByteArray.toList_eq] at h1
  constructor
  · intro hm; exact absurd (h1 10 hm) (by decide)
  · intro hm; exact absurd (h1 32 hm) (by decide)
theorem okB_ge {c : UInt8} (h : okB c = true) : c ≠ 10 := by
  rintro rfl
  exact absurd h (by decide)
theorem esc_no {l : List UInt8} (h : ∀ c ∈ l, okB c = true) : (10 : UInt8) ∉ escL l := by
  intro hm
  unfold escL at hm
  obtain ⟨c, hc, hm⟩ := List.mem_flatMap.1 hm
  have hne := okB_ge (h c hc)
  split at hm
  · rcases List.mem_cons.1 hm with e | e
    · exact absurd e (by decide)
    · rcases List.mem_cons.1 e with e | e
      · exact hne e.symm
      · cases e
  · rcases List.mem_cons.1 hm with e | e
    · exact hne e.symm
    · cases e
theorem lit_no {v : Vl} (hv : v.ok = true) : (10 : UInt8) ∉ litL v := by
  rcases ok_forms hv with rfl | ⟨h1, h2⟩ | ⟨h1, h2, h3, h4⟩
  · decide
  · unfold litL
    rw [if_pos h1]
    intro hm
    unfold Lib.itoa at hm
    split at hm
    · rcases List.mem_cons.1 hm with e | e
      · exact absurd e (by decide)
      · exact absurd (dec_isD _ 10 e) (by decide)
    · exact absurd (dec_isD _ 10 hm) (by decide)
  · unfold litL
    rw [if_neg (by omega), if_neg (by omega)]
    intro hm
    rcases List.mem_cons.1 hm with e | e
    · exact absurd e (by decide)
    · rcases List.mem_append.1 e with e | e
      · refine esc_no (fun c hc => ?_) e
        unfold okT at h4
        rw [List.all_eq_true] at h4
        first | exact h4 c hc | (rw [ByteArray.toList_eq] at h4; exact h4 c hc)
      · rcases List.mem_cons.1 e with e | e
        · exact absurd e (by decide)
        · cases e
theorem print_lit {v : Vl} (h : v.ok = true) : printL v = litL v := by unfold printL; rw [if_pos h]
theorem item_line {x : Kv} (hk : validK x.1 = true) (hv : x.2.ok = true) (hr : x.2.rng) : (10 : UInt8) ∉ (x.1.data.toList ++ 32 :: printL x.2) ∧ itemD (x.1.data.toList ++ 32 :: printL x.2) = some x := by
  obtain ⟨k1, k2⟩ := key_no hk
  refine ⟨?_, ?_⟩
  · intro hm
    rcases List.mem_append.1 hm with e | e
    · exact k1 e
    · rcases List.mem_cons.1 e with e | e
      · exact absurd e (by decide)
      · rw [print_lit hv] at e; exact lit_no hv e
  · unfold itemD itemP
    rw [cutL_some _ k2]
    simp only
    rw [print_lit hv, parse_lit hv hr, if_pos (show (Pz.good x.2).e = 0 from rfl)]
    simp only
    have e : (⟨x.1.data.toList.toArray⟩ : ByteArray) = x.1 := by simp
    rw [e, if_pos hk]
    rfl
theorem docL_lines {p q : Nat} : ∀ (X acc : List Kv), (∀ x ∈ X, validK x.1 = true ∧ x.2.ok = true ∧ x.2.rng) → Asc (acc ++ X) → (∀ t, t < p → cntP p t (acc ++ X) ≤ q) → 0 < p → docL p q acc (X.flatMap lineL) = some (acc ++ X)
  | [], acc, _, _, _, _ => by simp [docL_nil]
  | x :: X, acc, h, ha, hc, hp => by
    obtain ⟨h1, h2, h3⟩ := h x (List.mem_cons_self ..)
    obtain ⟨n1, n2⟩ := item_line h1 h2 h3
    have e : (x :: X).flatMap lineL = (x.1.data.toList ++ 32 :: printL x.2) ++ 10 :: X.flatMap lineL := by
      rw [List.flatMap_cons]
      unfold lineL
      simp
    rw [e, docL_step (lnL_some _ n1), n2]
    simp only
    have hs : stepD p q acc x = true := by
      unfold stepD
      rw [Bool.and_eq_true]
      refine ⟨asc_last ha, decide_eq_true ?_⟩
      have := hc (partK p x.1) (partK_lt _ hp)
      rw [show acc ++ x :: X = (acc ++ [x]) ++ X by simp, cnt_app] at this
      omega
    rw [if_pos hs]
    have := docL_lines X (acc ++ [x]) (fun y hy => h y (List.mem_cons_of_mem _ hy)) (by simpa using ha) (by simpa using hc) hp
    rw [this]; simp
/-- a store's bytes are read as the store -/
theorem load_bytes {s : St} (h : s.Ok) (hr : ∀ x ∈ s.L, x.2.rng) : loadL (bytesS s) = some s := by
  unfold loadL bytesS headL
  rw [List.append_assoc, List.cons_append, List.append_assoc, List.cons_append, List.nil_append, numH_itoa (by have := h.parts; omega) h.parts.1]
  simp only
  rw [numH_itoa h.room.2 h.room.1]
  simp only
  rw [if_pos h.parts.2, docL_lines s.L [] (fun x hx => ⟨h.key x hx, h.val x hx, hr x hx⟩) (by simpa using h.asc) (by simpa using h.cnt) (by have := h.parts; omega)]
  simp
/-- what is read is a store -/
theorem docL_ok {p q : Nat} (hp : 0 < p) {rest : List UInt8} {L : List Kv} (h : docL p q [] rest = some L) : Goodly p q L ∧ ∀ x ∈ L, x.2.ok = true ∧ x.2.rng := by
  unfold docL at h
  cases hl : linesL rest with
  | none => rw [hl] at h; cases h
  | some M =>
    rw [hl] at h
    obtain ⟨X, h1, h2, h3⟩ := (fold_good hp M [] L (goodly_nil p q)).1 h
    rw [List.nil_append] at h2
    subst h2
    exact ⟨h3, parP_ok h1⟩
end Go.Proofs.YtphglnenafdkaaaGreatDoor

namespace Go.Proofs.YtphglnenafdkaaaGreatDoor
open Go.RowKit
set_option linter.unusedVariables false
set_option linter.unusedSimpArgs false

set_option maxRecDepth 100000 in
set_option maxHeartbeats 4000000 in
theorem rparse_any (s : ByteArray) (w : World) (hs : s.size ≤ 140737488351232) (he : Env w) : Calls Tryz.prog 84 #[.string s] w (PzOut (parseL s.data.toList) w) := by
  have hz := hid (VZ.start w)
  have he := hid (he.below (hz.out.bel))
  by_cases h00 : s.size = 0
  · obtain rfl := size0 h00
    clear h00 hs
    go_enter Tryz.func84, Tryz.ntmps84
    go_upto_region 1 with fail
    generalize w.alloc (.cells #[.int .i64 0, .int .i64 0, .string ⟨#[]⟩] 38) = W at *
    obtain ⟨fz, hltz, z0, z1, z2⟩ := hz.out.facts
    go_wp2_with fail
    have hT := hz.out.set ⟨0, 0, ⟨#[]⟩⟩
    try dsimp only at hT
    obtain ⟨-, -, z0, z1, z2⟩ := hT.facts
    try dsimp only at z0 z1 z2
    refine bodyPost_ret (v := .tuple #[.agg #[.int .i64 (⟨0, 0, ⟨#[]⟩⟩ : Vl).k, .int .i64 (⟨0, 0, ⟨#[]⟩⟩ : Vl).n, .string (⟨0, 0, ⟨#[]⟩⟩ : Vl).s], .int .i64 3, .int .i64 0]) (by simp [results, Tryz.results84, go_sem, z0, z1, z2]) rfl ⟨?_, hT.bel⟩
    rfl
  have h0 : 0 < s.size := by omega
  have hne : s ≠ ⟨#[]⟩ := fun e => h00 (by rw [e]; rfl)
  have hnil := str_nil hne
  have i00 : (0 : Int) < (s.size : Int) := by omega
  have hpc := parse_c h0
  clear h00 hne
  generalize hpp : parseL s.data.toList = p at *
  clear hpp
  by_cases h34 : s.data[0]'h0 = 34
  · rw [if_pos h34] at hpc
    have b0 : (s[0]'h0).toNat = 34 := byte_eq (hk := h0) h34
    have b1 : (((s[0]'h0).toNat : Int) == 34) = true := by rw [b0]; rfl
    have b3 : (((s[0]'h0).toNat : Int) == 110) = false := by rw [b0]; rfl
    skip
    have hk := hid (rwordL_any s (w.alloc (.cells #[.int .i64 0, .int .i64 0, .string ⟨#[]⟩] 38)) hs h0)
    rw [← hpc] at hk
    clear hpc h34
    go_enter Tryz.func84, Tryz.ntmps84
    go_upto_region 1 with fail
    generalize w.alloc (.cells #[.int .i64 0, .int .i64 0, .string ⟨#[]⟩] 38) = W at *
    obtain ⟨fz, hltz, z0, z1, z2⟩ := hz.out.facts
    go_wp2_with fail
    refine hk.out.mono ?_
    rintro e w2 ⟨rfl, hb20⟩
    have hz := hid (hz.out.below hb20)
    clear hb20 fz hltz z0 z1 z2
    obtain ⟨fz, hltz, z0, z1, z2⟩ := hz.out.facts
    go_wp2_with fail
    have hT := hz.out.set p.v
    try dsimp only at hT
    obtain ⟨-, -, z0, z1, z2⟩ := hT.facts
    try dsimp only at z0 z1 z2
    refine bodyPost_ret (v := .tuple #[.agg #[.int .i64 (p.v : Vl).k, .int .i64 (p.v : Vl).n, .string (p.v : Vl).s], .int .i64 p.e, .int .i64 (p.at_ : Nat)]) (by simp [results, Tryz.results84, go_sem, z0, z1, z2]) rfl ⟨?_, hT.bel⟩
    rfl

  rw [if_neg h34] at hpc
  have c0 : (s[0]'h0).toNat ≠ 34 := byte_ne (hk := h0) h34
  have b1 : (((s[0]'h0).toNat : Int) == 34) = false := by simp; omega
  by_cases h45 : s.data[0]'h0 = 45
  · rw [if_pos (.inl h45)] at hpc
    have b0 : (s[0]'h0).toNat = 45 := byte_eq (hk := h0) h45
    have b2 : (((s[0]'h0).toNat : Int) == 45) = true := by rw [b0]; rfl
    have b3 : (((s[0]'h0).toNat : Int) == 110) = false := by rw [b0]; rfl
    clear c0
    skip
    have hk := hid (rnum1_any s (w.alloc (.cells #[.int .i64 0, .int .i64 0, .string ⟨#[]⟩] 38)) hs h0 h45)
    rw [← hpc] at hk
    clear hpc h34 h45
    go_enter Tryz.func84, Tryz.ntmps84
    go_upto_region 1 with fail
    generalize w.alloc (.cells #[.int .i64 0, .int .i64 0, .string ⟨#[]⟩] 38) = W at *
    obtain ⟨fz, hltz, z0, z1, z2⟩ := hz.out.facts
    go_wp2_with fail
    refine hk.out.mono ?_
    rintro e w2 ⟨rfl, hb20⟩
    have hz := hid (hz.out.below hb20)
    clear hb20 fz hltz z0 z1 z2
    obtain ⟨fz, hltz, z0, z1, z2⟩ := hz.out.facts
    go_wp2_with fail
    have hT := hz.out.set p.v
    try dsimp only at hT
    obtain ⟨-, -, z0, z1, z2⟩ := hT.facts
    try dsimp only at z0 z1 z2
    refine bodyPost_ret (v := .tuple #[.agg #[.int .i64 (p.v : Vl).k, .int .i64 (p.v : Vl).n, .string (p.v : Vl).s], .int .i64 p.e, .int .i64 (p.at_ : Nat)]) (by simp [results, Tryz.results84, go_sem, z0, z1, z2]) rfl ⟨?_, hT.bel⟩
    rfl

  have c1 : (s[0]'h0).toNat ≠ 45 := byte_ne (hk := h0) h45
  have b2 : (((s[0]'h0).toNat : Int) == 45) = false := by simp; omega
  cases hd : isD (s.data[0]'h0) with
  | true =>
    rw [if_pos (.inr hd)] at hpc
    have hd2 := isD_iff.1 hd
    have c2 : (48 : Int) ≤ ((s[0]'h0).toNat : Int) := by show (48 : Int) ≤ ((s.data[0]'h0).toNat : Int); omega
    have c3 : ((s[0]'h0).toNat : Int) ≤ 57 := by show ((s.data[0]'h0).toNat : Int) ≤ 57; omega
    have b3 : (((s[0]'h0).toNat : Int) == 110) = false := by simp; omega
    have hdg : Hid (Calls Tryz.prog 107 #[.string s, .int .i64 0] (w.alloc (.cells #[.int .i64 0, .int .i64 0, .string ⟨#[]⟩] 38)) fun e w' => e = .returned (.bool true) ∧ w' = (w.alloc (.cells #[.int .i64 0, .int .i64 0, .string ⟨#[]⟩] 38))) := hid (by have h := rdigit_any s 0 (w.alloc (.cells #[.int .i64 0, .int .i64 0, .string ⟨#[]⟩] 38)); rw [dAt_lt h0, hd] at h; exact h)
    clear c0 c1 hd2
    skip
    have hk := hid (rnum0_any s (w.alloc (.cells #[.int .i64 0, .int .i64 0, .string ⟨#[]⟩] 38)) hs h0 hd)
    rw [← hpc] at hk
    clear hpc h34 h45 hd
    go_enter Tryz.func84, Tryz.ntmps84
    go_upto_region 1 with fail
    generalize w.alloc (.cells #[.int .i64 0, .int .i64 0, .string ⟨#[]⟩] 38) = W at *
    obtain ⟨fz, hltz, z0, z1, z2⟩ := hz.out.facts
    go_wp2_with fail
    refine hdg.out.mono ?_
    rintro e w2 ⟨rfl, hwq⟩
    obtain rfl := hwq.symm
    clear hdg
    go_wp2_with fail
    refine hk.out.mono ?_
    rintro e w2 ⟨rfl, hb20⟩
    have hz := hid (hz.out.below hb20)
    clear hb20 fz hltz z0 z1 z2
    obtain ⟨fz, hltz, z0, z1, z2⟩ := hz.out.facts
    go_wp2_with fail
    have hT := hz.out.set p.v
    try dsimp only at hT
    obtain ⟨-, -, z0, z1, z2⟩ := hT.facts
    try dsimp only at z0 z1 z2
    refine bodyPost_ret (v := .tuple #[.agg #[.int .i64 (p.v : Vl).k, .int .i64 (p.v : Vl).n, .string (p.v : Vl).s], .int .i64 p.e, .int .i64 (p.at_ : Nat)]) (by simp [results, Tryz.results84, go_sem, z0, z1, z2]) rfl ⟨?_, hT.bel⟩
    rfl

  | false =>
    rw [if_neg (by rintro (h | h); exact h45 h; rw [hd] at h; cases h)] at hpc
    have hd2 : ¬ (48 ≤ (s.data[0]'h0).toNat ∧ (s.data[0]'h0).toNat ≤ 57) := fun h => by rw [isD_iff.2 h] at hd; cases hd
    have hdg : Hid (Calls Tryz.prog 107 #[.string s, .int .i64 0] (w.alloc (.cells #[.int .i64 0, .int .i64 0, .string ⟨#[]⟩] 38)) fun e w' => e = .returned (.bool false) ∧ w' = (w.alloc (.cells #[.int .i64 0, .int .i64 0, .string ⟨#[]⟩] 38))) := hid (by have h := rdigit_any s 0 (w.alloc (.cells #[.int .i64 0, .int .i64 0, .string ⟨#[]⟩] 38)); rw [dAt_lt h0, hd] at h; exact h)
    by_cases h110 : s.data[0]'h0 = 110
    · have b0 : (s[0]'h0).toNat = 110 := byte_eq (hk := h0) h110
      have b3 : (((s[0]'h0).toNat : Int) == 110) = true := by rw [b0]; rfl
      clear c0 c1 hd2 hdg
      skip
      have hk := hid (rnothing_any s (w.alloc (.cells #[.int .i64 0, .int .i64 0, .string ⟨#[]⟩] 38)) hs)
      rw [← hpc] at hk
      clear hpc h34 h45 hd h110
      go_enter Tryz.func84, Tryz.ntmps84
      go_upto_region 1 with fail
      generalize w.alloc (.cells #[.int .i64 0, .int .i64 0, .string ⟨#[]⟩] 38) = W at *
      obtain ⟨fz, hltz, z0, z1, z2⟩ := hz.out.facts
      go_wp2_with fail
      refine hk.out.mono ?_
      rintro e w2 ⟨rfl, hb20⟩
      have hz := hid (hz.out.below hb20)
      clear hb20 fz hltz z0 z1 z2
      obtain ⟨fz, hltz, z0, z1, z2⟩ := hz.out.facts
      go_wp2_with fail
      have hT := hz.out.set p.v
      try dsimp only at hT
      obtain ⟨-, -, z0, z1, z2⟩ := hT.facts
      try dsimp only at z0 z1 z2
      refine bodyPost_ret (v := .tuple #[.agg #[.int .i64 (p.v : Vl).k, .int .i64 (p.v : Vl).n, .string (p.v : Vl).s], .int .i64 p.e, .int .i64 (p.at_ : Nat)]) (by simp [results, Tryz.results84, go_sem, z0, z1, z2]) rfl ⟨?_, hT.bel⟩
      rfl

    · have c4 : (s[0]'h0).toNat ≠ 110 := byte_ne (hk := h0) h110
      have b3 : (((s[0]'h0).toNat : Int) == 110) = false := by simp; omega
      rw [want_c h0 h110] at hpc
      have hfin := hid hpc
      clear c0 c1 hd2 c4 hpc h34 h45 hd h110
      go_enter Tryz.func84, Tryz.ntmps84
      go_upto_region 1 with fail
      generalize w.alloc (.cells #[.int .i64 0, .int .i64 0, .string ⟨#[]⟩] 38) = W at *
      obtain ⟨fz, hltz, z0, z1, z2⟩ := hz.out.facts
      go_wp2_with fail
      refine hdg.out.mono ?_
      rintro e w2 ⟨rfl, hwq⟩
      obtain rfl := hwq.symm
      clear hdg
      go_wp2_with fail
      have hT := hz.out.set ⟨0, 0, ⟨#[]⟩⟩
      try dsimp only at hT
      obtain ⟨-, -, z0, z1, z2⟩ := hT.facts
      try dsimp only at z0 z1 z2
      refine bodyPost_ret (v := .tuple #[.agg #[.int .i64 (⟨0, 0, ⟨#[]⟩⟩ : Vl).k, .int .i64 (⟨0, 0, ⟨#[]⟩⟩ : Vl).n, .string (⟨0, 0, ⟨#[]⟩⟩ : Vl).s], .int .i64 21, .int .i64 0]) (by simp [results, Tryz.results84, go_sem, z0, z1, z2]) rfl ⟨?_, hT.bel⟩
      rw [hfin.out]; rfl


end Go.Proofs.YtphglnenafdkaaaGreatDoor

namespace Go.Proofs.YtphglnenafdkaaaGreatDoor
open Go.RowKit
set_option linter.unusedVariables false
set_option linter.unusedSimpArgs false

theorem scan_form2 : ∀ (n : Nat) (r : List UInt8) (i : Nat) (out : List UInt8), r.length ≤ n → (scanL r i out).e = 0 ∨ (scanL r i out).v = vl0 := by
  intro n
  induction n with
  | zero => intro r i out hr; obtain rfl := List.eq_nil_of_length_eq_zero (by omega : r.length = 0); right; rfl
  | succ n ih =>
    intro r i out hr
    cases r with
    | nil => right; rfl
    | cons c r =>
      by_cases h4 : c = 92
      · subst h4
        cases r with
        | nil => rw [scan_b1]; split <;> exact .inr rfl
        | cons d r' =>
          rw [scan_b2]
          split
          · exact .inr rfl
          · split
            · exact ih _ _ _ (by simp at hr; omega)
            · exact .inr rfl
      · rw [scan_c h4]
        split
        · split
          · exact .inl rfl
          · exact .inr rfl
        · split
          · exact .inr rfl
          · split
            · exact .inr rfl
            · exact ih _ _ _ (by simpa using hr)
theorem want_form : ∀ (q r : List UInt8) (i : Nat), (wantL r q i).v = vl0
  | [], [], _ => rfl
  | [], _ :: _, _ => rfl
  | _ :: _, [], _ => rfl
  | d :: q, c :: r, i => by
    unfold wantL
    split
    · exact want_form q r _
    · rfl
theorem numE_form (neg : Bool) (ds : List UInt8) (len : Nat) : (numE neg ds len).e = 0 ∨ (numE neg ds len).v = vl0 := by
  unfold numE
  simp only
  repeat' split
  all_goals first | exact .inr rfl | exact .inl rfl
theorem parse_form (s : List UInt8) : (parseL s).e = 0 ∨ (parseL s).v = vl0 := by
  cases s with
  | nil => exact .inr rfl
  | cons c r =>
    simp only [parseL]
    split
    · exact scan_form2 _ _ _ _ (Nat.le_refl _)
    · split
      · exact numE_form _ _ _
      · exact .inr (want_form _ _ _)
/-- what Number gives -/
theorem numR_zero (s : List UInt8) (h : ¬ ((parseL s).e = 0 ∧ (parseL s).v.k = 1)) : numR (parseL s) = (0, false) := by
  unfold numR
  rw [decide_eq_false h]
  rcases parse_form s with he | hv
  · obtain ⟨v, e1, e2, e3, _⟩ := parse_good he
    rw [e1] at h ⊢
    rcases ok_forms e2 with rfl | ⟨h1, _⟩ | ⟨_, h2, _⟩
    · rfl
    · exact absurd ⟨rfl, h1⟩ h
    · show (v.n, false) = _; rw [h2]
  · rw [hv]; rfl

set_option maxRecDepth 100000 in
set_option maxHeartbeats 1000000 in
theorem number_any (s : ByteArray) (hs : s.size ≤ 140737488351232) (w : World) (he : Env w) : Calls Tryz.prog 57 #[.string s] w fun e w' => e = .returned (.tuple #[.int .i64 (numR (parseL s.data.toList)).1, .bool (numR (parseL s.data.toList)).2]) ∧ Below w.heap.size w w' := by
  have hk := parse_any s w hs he
  have hzr := numR_zero s.data.toList
  generalize parseL s.data.toList = p at *
  have hk := hid hk
  clear he hs
  clear hzr
  by_cases h0 : p.e = 0
  · have t1 : (p.e == 0) = true := by simpa using h0
    have hn : Hid (numR p = (p.v.n, (p.v.k == 1))) := hid (by unfold numR; congr 1; rw [Bool.eq_iff_iff]; simp [h0])
    clear h0
    go_enter Tryz.func57, Tryz.ntmps57
    go_wp2_with fail
    refine hk.out.mono ?_
    rintro e w1 ⟨rfl, hb10⟩
    have hb1 := hid hb10
    clear hb10 hk
    go_upto_region 2 with fail
    have kv := hid (Blk.new w1 38 #[.int .i64 p.v.k, .int .i64 p.v.n, .string p.v.s])
    have hB2 : Below w1.heap.size w1 (w1.alloc (.cells #[.int .i64 p.v.k, .int .i64 p.v.n, .string p.v.s] 38)) := (Below.refl _ _).alloc (Nat.le_refl _) _
    have hb2 := hid (hb1.out.trans (hB2.mono hb1.out.size))
    have x0 : (w1.alloc (.cells #[.int .i64 p.v.k, .int .i64 p.v.n, .string p.v.s] 38)).cell? ⟨w1.heap.size, 0, none⟩ = some (.int .i64 p.v.k) := kv.out.cell 0
    have x1 : (w1.alloc (.cells #[.int .i64 p.v.k, .int .i64 p.v.n, .string p.v.s] 38)).cell? ⟨w1.heap.size, 1, none⟩ = some (.int .i64 p.v.n) := kv.out.cell 1
    obtain ⟨g, hg⟩ : ∃ g, g = w1.heap.size := ⟨_, rfl⟩
    rw [← hg] at x0 x1
    generalize w1.alloc (.cells #[.int .i64 p.v.k, .int .i64 p.v.n, .string p.v.s] 38) = w2 at *
    simp only [← hg]
    clear hB2 hb1 hg kv
    go_quiet (fail)
    go_wp2_with fail
    refine bodyPost_ret (v := .tuple #[.int .i64 (p.v.n), .bool (p.v.k == 1)]) (by simp [results, Tryz.results57, go_sem]) rfl ⟨?_, ⟨hb2.out.os, hb2.out.tape, hb2.out.output, hb2.out.size, hb2.out.block⟩⟩
    rw [hn.out]
  · have t1 : (p.e == 0) = false := by simpa using h0
    have hn : Hid (numR p = (p.v.n, false)) := hid (by unfold numR; congr 1; exact decide_eq_false (fun e => h0 e.1))
    clear h0
    go_enter Tryz.func57, Tryz.ntmps57
    go_wp2_with fail
    refine hk.out.mono ?_
    rintro e w1 ⟨rfl, hb10⟩
    have hb1 := hid hb10
    clear hb10 hk
    go_upto_region 2 with fail
    have kv := hid (Blk.new w1 38 #[.int .i64 p.v.k, .int .i64 p.v.n, .string p.v.s])
    have hB2 : Below w1.heap.size w1 (w1.alloc (.cells #[.int .i64 p.v.k, .int .i64 p.v.n, .string p.v.s] 38)) := (Below.refl _ _).alloc (Nat.le_refl _) _
    have hb2 := hid (hb1.out.trans (hB2.mono hb1.out.size))
    have x0 : (w1.alloc (.cells #[.int .i64 p.v.k, .int .i64 p.v.n, .string p.v.s] 38)).cell? ⟨w1.heap.size, 0, none⟩ = some (.int .i64 p.v.k) := kv.out.cell 0
    have x1 : (w1.alloc (.cells #[.int .i64 p.v.k, .int .i64 p.v.n, .string p.v.s] 38)).cell? ⟨w1.heap.size, 1, none⟩ = some (.int .i64 p.v.n) := kv.out.cell 1
    obtain ⟨g, hg⟩ : ∃ g, g = w1.heap.size := ⟨_, rfl⟩
    rw [← hg] at x0 x1
    generalize w1.alloc (.cells #[.int .i64 p.v.k, .int .i64 p.v.n, .string p.v.s] 38) = w2 at *
    simp only [← hg]
    clear hB2 hb1 hg kv
    go_quiet (fail)
    go_wp2_with fail
    refine bodyPost_ret (v := .tuple #[.int .i64 (p.v.n), .bool false]) (by simp [results, Tryz.results57, go_sem]) rfl ⟨?_, ⟨hb2.out.os, hb2.out.tape, hb2.out.output, hb2.out.size, hb2.out.block⟩⟩
    rw [hn.out]

set_option maxRecDepth 100000 in
set_option maxHeartbeats 1000000 in
theorem rnumber_any2 (s : ByteArray) (hs : s.size ≤ 140737488351232) (w : World) (he : Env w) : Calls Tryz.prog 83 #[.string s] w fun e w' => e = .returned (.tuple #[.int .i64 (numR (parseL s.data.toList)).1, .bool (numR (parseL s.data.toList)).2]) ∧ Below w.heap.size w w' := by
  have hk := rparse_any s w hs he
  have hzr := numR_zero s.data.toList
  generalize parseL s.data.toList = p at *
  have hk := hid hk
  clear he hs
  by_cases h0 : p.e = 0
  · have t1 : (p.e != 0) = false := by simpa using h0
    by_cases h1 : p.v.k = 1
    · have t2 : (p.v.k != 1) = false := by simpa using h1
      have hn : Hid (numR p = (p.v.n, true)) := hid (by unfold numR; congr 1; exact decide_eq_true ⟨h0, h1⟩)
      clear h0 h1 hzr
      go_enter Tryz.func83, Tryz.ntmps83
      go_wp2_with fail
      refine hk.out.mono ?_
      rintro e w1 ⟨rfl, hb10⟩
      have hb1 := hid hb10
      clear hb10 hk
      go_upto_region 2 with fail
      have kv := hid (Blk.new w1 38 #[.int .i64 p.v.k, .int .i64 p.v.n, .string p.v.s])
      have hB2 : Below w1.heap.size w1 (w1.alloc (.cells #[.int .i64 p.v.k, .int .i64 p.v.n, .string p.v.s] 38)) := (Below.refl _ _).alloc (Nat.le_refl _) _
      have hb2 := hid (hb1.out.trans (hB2.mono hb1.out.size))
      have x0 : (w1.alloc (.cells #[.int .i64 p.v.k, .int .i64 p.v.n, .string p.v.s] 38)).cell? ⟨w1.heap.size, 0, none⟩ = some (.int .i64 p.v.k) := kv.out.cell 0
      have x1 : (w1.alloc (.cells #[.int .i64 p.v.k, .int .i64 p.v.n, .string p.v.s] 38)).cell? ⟨w1.heap.size, 1, none⟩ = some (.int .i64 p.v.n) := kv.out.cell 1
      obtain ⟨g, hg⟩ : ∃ g, g = w1.heap.size := ⟨_, rfl⟩
      rw [← hg] at x0 x1
      generalize w1.alloc (.cells #[.int .i64 p.v.k, .int .i64 p.v.n, .string p.v.s] 38) = w2 at *
      simp only [← hg]
      clear hB2 hb1 hg kv
      go_wp2_with fail
      refine bodyPost_ret (v := .tuple #[.int .i64 (p.v.n), .bool true]) (by simp [results, Tryz.results83, go_sem]) rfl ⟨?_, hb2.out⟩
      rw [hn.out]
    · have t2 : (p.v.k != 1) = true := by simpa using h1
      have hn : Hid (numR p = (0, false)) := hid (hzr fun e => h1 e.2)
      clear h0 h1 hzr
      go_enter Tryz.func83, Tryz.ntmps83
      go_wp2_with fail
      refine hk.out.mono ?_
      rintro e w1 ⟨rfl, hb10⟩
      have hb1 := hid hb10
      clear hb10 hk
      go_upto_region 2 with fail
      have kv := hid (Blk.new w1 38 #[.int .i64 p.v.k, .int .i64 p.v.n, .string p.v.s])
      have hB2 : Below w1.heap.size w1 (w1.alloc (.cells #[.int .i64 p.v.k, .int .i64 p.v.n, .string p.v.s] 38)) := (Below.refl _ _).alloc (Nat.le_refl _) _
      have hb2 := hid (hb1.out.trans (hB2.mono hb1.out.size))
      have x0 : (w1.alloc (.cells #[.int .i64 p.v.k, .int .i64 p.v.n, .string p.v.s] 38)).cell? ⟨w1.heap.size, 0, none⟩ = some (.int .i64 p.v.k) := kv.out.cell 0
      have x1 : (w1.alloc (.cells #[.int .i64 p.v.k, .int .i64 p.v.n, .string p.v.s] 38)).cell? ⟨w1.heap.size, 1, none⟩ = some (.int .i64 p.v.n) := kv.out.cell 1
      obtain ⟨g, hg⟩ : ∃ g, g = w1.heap.size := ⟨_, rfl⟩
      rw [← hg] at x0 x1
      generalize w1.alloc (.cells #[.int .i64 p.v.k, .int .i64 p.v.n, .string p.v.s] 38) = w2 at *
      simp only [← hg]
      clear hB2 hb1 hg kv
      go_wp2_with fail
      refine bodyPost_ret (v := .tuple #[.int .i64 (0), .bool false]) (by simp [results, Tryz.results83, go_sem]) rfl ⟨?_, hb2.out⟩
      rw [hn.out]
  · have t1 : (p.e != 0) = true := by simpa using h0
    have hn : Hid (numR p = (0, false)) := hid (hzr fun e => h0 e.1)
    clear h0 hzr
    go_enter Tryz.func83, Tryz.ntmps83
    go_wp2_with fail
    refine hk.out.mono ?_
    rintro e w1 ⟨rfl, hb10⟩
    have hb1 := hid hb10
    clear hb10 hk
    go_upto_region 2 with fail
    have kv := hid (Blk.new w1 38 #[.int .i64 p.v.k, .int .i64 p.v.n, .string p.v.s])
    have hB2 : Below w1.heap.size w1 (w1.alloc (.cells #[.int .i64 p.v.k, .int .i64 p.v.n, .string p.v.s] 38)) := (Below.refl _ _).alloc (Nat.le_refl _) _
    have hb2 := hid (hb1.out.trans (hB2.mono hb1.out.size))
    have x0 : (w1.alloc (.cells #[.int .i64 p.v.k, .int .i64 p.v.n, .string p.v.s] 38)).cell? ⟨w1.heap.size, 0, none⟩ = some (.int .i64 p.v.k) := kv.out.cell 0
    have x1 : (w1.alloc (.cells #[.int .i64 p.v.k, .int .i64 p.v.n, .string p.v.s] 38)).cell? ⟨w1.heap.size, 1, none⟩ = some (.int .i64 p.v.n) := kv.out.cell 1
    obtain ⟨g, hg⟩ : ∃ g, g = w1.heap.size := ⟨_, rfl⟩
    rw [← hg] at x0 x1
    generalize w1.alloc (.cells #[.int .i64 p.v.k, .int .i64 p.v.n, .string p.v.s] 38) = w2 at *
    simp only [← hg]
    clear hB2 hb1 hg kv
    go_wp2_with fail
    refine bodyPost_ret (v := .tuple #[.int .i64 (0), .bool false]) (by simp [results, Tryz.results83, go_sem]) rfl ⟨?_, hb2.out⟩
    rw [hn.out]

end Go.Proofs.YtphglnenafdkaaaGreatDoor

namespace Go.Proofs.YtphglnenafdkaaaGreatDoor
open Go.RowKit
theorem vnumber_any (s : ByteArray) (hs : s.size ≤ 140737488351232) (w : World) (he : Env w) : Calls Tryz.prog 57 #[.string s] w fun e w' => e = .returned (.tuple #[.int .i64 (numR (parseL s.data.toList)).1, .bool (numR (parseL s.data.toList)).2]) ∧ Below w.heap.size w w' := number_any s hs w he
end Go.Proofs.YtphglnenafdkaaaGreatDoor

namespace Go.Proofs.YtphglnenafdkaaaGreatDoor
open Go.RowKit
set_option linter.unusedVariables false
set_option linter.unusedSimpArgs false

/-- Env, and the library's word size -/
structure EnvL (w : World) : Prop where
  env : Env w
  word : ∃ m, w.cell? ⟨1, 0, none⟩ = some (.int .i64 m)
theorem EnvL.below {w w' : World} (h : EnvL w) (hb : Below w.heap.size w w') : EnvL w' := by
  obtain ⟨m, hm⟩ := h.word
  refine ⟨h.env.below hb, m, ?_⟩
  have hlt : 1 < w.heap.size := by
    unfold World.cell? at hm
    cases ho : w.heap[1]? with
    | none => simp [ho] at hm
    | some o => exact (Array.getElem?_eq_some_iff.1 ho).1
  exact (World.cell?_of_block (hb.block _ hlt)).trans hm
theorem envL_of {W : World} (h : Env W) (hs : W.ShapedOpen Tryz.prog) : EnvL W := ⟨h, laysM145.s1_3 W hs⟩
theorem cut_any (s sep : ByteArray) (w : World) (hs : s.size < 4294967281) (h : EnvL w) : Calls Tryz.prog 58 #[.string s, .string sep] w fun e w' => e = .returned (.tuple #[.string ⟨(Lib.cut s.data.toList sep.data.toList).1.toArray⟩, .string ⟨(Lib.cut s.data.toList sep.data.toList).2.1.toArray⟩, .bool (Lib.cut s.data.toList sep.data.toList).2.2]) ∧ ∃ n, w' = w.drewN n := by
  obtain ⟨m, hm⟩ := h.word
  exact Any.strings_Cut { laysM145 with } s sep m w hs hm
theorem split_any (s sep : ByteArray) (w : World) (hs : s.size < 4294967281) (h1 : 1 ≤ sep.size) (h : EnvL w) : Calls Tryz.prog 56 #[.string s, .string sep] w fun e w' => e = .returned (.slice (some ⟨w.heap.size, 0, none⟩) (Lib.countB s sep + 1) (Lib.countB s sep + 1)) ∧ w' = w.alloc (.cells ((Lib.splitB sep 0 (Lib.countB s sep) s).map Value.string).toArray 9) := by
  obtain ⟨m, hm⟩ := h.word
  exact Any.strings_Split { laysM146 with } laysM146.i9 s sep m w hs hm h1
end Go.Proofs.YtphglnenafdkaaaGreatDoor

namespace Go.Proofs.YtphglnenafdkaaaGreatDoor
open Go.RowKit
set_option linter.unusedVariables false
set_option linter.unusedSimpArgs false

/-- an act -/
structure SA where
  kind : Int
  ks : List ByteArray
  ws : List Wr
  A1 : Option Addr
  c1 : Nat
  A2 : Option Addr
  c2 : Nat
def scells (a : SA) : List Value := [.int .i64 a.kind, .slice a.A1 a.ks.length a.c1, .slice a.A2 a.ws.length a.c2]
def SA.ok (S : Nat → Prop) (w : World) (a : SA) : Prop := Rd S w 1 a.A1 a.ks.length (strs a.ks) ∧ Rd S w 5 a.A2 a.ws.length (wrCells a.ws)
structure SActs (S : Nat → Prop) (w : World) (A : Option Addr) (us : List SA) : Prop where
  row : Rd S w 3 A us.length (us.flatMap scells)
  ok : ∀ a ∈ us, a.ok S w
theorem SActs.keep {S : Nat → Prop} {w w' : World} {A : Option Addr} {us : List SA} (h : SActs S w A us) (hk : ∀ b, S b → b < w.heap.size → w'.heap[b]? = w.heap[b]?) : SActs S w' A us := ⟨h.row.keep hk, fun a ha => ⟨(h.ok a ha).1.keep hk, (h.ok a ha).2.keep hk⟩⟩
theorem SActs.below {S : Nat → Prop} {w w' : World} {A : Option Addr} {us : List SA} (h : SActs S w A us) (hb : Below w.heap.size w w') : SActs S w' A us := h.keep fun b _ hl => hb.block b hl
theorem aflat_at {α : Type} (f : α → List Value) (sz : Nat) (hf : ∀ a, (f a).length = sz) (l : List α) (k j : Nat) (h : k < l.length) (hj : j < sz) : (l.flatMap f)[k * sz + j]? = (f l[k])[j]? := by
  induction l generalizing k with
  | nil => simp at h
  | cons x l ih =>
    rw [List.flatMap_cons]
    cases k with
    | zero => rw [List.getElem?_append_left (by rw [hf]; omega)]; simp
    | succ k =>
      rw [List.getElem?_append_right (by rw [hf, Nat.succ_mul]; omega), hf, show (k + 1) * sz + j - sz = k * sz + j by rw [Nat.succ_mul]; omega, ih k (by simpa using h)]
      simp
theorem SActs.at_ {S : Nat → Prop} {w : World} {A : Option Addr} {us : List SA} {k : Nat} (h : SActs S w A us) (hk : k < us.length) : ∃ b o, A = some ⟨b, o, none⟩ ∧ S b ∧ b < w.heap.size ∧ us[k].ok S w ∧
    w.cell? ⟨b, o + k * 3, none⟩ = some (.int .i64 us[k].kind) ∧ w.cell? ⟨b, o + k * 3 + 1, none⟩ = some (.slice us[k].A1 us[k].ks.length us[k].c1) ∧ w.cell? ⟨b, o + k * 3 + 2, none⟩ = some (.slice us[k].A2 us[k].ws.length us[k].c2) := by
  obtain ⟨b, o, e, hS, hl, hc⟩ := h.row.at_ hk
  have g := fun j (hj : j < 3) u (hu : (scells us[k])[j]? = some u) => hc (k * 3 + j) u (by rw [aflat_at scells 3 (fun _ => rfl) us k j hk hj]; exact hu)
  simp only [← Nat.add_assoc] at g
  exact ⟨b, o, e, hS, hl, h.ok _ (List.getElem_mem hk), g 0 (by omega) _ rfl, g 1 (by omega) _ rfl, g 2 (by omega) _ rfl⟩
def partA (a : SA) : Nat := a.ks.length + a.ws.length
def partsA (us : List SA) : Nat := (us.map partA).sum
theorem partsA_take (us : List SA) (k : Nat) (h : k < us.length) : partsA (us.take (k + 1)) = partsA (us.take k) + partA us[k] := by
  unfold partsA
  rw [List.take_succ_eq_append_getElem h, List.map_append, List.sum_append, List.map_cons, List.map_nil, List.sum_cons, List.sum_nil]
  omega
theorem sum_take_le (l : List Nat) (k : Nat) : (l.take k).sum ≤ l.sum := by
  induction l generalizing k with
  | nil => simp
  | cons a l ih =>
    cases k with
    | zero => simp
    | succ k => have := ih k; simp; omega
theorem partsA_le (us : List SA) (k : Nat) : partsA (us.take k) ≤ partsA us := by
  unfold partsA
  have := sum_take_le (us.map partA) k
  rwa [← List.map_take] at this
theorem partsA_mem {us : List SA} {a : SA} (h : a ∈ us) : partA a ≤ partsA us := by
  unfold partsA
  induction us with
  | nil => cases h
  | cons x l ih =>
    rw [List.map_cons, List.sum_cons]
    rcases List.mem_cons.1 h with rfl | h
    · omega
    · have := ih h; omega
def longB (us : List SA) : Bool := decide (200 < us.length) || decide (6000 < partsA us)
set_option maxRecDepth 100000 in
set_option maxHeartbeats 1000000 in
theorem long_any {S : Nat → Prop} (p r : Int) {A : Option Addr} {c : Nat} {us : List SA} {w : World} (h : SActs S w A us) (hn : us.length ≤ 1048576) (hp : partsA us ≤ 1048576) : Calls Tryz.prog 7 #[.agg #[.int .i64 p, .int .i64 r, .slice A us.length c]] w fun e w' => e = .returned (.bool (longB us)) ∧ Below w.heap.size w w' := by
  have hB0 : Below w.heap.size w (w.alloc (.cells #[.int .i64 p, .int .i64 r, .slice A us.length c] 24)) := (Below.refl _ _).alloc (Nat.le_refl _) _
  have kb := hid (Blk.new w 24 #[.int .i64 p, .int .i64 r, .slice A us.length c])
  have hs := hid (h.below hB0)
  have hB := hid hB0
  have hN : (us.length : Int) ≤ 1048576 := by omega
  have hP := hid hp
  clear h hB0 hn hp
  go_enter Tryz.func7, Tryz.ntmps7
  go_upto_region 1 with fail
  generalize w.alloc (.cells #[.int .i64 p, .int .i64 r, .slice A us.length c] 24) = w1 at *
  generalize hm : w.heap.size = m at *
  go_wp2_with fail
  go_loopw [3, 4] (fun u v wr => ∃ k : Nat, u = .int .i64 (partsA (us.take k) : Nat) ∧ v = .int .i64 k ∧ k ≤ us.length ∧ Below w1.heap.size w1 wr) (fun u v _ => us.length - (intOf v).toNat)
  case atStart => exact ⟨0, rfl, rfl, Nat.zero_le _, Below.refl _ _⟩
  case round =>
    obtain ⟨k, rfl, rfl, hk, hb0⟩ := hrel
    have hb := hid hb0
    have kw := kb.out.below_all hb0
    have x2 : wr.cell? ⟨m, 2, none⟩ = some (.slice A us.length c) := kw.cell 2
    clear hb0 kw
    by_cases hlt : k < us.length
    · have i1 : (k : Int) < (us.length : Int) := by omega
      obtain ⟨b, o, rfl, _, _, _, _, y1, y2⟩ := (hs.out.below hb.out).at_ hlt
      have htk := partsA_take us k hlt
      have hle := partsA_le us (k + 1)
      have hP9 := hP.out
      obtain ⟨q, hq⟩ : ∃ q, q = partsA (us.take k) := ⟨_, rfl⟩
      have hpa : partA us[k] = us[k].ks.length + us[k].ws.length := rfl
      obtain ⟨n1, hn1⟩ : ∃ n, n = us[k].ks.length := ⟨_, rfl⟩
      obtain ⟨n2, hn2⟩ : ∃ n, n = us[k].ws.length := ⟨_, rfl⟩
      rw [← hn1] at y1 hpa
      rw [← hn2] at y2 hpa
      rw [← hq] at htk ⊢
      have z1 : IntKind.i64.wrap ((q : Int) + (n1 : Int)) = (q : Int) + (n1 : Int) := by rw [IntKind.wrap_i64]; omega
      have z2 : IntKind.i64.wrap ((q : Int) + (n1 : Int) + (n2 : Int)) = (q : Int) + (n1 : Int) + (n2 : Int) := by rw [IntKind.wrap_i64]; omega
      have hfin : Hid (((partsA (us.take (k + 1)) : Nat) : Int) = (q : Int) + (n1 : Int) + (n2 : Int)) := hid (by omega)
      clear htk hle hP9 hq hpa hn1 hn2
      go_wp2_with fail
      go_quiet (fail)
      go_wp2_with fail
      go_roundw
      case rel => exact ⟨k + 1, by rw [hfin.out], by go_num, hlt, below_drewN hb.out _⟩
      case measure => simp [intOf]; omega
    · obtain rfl : k = us.length := by omega
      rw [List.take_length]
      have hfb : Hid (Below w.heap.size w wr) := hid (by rw [hm]; exact hB.out.trans (hb.out.mono (by have := hB.out.size; omega)))
      obtain ⟨n, hn⟩ : ∃ n, n = us.length := ⟨_, rfl⟩
      obtain ⟨q, hq⟩ : ∃ q, q = partsA us := ⟨_, rfl⟩
      rw [← hn] at x2
      rw [← hn, ← hq]
      have hfin : Hid (longB us = (decide (200 < n) || decide (6000 < q))) := hid (by rw [hn, hq]; rfl)
      have hq9 : Hid (q ≤ 1048576) := hid (by rw [hq]; exact hP.out)
      clear hq hn hlt
      by_cases h1 : 200 < n
      · have t1 : decide ((200 : Int) < (n : Int)) = true := decide_eq_true (by omega)
        have t1n : decide (200 < n) = true := decide_eq_true h1
        have hf : Hid (longB us = true) := hid (by rw [hfin.out, t1n]; rfl)
        clear h1
        go_wp2_with fail
        go_ret
        exact ⟨by rw [hf.out]; rfl, hfb.out⟩
      · have t1 : decide ((200 : Int) < (n : Int)) = false := decide_eq_false (by omega)
        have t1n : decide (200 < n) = false := decide_eq_false h1
        have hf : Hid (longB us = decide ((6000 : Int) < (q : Int))) := hid (by rw [hfin.out, t1n, Bool.false_or]; exact decide_eq_decide.2 (by omega))
        clear h1
        go_wp2_with fail
        go_ret
        exact ⟨by rw [hf.out]; first | rfl | simp, hfb.out⟩
end Go.Proofs.YtphglnenafdkaaaGreatDoor

namespace Go.Proofs.YtphglnenafdkaaaGreatDoor
open Go.RowKit
set_option linter.unusedVariables false
set_option linter.unusedSimpArgs false

theorem has_pos {L : List Kv} {k : ByteArray} (ha : Asc L) (h : posK k L < L.length) : hasK k L = decide ((L[posK k L]).1 = k) := by
  cases hh : hasK k L with
  | true =>
    obtain ⟨x, h1, h2, _⟩ := pos_get ha hh
    rw [List.getElem?_eq_getElem h] at h1
    injection h1 with h1
    rw [h1, h2]; simp
  | false =>
    symm
    apply decide_eq_false
    intro e
    have : hasK k L = true := hasK_mem.2 ⟨_, List.getElem_mem h, e⟩
    rw [hh] at this; cases this
theorem has_end {L : List Kv} {k : ByteArray} (ha : Asc L) (h : ¬ posK k L < L.length) : hasK k L = false := by
  cases hh : hasK k L with
  | false => rfl
  | true =>
    obtain ⟨x, h1, _⟩ := pos_get ha hh
    exact absurd (List.getElem?_eq_some_iff.1 h1).1 h
theorem rnew_bad (p r : Int) (w : World) (h : goodPR p r = false) : Calls Tryz.prog 15 #[.int .i64 p, .int .i64 r] w fun e w' => e = .returned (.tuple #[.pointer none, .int .i64 2]) ∧ w' = w := by
  have hc : p < 1 ∨ (1 ≤ p ∧ 64 < p) ∨ (1 ≤ p ∧ p ≤ 64 ∧ r < 1) ∨ (1 ≤ p ∧ p ≤ 64 ∧ 1 ≤ r ∧ 4096 < r) := by
    unfold goodPR at h
    simp at h
    omega
  clear h
  rcases hc with h | ⟨h1, h⟩ | ⟨h1, h2, h⟩ | ⟨h1, h2, h3, h⟩
  · have t1 : decide (p < 1) = true := decide_eq_true h
    clear h
    go_enter Tryz.func15, Tryz.ntmps15
    go_wp2_with fail
    go_ret2
    exact ⟨rfl, rfl⟩
  · have t1 : decide (p < 1) = false := decide_eq_false (by omega)
    have t2 : decide (64 < p) = true := decide_eq_true h
    clear h h1
    go_enter Tryz.func15, Tryz.ntmps15
    go_wp2_with fail
    go_ret2
    exact ⟨rfl, rfl⟩
  · have t1 : decide (p < 1) = false := decide_eq_false (by omega)
    have t2 : decide (64 < p) = false := decide_eq_false (by omega)
    have t3 : decide (r < 1) = true := decide_eq_true h
    clear h h1 h2
    go_enter Tryz.func15, Tryz.ntmps15
    go_wp2_with fail
    go_ret2
    exact ⟨rfl, rfl⟩
  · have t1 : decide (p < 1) = false := decide_eq_false (by omega)
    have t2 : decide (64 < p) = false := decide_eq_false (by omega)
    have t3 : decide (r < 1) = false := decide_eq_false (by omega)
    have t4 : decide (4096 < r) = true := decide_eq_true h
    clear h h1 h2 h3
    go_enter Tryz.func15, Tryz.ntmps15
    go_wp2_with fail
    go_ret2
    exact ⟨rfl, rfl⟩
theorem rnew_ok (p r : Nat) (w : World) (hp : 1 ≤ p ∧ p ≤ 64) (hr : 1 ≤ r ∧ r ≤ 4096) : Calls Tryz.prog 15 #[.int .i64 p, .int .i64 r] w fun e w' => ∃ S g, e = .returned (.tuple #[.pointer (some ⟨g, 0, none⟩), .int .i64 0]) ∧ RAt S w' g ⟨p, r, []⟩ ∧ (∀ j, S j → w.heap.size ≤ j) ∧ Below w.heap.size w w' := by
  have t1 : decide ((p : Int) < 1) = false := decide_eq_false (by omega)
  have t2 : decide (64 < (p : Int)) = false := decide_eq_false (by omega)
  have t3 : decide ((r : Int) < 1) = false := decide_eq_false (by omega)
  have t4 : decide (4096 < (r : Int)) = false := decide_eq_false (by omega)
  have t2n : decide (64 < p) = false := decide_eq_false (by omega)
  have t4n : decide (4096 < r) = false := decide_eq_false (by omega)
  have hfin : Hid (RAt (fun j => j = w.heap.size) (w.alloc (.cells #[.int .i64 p, .int .i64 r, .slice none 0 0] 94)) w.heap.size ⟨p, r, []⟩) := hid ⟨none, 0, Blk.new w _ _, Rd.nil_, .inl ⟨rfl, rfl, rfl⟩, rfl, fun j hj => by subst hj; simp, st_ok hp hr⟩
  clear hp hr
  go_enter Tryz.func15, Tryz.ntmps15
  go_wp2_with fail
  go_ret2
  exact ⟨_, _, rfl, hfin.out, fun j hj => by omega, (Below.refl _ _).alloc (Nat.le_refl _) _⟩
section
variable {S : Nat → Prop} {w w' : World} {r : Nat} {s : St}
set_option maxRecDepth 100000 in
set_option maxHeartbeats 4000000 in
theorem at_any (k : ByteArray) (h : RAt S w r s) : Calls Tryz.prog 48 #[.pointer (some ⟨r, 0, none⟩), .string k] w fun e w' => e = .returned (.tuple #[.int .i64 (posK k s.L : Nat), .bool (hasK k s.L)]) ∧ Below w.heap.size w w' := by
  obtain ⟨A, c, h⟩ := h
  have HH := hid h
  have hlen := h.ok.len
  have hN : (s.L.length : Int) ≤ 262144 := by omega
  have c2 := h.cells.2.2
  clear h hlen
  go_enter Tryz.func48, Tryz.ntmps48
  go_wp2_with fail
  go_quiet (fail)
  go_wp2_with fail
  go_loopw [6, 7] (fun u v wr => ∃ lo hi : Nat, u = .int .i64 lo ∧ v = .int .i64 hi ∧ lo ≤ posK k s.L ∧ posK k s.L ≤ hi ∧ hi ≤ s.L.length ∧ Below w.heap.size w wr) (fun u v _ => (intOf v).toNat - (intOf u).toNat)
  case atStart => exact ⟨0, _, rfl, rfl, Nat.zero_le _, posK_le, Nat.le_refl _, below_drewN (Below.refl _ _) _⟩
  case round =>
    clear c2
    obtain ⟨lo, hi, rfl, rfl, h1, h2, h3, hB0⟩ := hrel
    have hB := hid hB0
    clear hB0
    have hP := HH.out.below hB.out
    have c2 : wr.cell? ⟨r, 2, none⟩ = some (.slice A s.L.length c) := hP.cells.2.2
    by_cases hlt : lo < hi
    · have i1 : (lo : Int) < (hi : Int) := by omega
      obtain ⟨m, hm⟩ : ∃ m, m = (lo + hi) / 2 := ⟨_, rfl⟩
      have x1 : IntKind.i64.wrap ((lo : Int) + (hi : Int)) = (lo : Int) + (hi : Int) := by rw [IntKind.wrap_i64]; omega
      have x2 : ((lo : Int) + (hi : Int)) / 2 = (m : Int) := by omega
      have x3 : ((lo : Int) + (hi : Int)).tdiv 2 = (m : Int) := by rw [Int.tdiv_eq_ediv_of_nonneg (by omega)]; omega
      have x4 : IntKind.i64.wrap (m : Int) = (m : Int) := by rw [IntKind.wrap_i64]; omega
      have hml : m < s.L.length := by omega
      have i2 : (m : Int) < (s.L.length : Int) := by omega
      obtain ⟨b, o, rfl, _, _, d0, -⟩ := rd_kv hP.rd hml
      have hpl := pos_lt (k := k) HH.out.ok.asc m _ (List.getElem?_eq_getElem hml)
      have hb := hid (show lo ≤ m ∧ m < hi by omega)
      have hh := hid (show lo ≤ posK k s.L ∧ posK k s.L ≤ hi ∧ hi ≤ s.L.length from ⟨h1, h2, h3⟩)
      have x5 : IntKind.i64.wrap ((m : Int) + 1) = (m : Int) + 1 := by rw [IntKind.wrap_i64]; omega
      obtain ⟨x, hx⟩ : ∃ x, x = (s.L[m]).1 := ⟨_, rfl⟩
      rw [← hx] at d0 hpl
      clear hx
      cases hl0 : ltB x k with
      | true =>
        have hl : Op.bytesLess x.toList k.toList = true := hl0
        have hp2 := hid (hpl.1 hl0)
        clear hP hm hml hpl hl0 h1 h2 h3 hlt
        go_wp2_with fail
        go_roundw
        case rel => exact ⟨m + 1, hi, by go_num, rfl, hp2.out, hh.out.2.1, hh.out.2.2, hB.out⟩
        case measure => have := hb.out; simp [intOf]; omega
      | false =>
        have hl : Op.bytesLess x.toList k.toList = false := hl0
        have hp2 : Hid (posK k s.L ≤ m) := hid (by
          have : ¬ m < posK k s.L := fun e => by rw [hpl.2 e] at hl0; cases hl0
          omega)
        clear hP hm hml hpl hl0 h1 h2 h3 hlt
        go_wp2_with fail
        go_roundw
        case rel => exact ⟨lo, m, rfl, rfl, hh.out.1, hp2.out, by have := hb.out; have := hh.out; omega, hB.out⟩
        case measure => have := hb.out; simp [intOf]; omega
    · obtain rfl : hi = lo := by omega
      have hpe0 : posK k s.L = hi := by omega
      have hpe := hid hpe0
      by_cases hpl : hi < s.L.length
      · obtain ⟨b, o, rfl, _, _, d0, -⟩ := rd_kv hP.rd hpl
        have hh0 := has_pos (k := k) HH.out.ok.asc (by rw [hpe0]; exact hpl)
        simp only [hpe0] at hh0
        have i2 : (hi : Int) < (s.L.length : Int) := by omega
        have hbd : ((s.L[hi]).1.toList == k.toList) = decide ((s.L[hi]).1 = k) := bytes_dec _ _
        rw [← hh0] at hbd
        obtain ⟨x, hx⟩ : ∃ x, x = (s.L[hi]).1 := ⟨_, rfl⟩
        rw [← hx] at d0 hbd
        obtain ⟨v, hv⟩ : ∃ v, v = hasK k s.L := ⟨_, rfl⟩
        rw [← hv] at hbd
        have hvv := hid hv
        clear hP h1 h2 h3 hlt hpl hh0 hx hpe0 hv
        go_wp2_with fail
        go_quiet (fail)
        go_wp2_with fail
        go_ret2
        exact ⟨by rw [hpe.out, ← hvv.out]; rfl, below_drewN hB.out _⟩
      · have hh := hid (has_end (k := k) HH.out.ok.asc (by rw [hpe0]; exact hpl))
        obtain rfl : hi = s.L.length := by omega
        clear hP h1 h2 h3 hlt hpl hpe0
        go_wp2_with fail
        go_quiet (fail)
        go_wp2_with fail
        go_ret2
        exact ⟨by rw [hpe.out, hh.out]; rfl, below_drewN hB.out _⟩
theorem rclaimed_any (k : ByteArray) (h : RAt S w r s) : Calls Tryz.prog 25 #[.pointer (some ⟨r, 0, none⟩), .string k] w fun e w' => e = .returned (.bool (hasK k s.L)) ∧ Below w.heap.size w w' := by
  have ha := hid (at_any k h)
  clear h
  go_enter Tryz.func25, Tryz.ntmps25
  go_wp2_with fail
  refine ha.out.mono ?_
  rintro e w2 ⟨rfl, hb0⟩
  have hb := hid hb0
  clear hb0
  go_wp2_with fail
  go_ret
  exact ⟨rfl, hb.out⟩
end
end Go.Proofs.YtphglnenafdkaaaGreatDoor

namespace Go.Proofs.YtphglnenafdkaaaGreatDoor
open Go
set_option linter.unusedVariables false

section
variable {P : Program} {ops : Array Oper} {Q : Exit → Act → World → Prop} {md : Region.Mode} {S : World → Prop}
/-- whatever order is picked, S holds behind every operation but number z -/
def wpAnyE (P : Program) (md : Region.Mode) (ops : Array Oper) (Q : Exit → Act → World → Prop) (S : World → Prop) (z : Nat) : Nat → Array Bool → Act → World → Prop
  | 0, listed, a, w => Region.ready md ops listed = [] ∧ Q .normal a w
  | fuel + 1, listed, a, w =>
    (Region.ready md ops listed = [] → Q .normal a w) ∧
    ∀ i ∈ Region.ready md ops listed, wpOp P ops Q i (fun a' w' => (i ≠ z → S w') ∧ wpAnyE P md ops Q S z fuel (listed.setIfInBounds i true) a' w') a w
theorem wpAny_of_E {z : Nat} : ∀ (fuel : Nat) (listed : Array Bool) (a : Act) (w : World), wpAnyE P md ops Q S z fuel listed a w → wpAny P md ops Q fuel listed a w
  | 0, _, _, _, h => h
  | fuel + 1, _, _, _, h => ⟨h.1, fun i hi => wpOp_mono (fun a' w' h' => wpAny_of_E fuel _ a' w' h'.2) (h.2 i hi)⟩
/-- each of C waits for i or for another of C -/
def waitB (md : Region.Mode) (ops : Array Oper) (i : Nat) (C : List Nat) : Bool := C.all fun c => match ops[c]? with | some oc => oc.after.any (fun e => Region.binds md e && (e.on == i || C.contains e.on)) | none => false
def unB (listed : Array Bool) (C : List Nat) : Bool := C.all fun c => listed.getD c true == false
theorem wait_not {i : Nat} {C : List Nat} {listed : Array Bool} (hw : waitB md ops i C = true) (hu : unB listed C = true) (hi : listed.getD i true = false) {c : Nat} (hc : c ∈ C) : c ∉ Region.ready md ops listed := by
  intro hr
  obtain ⟨_, oj, hoj, hall⟩ := mem_ready.1 hr
  unfold waitB at hw
  rw [List.all_eq_true] at hw
  have h1 := hw c hc
  rw [hoj] at h1
  simp only at h1
  obtain ⟨e, he, h2⟩ := Array.any_eq_true'.1 h1
  rw [Bool.and_eq_true, Bool.or_eq_true] at h2
  have h3 := hall e he h2.1
  have h0 : listed.getD e.on true = false := by
    rcases h2.2 with h4 | h4
    · rw [beq_iff_eq.1 h4]; exact hi
    · unfold unB at hu
      rw [List.all_eq_true] at hu
      have := hu e.on (by simpa using h4)
      simpa using this
  rcases Nat.lt_or_ge e.on listed.size with h' | h'
  · simp [h'] at h0 h3; rw [h0] at h3; cases h3
  · simp [Array.getElem?_eq_none h'] at h3
theorem wpAnyE_first {z i : Nat} {oi : Oper} {v : Value} {C : List Nat} (hi : ops[i]? = some oi) (hsel : ∀ (j : Nat) (o : Oper) cs b, ops[j]? = some o → o.op ≠ .select cs b)
    (hQ : ∀ c a w, Q (.panic c) (a.put oi.dst v) w → Q (.panic c) a w) (hzC : z ∈ C) (hw : waitB md ops i C = true) :
    ∀ (fuel : Nat) (listed : Array Bool) (a : Act) (w : World),
      (∀ j oj, ops[j]? = some oj → j ≠ i → listed.getD j true = false → (∀ e ∈ oj.after, Region.binds md e = true → e.on ≠ i) → oi.apart ops oj = true) →
      i ∈ Region.ready md ops listed → unB listed C = true → YieldsIf P ops S oi v a → S w →
      wpAnyE P md ops Q S z fuel (listed.setIfInBounds i true) (a.put oi.dst v) w → wpAnyE P md ops Q S z (fuel + 1) listed a w := by
  intro fuel
  induction fuel with
  | zero =>
    intro listed a w _ hr hu hy hS H
    refine ⟨fun h => (by rw [h] at hr; cases hr), fun j hj => ?_⟩
    by_cases hji : j = i
    · subst hji; exact hy.wpOp hi hS ⟨fun _ => hS, H⟩
    · have := ready_mono hj hji
      rw [H.1] at this
      cases this
  | succ fuel ih =>
    intro listed a w hfree hr hu hy hS H
    refine ⟨fun h => (by rw [h] at hr; cases hr), fun j hj => ?_⟩
    by_cases hji : j = i
    · subst hji; exact hy.wpOp hi hS ⟨fun _ => hS, H⟩
    · have h1 := H.2 j (ready_mono hj hji)
      obtain ⟨hjun, oj, hoj, hall⟩ := mem_ready.1 hj
      have hnot : ∀ e ∈ oj.after, Region.binds md e = true → e.on ≠ i := fun e he hb heq => by
        have h1 := hall e he hb
        have h0 := (mem_ready.1 hr).1
        rw [heq] at h1
        rcases Nat.lt_or_ge i listed.size with h' | h'
        · simp [h'] at h0 h1; rw [h0] at h1; cases h1
        · simp [Array.getElem?_eq_none h'] at h1
      have hjC : j ∉ C := fun hjC => wait_not hw hu (mem_ready.1 hr).1 hjC hj
      have hjz : j ≠ z := fun e => hjC (e ▸ hzC)
      have h2 := wpOp_putIf hoj (hfree j oj hoj hji hjun hnot) (fun cs b => hsel i oi cs b hi) (fun cs b => hsel j oj cs b hoj) hQ hy h1
      have hfree' : ∀ k ok, ops[k]? = some ok → k ≠ i → (listed.setIfInBounds j true).getD k true = false →
          (∀ e ∈ ok.after, Region.binds md e = true → e.on ≠ i) → oi.apart ops ok = true := fun k ok hk hki hun hno => by
        refine hfree k ok hk hki ?_ hno
        by_cases hjk : j = k
        · subst hjk; exact hjun
        · rw [getD_set_ne true hjk] at hun; exact hun
      have hu' : unB (listed.setIfInBounds j true) C = true := by
        unfold unB at hu ⊢
        rw [List.all_eq_true] at hu ⊢
        intro c hc
        rw [getD_set_ne true (show j ≠ c from fun e => hjC (by rw [e]; exact hc))]
        exact hu c hc
      refine wpOp_mono (fun a' w' h3 => ⟨fun _ => h3.2.1 hjz, ih (listed.setIfInBounds j true) a' w' hfree' (ready_mono hr (Ne.symm hji)) hu' h3.1 (h3.2.1 hjz) ?_⟩) h2
      rw [Array.setIfInBounds_comm _ _ hji]
      exact h3.2.2
/-- take number i first -/
theorem wpAnyE_take {z i : Nat} {oi : Oper} {v : Value} {fuel : Nat} {listed : Array Bool} {a : Act} {w : World} (C : List Nat) (hi : ops[i]? = some oi)
    (hs : Region.noSelect ops = true) (hf : Region.free md ops listed i = true) (hr : (Region.ready md ops listed).contains i = true) (hz : C.contains z = true) (hwt : waitB md ops i C = true) (hun : unB listed C = true)
    (hQ : ∀ c a w, Q (.panic c) (a.put oi.dst v) w → Q (.panic c) a w) (hy : YieldsIf P ops S oi v a) (hS : S w)
    (h : wpAnyE P md ops Q S z fuel (listed.setIfInBounds i true) (a.put oi.dst v) w) : wpAnyE P md ops Q S z (fuel + 1) listed a w :=
  wpAnyE_first hi (Region.noSelect_spec hs) hQ (by simpa using hz) hwt fuel listed a w (Region.free_spec hi hf) (by simpa using hr) hun hy hS h
def AllReadyE (P : Program) (md : Region.Mode) (ops : Array Oper) (Q : Exit → Act → World → Prop) (S : World → Prop) (z fuel : Nat) (listed : Array Bool) (a : Act) (w : World) (rs : List Nat) : Prop :=
  ∀ i ∈ rs, wpOp P ops Q i (fun a' w' => (i ≠ z → S w') ∧ wpAnyE P md ops Q S z fuel (listed.setIfInBounds i true) a' w') a w
theorem AllReadyE.nil {z fuel : Nat} {listed : Array Bool} {a : Act} {w : World} : AllReadyE P md ops Q S z fuel listed a w [] := fun _ h => by cases h
theorem AllReadyE.cons {z fuel : Nat} {listed : Array Bool} {a : Act} {w : World} {i : Nat} {o : Oper} {rs : List Nat} (ho : ops[i]? = some o)
    (h : ∀ K' : Act → World → Prop, Shut (∀ a w, (i ≠ z → S w) → wpAnyE P md ops Q S z fuel (listed.setIfInBounds i true) a w → K' a w) → if Region.wanted o (yielded ops a.tmps) = true then Oper.wp P o a w K' Q else K' (a.put o.dst undef) w)
    (hs : AllReadyE P md ops Q S z fuel listed a w rs) : AllReadyE P md ops Q S z fuel listed a w (i :: rs) := fun j hj => by
  rcases List.mem_cons.1 hj with rfl | hj
  · exact wpOp_step ho (fun K' hK => h K' (fun a w hS hW => hK a w ⟨hS, hW⟩))
  · exact hs j hj
theorem wpAnyE_ready {z : Nat} {rs : List Nat} {fuel : Nat} {listed : Array Bool} {a : Act} {w : World} (hr : Region.ready md ops listed = rs) (hne : rs ≠ [])
    (h : AllReadyE P md ops Q S z fuel listed a w rs) : wpAnyE P md ops Q S z (fuel + 1) listed a w := ⟨fun h0 => absurd (hr ▸ h0) hne, hr ▸ h⟩
theorem wpAnyE_done {z : Nat} {listed : Array Bool} {a : Act} {w : World} (hr : Region.ready md ops listed = []) (h : Q .normal a w) : ∀ fuel, wpAnyE P md ops Q S z fuel listed a w
  | 0 => ⟨hr, h⟩
  | _ + 1 => ⟨fun _ => h, by rw [hr]; simp⟩
theorem wp_region_heldE (z : Nat) {id : Nat} {a : Act} {w : World} (hm : P.follows .mixedOrders = true)
    (h : wpAnyE P .any ops Q S z ops.size (Array.replicate ops.size false) a w.drew) : (Code.region id ops true).wp P Q a w := wp_region_any hm (wpAny_of_E _ _ _ _ h)
end
end Go.Proofs.YtphglnenafdkaaaGreatDoor

