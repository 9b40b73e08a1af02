/- Texts of the proof, joined: SPLoad. -/
import Derived.Test.YtphglnenafdkaaaGreatDoorQ10
import Derived.Test.YtphglnenafdkaaaGreatDoorQ09
import Derived.Test.YtphglnenafdkaaaGreatDoorQ06
import Derived.Test.YtphglnenafdkaaaGreatDoorQ12
namespace Go.Proofs.YtphglnenafdkaaaGreatDoor
open Go.RowKit
set_option linter.unusedVariables false
set_option linter.unusedSimpArgs false

theorem bt_bytes (l : List UInt8) : bt (l.map UInt8.toNat) = ⟨l.toArray⟩ := by
  unfold bt
  congr 1
  rw [List.map_map]
  congr 1
  conv => rhs; rw [← List.map_id l]
  apply List.map_congr_left
  intro c _
  simp
theorem byteCells_eq (l : List UInt8) : Lib.byteCells l = bcells (l.map UInt8.toNat) := by
  unfold Lib.byteCells bcells
  rw [List.map_map]; rfl
theorem parP_take {M : List (List UInt8)} {i : Nat} (h : parP (M.take i) = none) : parP M = none := by
  have key : ∀ (K N : List (List UInt8)), parP K = none → parP (K ++ N) = none := by
    intro K
    induction K with
    | nil => intro N h; cases h
    | cons a K ih =>
      intro N h
      rw [List.cons_append]
      unfold parP at h ⊢
      cases hi : itemP a with
      | none => rfl
      | some x =>
        rw [hi] at h
        simp only at h ⊢
        cases hk : parP K with
        | none => rw [ih N hk]; rfl
        | some X => rw [hk] at h; cases h
  have := key _ (M.drop i) h
  rw [List.take_append_drop] at this
  exact this
theorem parP_size : ∀ {M : List (List UInt8)} {X : List Kv} {n : Nat}, parP M = some X → (∀ a ∈ M, a.length ≤ n) → ∀ x ∈ X, x.1.size ≤ n ∧ x.2.s.size ≤ 64
  | [], X, n, h, _ => by injection h with h; rw [← h]; intro x hx; cases hx
  | a :: M, X, n, h, hn => by
    have hv := parP_ok h
    unfold parP at h
    cases hi : itemP a with
    | none => rw [hi] at h; cases h
    | some y =>
      rw [hi] at h
      simp only at h
      cases hp : parP M with
      | none => rw [hp] at h; cases h
      | some Y =>
        rw [hp] at h; injection h with h
        intro x hx
        have hs : x.2.s.size ≤ 64 := by
          rcases ok_forms (hv x hx).1 with e | ⟨_, e⟩ | ⟨_, _, e, _⟩
          · rw [e]; decide
          · rw [e]; decide
          · exact e
        refine ⟨?_, hs⟩
        rw [← h] at hx
        rcases List.mem_cons.1 hx with rfl | hx
        · unfold itemP at hi
          split at hi
          · injection hi with hi
            rw [← hi]
            have h1 := hn a (List.mem_cons_self ..)
            have h2 : (cutL a).1.length ≤ a.length := by
              unfold cutL
              exact (List.takeWhile_sublist _).length_le
            show (ByteArray.mk (cutL a).1.toArray).size ≤ n
            simp only [ByteArray.size, List.size_toArray]
            omega
          · cases hi
        · exact (parP_size hp (fun b hb => hn b (List.mem_cons_of_mem _ hb)) x hx).1
theorem splitL_mem : ∀ {l a : List UInt8}, a ∈ splitL l → a.length ≤ l.length
  | [], a, h => by rw [List.mem_singleton.1 h]; exact Nat.le_refl _
  | c :: r, a, h => by
    unfold splitL at h
    obtain ⟨b, m, e⟩ : ∃ b m, splitL r = b :: m := by
      cases h : splitL r with
      | nil => exact absurd h (splitL_ne r)
      | cons b m => exact ⟨b, m, rfl⟩
    split at h
    · rcases List.mem_cons.1 h with rfl | h
      · simp
      · have := splitL_mem h; simp; omega
    · rcases List.mem_cons.1 h with rfl | h
      · have : ((splitL r).headD []).length ≤ r.length := splitL_mem (by rw [e]; simp)
        simp only [List.length_cons]; omega
      · have := splitL_mem (List.mem_of_mem_tail h); simp; omega
/-- what Load leaves -/
def loadQ (w : World) : Option St → Ending → World → Prop
  | none, e, w' => e = .returned (.tuple #[.pointer none, .int .i64 42]) ∧ Below w.heap.size w w'
  | some x, e, w' => ∃ S g, e = .returned (.tuple #[.pointer (some ⟨g, 0, none⟩), .int .i64 0]) ∧ PAt S w' g x ∧ (∀ j, S j → w.heap.size ≤ j) ∧ Below w.heap.size w w'
theorem keys0_snoc (X : List Kv) (x : Kv) : strs (keys0 (X ++ [x])) = strs (keys0 X) ++ [.string x.1] := by simp [keys0, strs]
theorem ws0_snoc (X : List Kv) (x : Kv) : wrCells (ws0 (X ++ [x])) = wrCells (ws0 X) ++ [.string x.1, .bool false, .int .i64 x.2.k, .int .i64 x.2.n, .string x.2.s] := by simp [ws0, wrCells]
theorem Rd.plus {S : Nat → Prop} {w : World} {b n k m : Nat} {xs : List Value} (h : Rd S w 1 (some ⟨b, 0, none⟩) n xs) (hk : k + m ≤ n) : Rd S w 1 (some ⟨b, k, none⟩) m ((xs.drop k).take m) := by
  refine ⟨by rw [List.length_take, List.length_drop, h.1]; omega, fun hm => ?_⟩
  obtain ⟨b', o', e, hS, hl, hc⟩ := h.2 (by omega)
  injection e with e
  injection e with e1 e2
  subst e1 e2
  refine ⟨b, k, rfl, hS, hl, fun j u hu => ?_⟩
  have hj : j < m := by
    have := (List.getElem?_eq_some_iff.1 hu).1
    rw [List.length_take] at this
    omega
  rw [List.getElem?_take_of_lt hj, List.getElem?_drop] at hu
  have := hc (k + j) u hu
  rwa [Nat.zero_add] at this
set_option maxRecDepth 100000 in
set_option maxHeartbeats 16000000 in
theorem load_any {w : World} {Sx : Nat → Prop} {A : Option Addr} {c : Nat} (l : List UInt8) (h : Rd Sx w 1 A l.length (Lib.byteCells l)) (hs : l.length < 4294967281) (hm : ∀ i X, parP ((((splitL l).drop 2).dropLast).take i) = some X → X.length ≤ 1000000) (he : EnvL w) : Calls Tryz.prog 31 #[.slice A l.length c] w (loadQ w (progL (splitL l))) := by
  have hcv0 : (convert 41 9 (.slice A l.length c)).run Tryz.prog w = .ok (.string ⟨l.toArray⟩) w := by
    rw [← bt_bytes]
    refine convB (S := Sx) ?_ (by simp)
    rw [← byteCells_eq]; exact h
  have hsp0 := split_any ⟨l.toArray⟩ ⟨#[10]⟩ w (by simpa [ByteArray.size] using hs) (by decide) he
  have hM0 := split_of ⟨l.toArray⟩
  have hMl0 : (Lib.splitB ⟨#[10]⟩ 0 (Lib.countB ⟨l.toArray⟩ ⟨#[10]⟩) ⟨l.toArray⟩).length = Lib.countB ⟨l.toArray⟩ ⟨#[10]⟩ + 1 := Lib.splitB_all ⟨#[10]⟩ (by decide) 0 _ _ rfl
  rw [← hMl0] at hsp0
  simp only [List.toList_toArray] at hM0
  generalize Lib.splitB ⟨#[10]⟩ 0 (Lib.countB ⟨l.toArray⟩ ⟨#[10]⟩) ⟨l.toArray⟩ = M at *
  have hM := hid hM0
  have hsp := hid hsp0
  have hE := hid he
  have hmx := hid hm
  have hMn : M.length ≤ l.length + 1 := by
    have h1 : M.length = (splitL l).length := by rw [← hM0]; simp
    have h2 : ∀ k : List UInt8, (splitL k).length ≤ k.length + 1 := by
      intro k
      induction k with
      | nil => simp [splitL]
      | cons b r ih =>
        unfold splitL
        split
        · simp; omega
        · simp; omega
    rw [h1]; exact h2 l
  have hls := hid (show (M.length : Int) ≤ 4294967290 by omega)
  have hlz := hid hs
  generalize hR : progL (splitL l) = R
  have hR := hid hR
  obtain ⟨ip1, hip1, hp10, hp11, hp12⟩ := info_parts info_strK
  obtain ⟨ip2, hip2, hp20, hp21, hp22⟩ := info_parts info_write
  clear hsp0 hM0 hMl0 h hs hm he hMn
  go_enter Tryz.func31, Tryz.ntmps31
  go_wp2_with fail
  refine hsp.out.mono ?_
  rintro e w2 ⟨rfl, hw2⟩
  have km := Blk.new w 9 (M.map Value.string).toArray
  have hB2 : Below w.heap.size w w2 := by rw [hw2]; exact (Below.refl _ _).alloc (Nat.le_refl _) _
  rw [← hw2] at km
  have hrow := hid (show Rd (fun b => b = w.heap.size) w2 1 (some ⟨w.heap.size, 0, none⟩) M.length (strs M) by
    have := Rd.new w 9 1 M.length (M.map Value.string).toArray w.heap.size rfl (by simp)
    rw [← hw2] at this
    simpa [strs] using this)
  have hB := hid hB2
  clear hw2 km hB2 hsp hcv0
  have hll : Hid ((splitL l).length = M.length) := hid (by rw [← hM.out]; simp)
  generalize hmw : w.heap.size = m0 at *
  by_cases h3 : M.length < 3
  · have t1 : decide ((M.length : Int) < 3) = true := decide_eq_true (by omega)
    have t1n : decide (M.length < 3) = true := decide_eq_true h3
    have hfin : Hid (R = none) := hid (by rw [← hR.out]; unfold progL; rw [if_pos (.inl (by rw [hll.out]; exact h3))])
    clear h3
    go_wp2_with fail
    refine bodyPost_ret (v := .tuple #[.pointer none, .int .i64 42]) (by simp [results, Tryz.results31, go_sem]) rfl ?_
    rw [hfin.out]
    exact ⟨rfl, hmw ▸ hB.out⟩
  have t1 : decide ((M.length : Int) < 3) = false := decide_eq_false (by omega)
  have t1n : decide (M.length < 3) = false := decide_eq_false h3
  have i1 : IntKind.i64.wrap ((M.length : Int) - 1) = ((M.length - 1 : Nat) : Int) := by rw [IntKind.wrap_i64]; have := hls.out; omega
  have i2 : ((M.length - 1 : Nat) : Int) < (M.length : Int) := by omega
  obtain ⟨bq, oq, hAq, _, _, y0⟩ := rd_strs hrow.out (i := M.length - 1) (by omega)
  injection hAq with hAq
  injection hAq with ea eb
  subst ea eb
  rw [Nat.zero_add] at y0
  have hlast : Hid ((splitL l).getLastD [0] = (M[M.length - 1]'(by omega)).data.toList) := hid (by
    rw [← hM.out]
    have hne : M ≠ [] := fun e => h3 (by rw [e]; decide)
    rw [List.getLastD_eq_getLast?, List.getLast?_map, List.getLast?_eq_getElem?, List.getElem?_eq_getElem (by omega)]
    rfl)
  generalize (M[M.length - 1]'(by omega)) = lst at *
  by_cases hl0 : lst.size = 0
  case neg =>
    have t2 : lst.toList.isEmpty = false := by rw [ByteArray.toList_eq]; cases e : lst.data.toList with
      | nil => exact absurd (by rw [← size_list, e]; rfl) hl0
      | cons a r => rfl
    have hfin : Hid (R = none) := hid (by
      rw [← hR.out]; unfold progL
      rw [if_pos (.inr (by
        rw [hlast.out]
        intro e
        exact hl0 (by rw [← size_list, e]; first | done | rfl)))])
    clear h3 hl0
    go_wp2_with fail
    refine bodyPost_ret (v := .tuple #[.pointer none, .int .i64 42]) (by simp [results, Tryz.results31, go_sem]) rfl ?_
    rw [hfin.out]
    exact ⟨rfl, hmw ▸ hB.out⟩
  have e0 := size0 hl0
  have t2 : lst.toList.isEmpty = true := by rw [e0, ByteArray.toList_eq]; rfl
  have hR2 : Hid (R = if headP (numR (parseL ((splitL l).getD 0 []))) (numR (parseL ((splitL l).getD 1 []))) = false then none
    else match parP (((splitL l).drop 2).dropLast) with
      | none => none
      | some X => endP (numR (parseL ((splitL l).getD 0 []))).1.toNat (numR (parseL ((splitL l).getD 1 []))).1.toNat X) := hid (by
    rw [← hR.out]; unfold progL
    have hcond : ¬ ((splitL l).length < 3 ∨ (splitL l).getLastD [0] ≠ []) := by
      rintro (h9 | h9)
      · rw [hll.out] at h9; exact h3 h9
      · rw [hlast.out, e0] at h9; exact h9 rfl
    rw [if_neg hcond]
    rfl)
  obtain ⟨b0, o0, hAq, _, _, z0⟩ := rd_strs hrow.out (i := 0) (by omega)
  injection hAq with hAq
  injection hAq with ea eb
  subst ea eb
  obtain ⟨b0, o0, hAq, _, hl1, z1⟩ := rd_strs hrow.out (i := 1) (by omega)
  injection hAq with hAq
  injection hAq with ea eb
  subst ea eb
  rw [Nat.zero_add] at z0 z1
  have hz1 := hid (fun W (hW : Below w2.heap.size w2 W) => cell_bel hW hl1 z1)
  have hg0 : (splitL l).getD 0 [] = (M[0]'(by omega)).data.toList := by rw [← hM.out, List.getD_eq_getElem?_getD, List.getElem?_map, List.getElem?_eq_getElem (by omega)]; rfl
  have hg1 : (splitL l).getD 1 [] = (M[1]'(by omega)).data.toList := by rw [← hM.out, List.getD_eq_getElem?_getD, List.getElem?_map, List.getElem?_eq_getElem (by omega)]; rfl
  have hmsz : ∀ i (hi : i < M.length), (M[i]).size ≤ l.length := fun i hi => by
    rw [← size_list]
    exact splitL_mem (by rw [← hM.out]; exact List.mem_map.2 ⟨_, List.getElem_mem hi, rfl⟩)
  have hn0 := hid (fun W (hW : EnvL W) => vnumber_any (M[0]'(by omega)) (by have := hmsz 0 (by omega); have := hlz.out; omega) W hW.env)
  have hn1 := hid (fun W (hW : EnvL W) => vnumber_any (M[1]'(by omega)) (by have := hmsz 1 (by omega); have := hlz.out; omega) W hW.env)
  rw [hg0, hg1] at hR2
  have hmz := hid hmsz
  generalize numR (parseL (M[0]'(by omega)).data.toList) = n1 at *
  generalize numR (parseL (M[1]'(by omega)).data.toList) = n2 at *
  generalize (M[0]'(by omega)) = s0 at *
  generalize (M[1]'(by omega)) = s1 at *
  have h3 := hid h3
  have hE2 := hid (hE.out.below (hmw ▸ hB.out))
  clear hg0 hg1 hmsz hl0 hlast z1 hl1 hR
  obtain ⟨n1, ok1⟩ := n1
  obtain ⟨n2, ok2⟩ := n2
  dsimp only at hn0 hn1 hR2
  go_wp2_with fail
  refine (hn0.out _ hE2.out).mono ?_
  rintro e w3 ⟨rfl, hb3⟩
  have hB3 := hid hb3
  have z1 := hz1.out _ hb3
  have hE3 := hid (hE2.out.below hb3)
  clear hb3 hn0 y0 z0
  go_wp2_with fail
  refine (hn1.out _ hE3.out).mono ?_
  rintro e w4 ⟨rfl, hb4⟩
  have hB4 := hid (hB3.out.trans (hb4.mono hB3.out.size))
  have hBw4 := hid (hB.out.trans (hB4.out.mono (by have := hB.out.size; omega)))
  have hE4 := hid (hE3.out.below hb4)
  clear hb4 hn1 z1 hE3 hB3 hE2
  have hno : Hid (headP (n1, ok1) (n2, ok2) = false → R = none) := hid fun e => by rw [hR2.out, if_pos e]
  by_cases g1 : ok1 = true
  case neg =>
    have hfin : Hid (R = none) := hid (hno.out (by unfold headP; simp [g1]))
    have g1f : ok1 = false := by simpa using g1
    subst g1f
    clear g1
    go_wp2_with fail
    refine bodyPost_ret (v := .tuple #[.pointer none, .int .i64 42]) (by simp [results, Tryz.results31, go_sem]) rfl ?_
    rw [hfin.out]
    exact ⟨rfl, hmw ▸ hBw4.out⟩
  subst g1
  by_cases g2 : ok2 = true
  case neg =>
    have hfin : Hid (R = none) := hid (hno.out (by unfold headP; simp [g2]))
    have g2f : ok2 = false := by simpa using g2
    subst g2f
    clear g2
    go_wp2_with fail
    refine bodyPost_ret (v := .tuple #[.pointer none, .int .i64 42]) (by simp [results, Tryz.results31, go_sem]) rfl ?_
    rw [hfin.out]
    exact ⟨rfl, hmw ▸ hBw4.out⟩
  subst g2
  by_cases g3 : 1 ≤ n1
  case neg =>
    have hfin : Hid (R = none) := hid (hno.out (by unfold headP; simp [g3]))
    have t3 : decide (n1 < 1) = true := decide_eq_true (by omega)
    clear g3
    go_wp2_with fail
    refine bodyPost_ret (v := .tuple #[.pointer none, .int .i64 42]) (by simp [results, Tryz.results31, go_sem]) rfl ?_
    rw [hfin.out]
    exact ⟨rfl, hmw ▸ hBw4.out⟩
  have t3 : decide (n1 < 1) = false := decide_eq_false (by omega)
  by_cases g4 : n1 ≤ 64
  case neg =>
    have hfin : Hid (R = none) := hid (hno.out (by unfold headP; simp [g4]))
    have t4 : decide (64 < n1) = true := decide_eq_true (by omega)
    clear g4
    go_wp2_with fail
    refine bodyPost_ret (v := .tuple #[.pointer none, .int .i64 42]) (by simp [results, Tryz.results31, go_sem]) rfl ?_
    rw [hfin.out]
    exact ⟨rfl, hmw ▸ hBw4.out⟩
  have t4 : decide (64 < n1) = false := decide_eq_false (by omega)
  by_cases g5 : 1 ≤ n2
  case neg =>
    have hfin : Hid (R = none) := hid (hno.out (by unfold headP; simp [g5]))
    have t5 : decide (n2 < 1) = true := decide_eq_true (by omega)
    clear g5
    go_wp2_with fail
    refine bodyPost_ret (v := .tuple #[.pointer none, .int .i64 42]) (by simp [results, Tryz.results31, go_sem]) rfl ?_
    rw [hfin.out]
    exact ⟨rfl, hmw ▸ hBw4.out⟩
  have t5 : decide (n2 < 1) = false := decide_eq_false (by omega)
  by_cases g6 : n2 ≤ 4096
  case neg =>
    have hfin : Hid (R = none) := hid (hno.out (by unfold headP; simp [g6]))
    have t6 : decide (4096 < n2) = true := decide_eq_true (by omega)
    clear g6
    go_wp2_with fail
    refine bodyPost_ret (v := .tuple #[.pointer none, .int .i64 42]) (by simp [results, Tryz.results31, go_sem]) rfl ?_
    rw [hfin.out]
    exact ⟨rfl, hmw ▸ hBw4.out⟩
  have t6 : decide (4096 < n2) = false := decide_eq_false (by omega)
  obtain ⟨p, rfl⟩ : ∃ p : Nat, n1 = p := ⟨n1.toNat, by omega⟩
  obtain ⟨q, rfl⟩ : ∃ q : Nat, n2 = q := ⟨n2.toNat, by omega⟩
  have hP : Hid (1 ≤ p ∧ p ≤ 64) := hid ⟨by omega, by omega⟩
  have hQ : Hid (1 ≤ q ∧ q ≤ 4096) := hid ⟨by omega, by omega⟩
  have hR3 : Hid (R = match parP (((splitL l).drop 2).dropLast) with
      | none => none
      | some X => endP p q X) := hid (by
    rw [hR2.out, if_neg (by unfold headP; simp only [Bool.true_and]; rw [decide_eq_true g3, decide_eq_true g4, decide_eq_true g5, decide_eq_true g6]; simp)]
    rfl)
  have hnw := hid (fun W => new_ok p q W hP.out hQ.out)
  clear g3 g4 g5 g6 hR2 hno
  go_wp2_with fail
  refine (hnw.out _).mono ?_
  rintro e w6 ⟨S, g, rfl, hPA0, hge0, hb6⟩
  have hPA := hid hPA0
  have hge := hid hge0
  have hB6 := hid (hB4.out.trans (hb6.mono hB4.out.size))
  have hBw6 := hid (hBw4.out.trans (hb6.mono (by have := hBw4.out.size; omega)))
  have hwS := hid (show m0 ≤ w4.heap.size from hmw ▸ hBw4.out.size)
  have hE6 := hid (hE4.out.below hb6)
  have hro := hid (hrow.out.below_all hB6.out)
  have hD : Hid ((((splitL l).drop 2).dropLast).length = M.length - 3) := hid (by rw [List.length_dropLast, List.length_drop, hll.out]; omega)
  have hDi : Hid (∀ i, (hi : i < M.length - 3) → (((splitL l).drop 2).dropLast)[i]? = some ((M[i + 2]'(by omega)).data.toList)) := hid fun i hi => by
    rw [List.getElem?_dropLast, if_pos (by rw [List.length_drop, hll.out]; omega), List.getElem?_drop, ← hM.out, List.getElem?_map, Nat.add_comm 2 i, List.getElem?_eq_getElem (by omega)]
    rfl
  have hDs : Hid (∀ a ∈ ((splitL l).drop 2).dropLast, a ∈ splitL l) := hid fun a ha => List.mem_of_mem_drop ((List.dropLast_sublist _).subset ha)
  generalize ((splitL l).drop 2).dropLast = Ds at *
  obtain ⟨m, hm⟩ : ∃ m, M.length = m + 3 := ⟨M.length - 3, by have := h3.out; omega⟩
  have hm9 := hid hm
  have hms := hid (show (m : Int) ≤ 4294967290 by have := hls.out; omega)
  have hlz2 := hid (show l.length < 4294967281 from hlz.out)
  have hDl : Hid (∀ a ∈ Ds, a.length ≤ l.length) := hid fun a ha => splitL_mem (hDs.out a ha)
  clear hPA0 hge0 hb6 hnw hE4 hB4 hBw4 hrow hz1 t1 t1n t2 t3 t4 t5 t6 i1 i2 hlz hM hE hDs
  have f1 : IntKind.i64.wrap ((M.length : Int) - 1) = ((m + 2 : Nat) : Int) := by rw [IntKind.wrap_i64]; have := hms.out; omega
  have f2 : (2 : Int) ≤ ((m + 2 : Nat) : Int) := by omega
  have f3 : ((m + 2 : Nat) : Int) ≤ (M.length : Int) := by omega
  have f4 : 2 ≤ m + 2 := by omega
  have f5 : m + 2 ≤ M.length := by omega
  have f6 : ¬ (M.length = 2) := by omega
  clear hm hll
  go_wp2_with fail
  clear f1 f2 f3 f4 f5 f6
  rw [show m + 2 - 2 = m from by omega]
  go_loopw [11, 12, 84] (fun v11 v12 v84 wr => ∃ (i : Nat) (X : List Kv) (A1 : Option Addr) (c1 : Nat) (A2 : Option Addr) (c2 : Nat), v11 = .slice A1 X.length c1 ∧ v12 = .slice A2 X.length c2 ∧ v84 = .int .i64 i ∧ i ≤ m ∧ parP (Ds.take i) = some X ∧ wr.ownsRow w6.heap.size 9 1 (.slice A1 X.length c1) X.length (strs (keys0 X)) ∧ wr.ownsRow w6.heap.size 40 5 (.slice A2 X.length c2) X.length (wrCells (ws0 X)) ∧ Below w6.heap.size w6 wr) (fun _ _ v _ => m - (intOf v).toNat)
  case atStart => exact ⟨0, [], none, 0, none, 0, rfl, rfl, rfl, Nat.zero_le _, rfl, World.ownsRow_nil _ _ _ _, World.ownsRow_nil _ _ _ _, Below.refl _ _⟩
  case round =>
    obtain ⟨i, X, A1, c1, A2, c2, rfl, rfl, rfl, him, hpX0, ho10, ho20, hBr0⟩ := hrel
    have hpX := hid hpX0
    have ho1 := hid ho10
    have ho2 := hid ho20
    have hBr := hid hBr0
    have hxl := hid (hmx.out i X hpX0)
    clear hpX0 ho10 ho20 hBr0
    by_cases hlt : i < m
    · as_aux_lemma =>
      have hi2 : i + 2 < M.length := by have := hm9.out; omega
      have i1 : (i : Int) < (m : Int) := by omega
      have i2 : (i : Int) < ((m + 2 - 2 : Nat) : Int) := by omega
      have i3 : i < m + 2 - 2 := by omega
      have i4 : IntKind.i64.wrap ((i : Int) + 1) = (i : Int) + 1 := by rw [IntKind.wrap_i64]; have := hms.out; omega
      obtain ⟨b8, o8, hA8, _, _, y0⟩ := rd_strs (hro.out.below_all hBr.out) (i := i + 2) hi2
      injection hA8 with hA8
      injection hA8 with ea eb
      subst ea eb
      have y1 : wr.cell? ⟨m0, 2 + i, none⟩ = some (.string (M[i + 2]'hi2)) := by rw [show 2 + i = 0 + (i + 2) by omega]; exact y0
      clear y0
      have hdi := hDi.out i (by have := hm9.out; omega)
      have hsz := hid (hmz.out (i + 2) hi2)
      have htk : Hid (Ds.take (i + 1) = Ds.take i ++ [(M[i + 2]'hi2).data.toList]) := hid (by
        rw [List.take_add_one, hdi]; rfl)
      generalize (M[i + 2]'hi2) = ln at *
      have hEr := hid (hE6.out.below hBr.out)
      have hlt9 := hid hlt
      clear hi2 hdi hlt him
      have hct := hid (fun W (h : EnvL W) => cut_any ln ⟨#[32]⟩ W (by have := hsz.out; have := hlz2.out; omega) h)
      obtain ⟨hc1, hc2⟩ := cut_of ln.data.toList
      have hcb : (⟨#[32]⟩ : ByteArray).data.toList = [32] := rfl
      rw [hcb] at hct
      simp only [hc1, hc2] at hct
      have hkl : (cutL ln.data.toList).1.length ≤ ln.size := by
        rw [← size_list]; unfold cutL; exact (List.takeWhile_sublist _).length_le
      have htl : (cutL ln.data.toList).2.length ≤ ln.size := by
        rw [← size_list]; unfold cutL; exact Nat.le_trans (List.drop_sublist _ _).length_le (List.dropWhile_sublist _).length_le
      have hip : Hid (itemP ln.data.toList = if (parseL (cutL ln.data.toList).2).e = 0 then some (⟨(cutL ln.data.toList).1.toArray⟩, (parseL (cutL ln.data.toList).2).v) else none) := hid rfl
      have hpa := hid (fun W (h : EnvL W) => parse_any ⟨(cutL ln.data.toList).2.toArray⟩ W (by simp only [ByteArray.size, List.size_toArray]; have := hsz.out; have := hlz2.out; omega) h.env)
      have hpl : (⟨(cutL ln.data.toList).2.toArray⟩ : ByteArray).data.toList = (cutL ln.data.toList).2 := by simp
      rw [hpl] at hpa
      generalize (Lib.cut ln.data.toList [32]).2.2 = fnd at *
      generalize (⟨(cutL ln.data.toList).1.toArray⟩ : ByteArray) = key at *
      generalize (⟨(cutL ln.data.toList).2.toArray⟩ : ByteArray) = tx at *
      generalize parseL (cutL ln.data.toList).2 = P at *
      clear hc1 hc2 hcb hkl htl hpl
      go_wp2_with fail
      refine (hct.out _ hEr.out).mono ?_
      rintro e wa ⟨rfl, na, hwa⟩
      have hba : Below wr.heap.size wr wa := by rw [hwa]; exact below_drewN (Below.refl _ _) na
      have hBa := hid (hBr.out.trans (hba.mono hBr.out.size))
      have ho1 := hid (own_below ho1.out hba)
      have ho2 := hid (own_below ho2.out hba)
      have hEa := hid (hEr.out.below hba)
      clear hwa hba hct hBr hEr y1
      go_wp2_with fail
      refine (hpa.out _ hEa.out).mono ?_
      rintro e wb ⟨rfl, hbb⟩
      have hBb0 := hid (hBa.out.trans (hbb.mono hBa.out.size))
      have hal : Below wa.heap.size wa (wb.alloc (.cells #[.int .i64 P.v.k, .int .i64 P.v.n, .string P.v.s] 38)) := hbb.alloc hbb.size _
      have hBb := hid (hBa.out.trans (hal.mono hBa.out.size))
      have ho1 := hid (own_below ho1.out hal)
      have ho2 := hid (own_below ho2.out hal)
      have kv := hid (Blk.new wb 38 #[.int .i64 P.v.k, .int .i64 P.v.n, .string P.v.s])
      clear hbb hal hpa hEa hBa
      go_upto_region 16 with fail
      have hbs := hid (show w6.heap.size ≤ wb.heap.size from hBb0.out.size)
      generalize wb.alloc (.cells #[.int .i64 P.v.k, .int .i64 P.v.n, .string P.v.s] 38) = wc at *
      generalize wb.heap.size = nv at *
      clear hBb0
      by_cases he0 : P.e = 0
      · have t0 : (P.e == 0) = true := by simpa using he0
        have hst : Hid (parP (Ds.take (i + 1)) = some (X ++ [(key, P.v)])) := hid (by rw [htk.out, parP_snoc, hpX.out, hip.out, if_pos he0])
        clear he0 hip htk
        go_upto_region 19 with (
          at_builtin
          go_loud (refine wpList_append_rd _ rfl (.tmp 102) (.tmp 104) 25 rfl w6.heap.size 9 ip1 _ 1 16 Tryz.underlying25 hip1 hp10 hp11 hp12 rfl (by omega) (.slice A1 X.length c1) X.length (strs (keys0 X)) rfl (ho1.out.alloc _) (fun b => b = wc.heap.size) (some ⟨wc.heap.size, 0, none⟩) 1 1 [.string key] rfl (Rd.new wc 9 1 1 #[.string key] _ rfl rfl) (by intro v hv; simp at hv; subst hv; rfl) (by have := hxl.out; simp only [maxLen]; omega) (by have := hxl.out; omega) (by simp; have := hBb.out.size; omega) ?_)
          intro v3 w9 hown3 hg3 hat3
          obtain ⟨A3, c3, rfl, hc3, _⟩ := own_form hown3)
        have hu1 : Upd (fun q => (Value.slice A1 X.length c1).ownBlock = some q) wc w9 := ((Upd.refl _ wc).alloc _).grown hg3 fun q hq _ => hq
        have hO1 := hid hown3
        have hty := hid (fun q (hq : (Value.slice A1 X.length c1).ownBlock = some q) => (show (Value.slice A2 X.length c2).ownBlock ≠ some q from fun e => by
          rcases ho1.out.2 with ⟨e1, _⟩ | ⟨b1, _, cur1, e1, _, hh1, _⟩
          · rw [e1] at hq; cases hq
          · rcases ho2.out.2 with ⟨e2, _⟩ | ⟨b2, _, cur2, e2, _, hh2, _⟩
            · rw [e2] at e; cases e
            · rw [e1] at hq; rw [e2] at e
              injection hq with hq
              injection e with e
              have h5 : b1 = q := hq
              have h6 : b2 = q := e
              rw [h5] at hh1; rw [h6] at hh2
              rw [hh1] at hh2
              injection hh2 with hh2
              injection hh2 with _ e3 _
              exact absurd e3 (by decide)))
        have ho2 := hid (own_keepL ho2.out fun q hq => hu1.block q (ho2.out.lt q hq).2 fun e => hty.out q e hq)
        have kv := hid (kv.out.upd hu1 fun e => own_ne ho1.out kv.out (by decide) _ e rfl)
        have hBb := hid (hBb.out.trans (hu1.below (B := w6.heap.size) hBb.out.size fun q hq e => by have := (ho1.out.lt q e).1; omega))
        clear hu1 hown3 hg3 hat3 hc3 ho1 hty
        have x0 := kv.out.cell 0
        have x1 := kv.out.cell 1
        have x2 := kv.out.cell 2
        simp only [List.getElem?_toArray, List.getElem?_cons_zero, List.getElem?_cons_succ] at x0 x1 x2
        go_wp2_with (
          at_builtin
          go_loud (refine wpList_append_rd _ rfl (.tmp 106) (.tmp 110) 26 rfl w6.heap.size 40 ip2 _ 5 56 Tryz.underlying26 hip2 hp20 hp21 hp22 rfl (by omega) (.slice A2 X.length c2) X.length (wrCells (ws0 X)) rfl (ho2.out.alloc _) (fun b => b = w9.heap.size) (some ⟨w9.heap.size, 0, none⟩) 1 1 [.string key, .bool false, .int .i64 P.v.k, .int .i64 P.v.n, .string P.v.s] rfl (Rd.new w9 40 5 1 #[.string key, .bool false, .int .i64 P.v.k, .int .i64 P.v.n, .string P.v.s] _ rfl rfl) (by intro v hv; simp at hv; rcases hv with rfl | rfl | rfl | rfl | rfl <;> rfl) (by have := hxl.out; simp only [maxLen]; omega) (by have := hxl.out; omega) (by simp; have := hBb.out.size; omega) ?_)
          intro v3 w10 hown3 hg3 hat3
          obtain ⟨A4, c4, rfl, hc3, _⟩ := own_form hown3)
        have hu2 : Upd (fun q => (Value.slice A2 X.length c2).ownBlock = some q) w9 w10 := ((Upd.refl _ w9).alloc _).grown hg3 fun q hq _ => hq
        have hO2 := hid hown3
        have hty := hid (fun q (hq : (Value.slice A2 X.length c2).ownBlock = some q) => (show (Value.slice A3 (X.length + 1) c3).ownBlock ≠ some q from fun e => by
          rcases ho2.out.2 with ⟨e1, _⟩ | ⟨b1, _, cur1, e1, _, hh1, _⟩
          · rw [e1] at hq; cases hq
          · rcases hO1.out.2 with ⟨e2, _⟩ | ⟨b2, _, cur2, e2, _, hh2, _⟩
            · rw [e2] at e; cases e
            · rw [e1] at hq; rw [e2] at e
              injection hq with hq
              injection e with e
              have h5 : b1 = q := hq
              have h6 : b2 = q := e
              rw [h5] at hh1; rw [h6] at hh2
              rw [hh1] at hh2
              injection hh2 with hh2
              injection hh2 with _ e3 _
              exact absurd e3 (by decide)))
        have hO1 := hid (own_keepL hO1.out fun q hq => hu2.block q (hO1.out.lt q hq).2 fun e => hty.out q e hq)
        have hBf := hid (hBb.out.trans (hu2.below (B := w6.heap.size) hBb.out.size fun q hq e => by have := (ho2.out.lt q e).1; omega))
        clear hu2 hown3 hg3 hat3 hc3 ho2 hty x0 x1 x2 kv hBb
        go_roundw
        case rel => exact ⟨i + 1, X ++ [(key, P.v)], A3, c3, A4, c4, by simp, by simp, by go_num, hlt9.out, hst.out, by rw [List.length_append, keys0_snoc]; exact hO1.out, by rw [List.length_append, ws0_snoc]; exact hO2.out, hBf.out⟩
        case measure => simp [intOf]; have := hlt9.out; omega
      · have t0 : (P.e == 0) = false := by simpa using he0
        have hfin : Hid (R = none) := hid (by
          have h1 : parP (Ds.take (i + 1)) = none := by rw [htk.out, parP_snoc, hpX.out, hip.out, if_neg he0]
          rw [hR3.out, parP_take h1])
        clear he0 hip htk
        go_wp2_with fail
        refine bodyPost_ret (v := .tuple #[.pointer none, .int .i64 42]) (by simp [results, Tryz.results31, go_sem]) rfl ?_
        rw [hfin.out]
        exact ⟨rfl, by rw [hmw]; exact hBw6.out.trans (hBb.out.mono (by have := hBw6.out.size; omega))⟩
    · obtain rfl : i = m := by omega
      have hDm : Ds.take i = Ds := List.take_of_length_le (by rw [hD.out]; have := hm9.out; omega)
      rw [hDm] at hpX
      have hR4 : Hid (R = endP p q X) := hid (by rw [hR3.out, hpX.out])
      have hszs := parP_size hpX.out (n := l.length) (hDl.out)
      have hkz := hid (show okKs (keys0 X) from fun k hk => by
        obtain ⟨x, hx, rfl⟩ := List.mem_map.1 hk
        have := (hszs x hx).1; have := hlz2.out; omega)
      have hwz := hid (show okWs (ws0 X) from fun u hu => by
        obtain ⟨x, hx, rfl⟩ := List.mem_map.1 hu
        have := hszs x hx
        have := hlz2.out
        exact ⟨by show x.1.size ≤ _; omega, by show x.2.s.size ≤ _; omega⟩)
      have hPA2 := hid (hPA.out.below hBr.out)
      have hkl : (keys0 X).length = X.length := List.length_map ..
      have hwl : (ws0 X).length = X.length := List.length_map ..
      have hrk := hid (show Rd (fun b => w6.heap.size ≤ b) _ 1 A1 (keys0 X).length (strs (keys0 X)) by rw [hkl]; exact Rd.of_own' ho1.out)
      have hrw0 := hid (show Rd (fun b => w6.heap.size ≤ b) _ 5 A2 (ws0 X).length (wrCells (ws0 X)) by rw [hwl]; exact Rd.of_own' ho2.out)
      have hSl := hid (show ∀ b, w6.heap.size ≤ b → ¬ S b from fun b hb e => by have := hPA.out.lt b e; omega)
      have hkl := hid hkl
      have hwl := hid hwl
      have hBw := hid (hBw6.out.trans (hBr.out.mono (by have := hBw6.out.size; omega)))
      clear hDm hR3 hszs ho1 ho2 hlt him
      have hcl := hid (claim_any (c := c1) (keys0 X) hPA2.out hrk.out hSl.out hkz.out (by rw [hkl.out]; exact hxl.out))
      rw [hkl.out] at hcl
      go_wp2_with fail
      refine hcl.out.mono ?_
      rintro e w7 ⟨rfl, hP7, hu7⟩
      have hP7 := hid hP7
      have hBw7 := hid (hBw.out.trans (hu7.below (B := m0) (hmw ▸ hBw.out.size) fun b hb e => by have := hge.out b e; have := hwS.out; omega))
      have hrw7 := hid (hrw0.out.upd hu7 fun b hb e => hSl.out b hb e)
      clear hu7 hcl hrk
      by_cases hc0 : claimE ⟨p, q, []⟩ (keys0 X) = 0
      case neg =>
        have t0 : (claimE ⟨p, q, []⟩ (keys0 X) == 0) = false := by simpa using hc0
        have t0b : (claimE ⟨p, q, []⟩ (keys0 X) != 0) = true := by simpa using hc0
        have hfin : Hid (R = none) := hid (by rw [hR4.out]; unfold endP; rw [if_neg fun e => hc0 e.1])
        generalize claimE ⟨p, q, []⟩ (keys0 X) = ce at *
        clear hc0
        go_wp2_with fail
        refine bodyPost_ret (v := .tuple #[.pointer none, .int .i64 42]) (by simp [results, Tryz.results31, go_sem]) rfl ?_
        rw [hfin.out]
        exact ⟨rfl, by rw [hmw]; exact hBw7.out⟩
      have hap := hid (apply_any (c := c2) (ws0 X) hP7.out hrw7.out hSl.out hwz.out (by rw [hwl.out]; exact hxl.out))
      rw [hwl.out] at hap
      have hc9 := hid hc0
      rw [hc0]
      clear hc0
      go_wp2_with fail
      refine hap.out.mono ?_
      rintro e w8 ⟨rfl, hP8, hu8⟩
      have hP8 := hid hP8
      have hBw8 := hid (hBw7.out.trans (hu8.below (B := m0) (hmw ▸ hBw7.out.size) fun b hb e => by have := hge.out b e; have := hwS.out; omega))
      clear hu8 hap
      by_cases ha0 : applyE (claimS ⟨p, q, []⟩ (keys0 X)) (ws0 X) = 0
      case neg =>
        have t0 : (applyE (claimS ⟨p, q, []⟩ (keys0 X)) (ws0 X) == 0) = false := by simpa using ha0
        have t0b : (applyE (claimS ⟨p, q, []⟩ (keys0 X)) (ws0 X) != 0) = true := by simpa using ha0
        have hfin : Hid (R = none) := hid (by rw [hR4.out]; unfold endP; rw [if_neg fun e => ha0 e.2])
        generalize applyE (claimS ⟨p, q, []⟩ (keys0 X)) (ws0 X) = ae at *
        clear ha0
        go_wp2_with fail
        refine bodyPost_ret (v := .tuple #[.pointer none, .int .i64 42]) (by simp [results, Tryz.results31, go_sem]) rfl ?_
        rw [hfin.out]
        exact ⟨rfl, by rw [hmw]; exact hBw8.out⟩
      have hfin : Hid (R = some (applyS (claimS ⟨p, q, []⟩ (keys0 X)) (ws0 X))) := hid (by rw [hR4.out]; unfold endP; rw [if_pos ⟨hc9.out, ha0⟩])
      rw [ha0]
      clear ha0
      go_wp2_with fail
      refine bodyPost_ret (v := .tuple #[.pointer (some ⟨g, 0, none⟩), .int .i64 0]) (by simp [results, Tryz.results31, go_sem]) rfl ?_
      rw [hfin.out]
      exact ⟨S, g, rfl, hP8.out, fun j hj => by have := hge.out j hj; have := hwS.out; omega, by rw [hmw]; exact hBw8.out⟩
end Go.Proofs.YtphglnenafdkaaaGreatDoor

