/- Texts of the proof, joined: SRClaim. -/
import Derived.Test.YtphglnenafdkaaaGreatDoorQ10
import Derived.Test.YtphglnenafdkaaaGreatDoorQ06
import Derived.Test.YtphglnenafdkaaaGreatDoorQ09
namespace Go.Proofs.YtphglnenafdkaaaGreatDoor
open Go.RowKit
set_option linter.unusedVariables false
set_option linter.unusedSimpArgs false

theorem below_al {w W : World} (h : Below w.heap.size w W) (o : Obj) : Below w.heap.size w (W.alloc o) := h.alloc h.size o
theorem below_sz {w W : World} (h : Below w.heap.size w W) : w.heap.size ≤ W.heap.size := h.size
theorem below_gr {w W w' : World} {row : Option Nat} (h : Below w.heap.size w W) (hg : W.grownBy w' row) (hr : ∀ k, row = some k → w.heap.size ≤ k) : Below w.heap.size w w' := h.grown hg h.size hr
theorem Rd.grown_ {S : Nat → Prop} {w w' : World} {size n : Nat} {A : Option Addr} {xs : List Value} {row : Option Nat} (h : Rd S w size A n xs) (hg : w.grownBy w' row) (hr : ∀ b, S b → some b ≠ row) : Rd S w' size A n xs := h.keep fun b hb hl => hg.block b hl (hr b hb)
theorem kvCells_take (L : List Kv) (m : Nat) : (kvCells L).take (m * 4) = kvCells (L.take m) := by
  induction L generalizing m with
  | nil => simp [kvCells]
  | cons p l ih =>
    cases m with
    | zero => simp [kvCells]
    | succ m =>
      have := ih m
      simp only [kvCells, List.flatMap_cons, List.take_succ_cons] at this ⊢
      rw [show (m + 1) * 4 = (encI p).length + m * 4 by simp [encI]; omega]
      show List.take _ (encI p ++ _) = _
      rw [List.take_length_add_append, this]; rfl
theorem kvCells_drop (L : List Kv) (m : Nat) : (kvCells L).drop (m * 4) = kvCells (L.drop m) := by
  induction L generalizing m with
  | nil => simp [kvCells]
  | cons p l ih =>
    cases m with
    | zero => simp
    | succ m =>
      have := ih m
      simp only [kvCells, List.flatMap_cons, List.drop_succ_cons] at this ⊢
      rw [show (m + 1) * 4 = (encI p).length + m * 4 by simp [encI]; omega]
      show List.drop _ (encI p ++ _) = _
      rw [List.drop_length_add_append, this]
theorem Rd.preK {S : Nat → Prop} {w : World} {b o n : Nat} {L : List Kv} (h : Rd S w 4 (some ⟨b, o, none⟩) n (kvCells L)) (hn : n = L.length) (m : Nat) (hm : m ≤ n) : Rd S w 4 (some ⟨b, o, none⟩) m (kvCells (L.take m)) := by
  rw [← kvCells_take]
  refine ⟨by rw [List.length_take, h.1]; omega, fun h0 => ?_⟩
  obtain ⟨b', o', e, hS, hl, hc⟩ := h.2 (by omega)
  refine ⟨b', o', e, hS, hl, fun j u hu => hc j u ?_⟩
  rw [List.getElem?_take] at hu
  split at hu
  · exact hu
  · cases hu
theorem Rd.sufK {S : Nat → Prop} {w : World} {b o n : Nat} {L : List Kv} (h : Rd S w 4 (some ⟨b, o, none⟩) n (kvCells L)) (hn : n = L.length) (m : Nat) : Rd S w 4 (some ⟨b, o + m * 4, none⟩) (n - m) (kvCells (L.drop m)) := by
  rw [← kvCells_drop]
  refine ⟨by rw [List.length_drop, h.1, Nat.sub_mul], fun h0 => ?_⟩
  obtain ⟨b', o', e, hS, hl, hcc⟩ := h.2 (by omega)
  injection e with e
  injection e with e1 e2 _
  subst e1; subst e2
  refine ⟨b, o + m * 4, rfl, hS, hl, fun j u hu => ?_⟩
  rw [List.getElem?_drop] at hu
  have := hcc _ u hu
  rwa [← Nat.add_assoc] at this
theorem claimE_full' {s : St} {ks : List ByteArray} (hok : s.Ok) (h : (ks.any fun k => !validK k) = false) (h2 : riseB ks = true) {p : Nat} (hp : p < s.parts) (h4 : s.room < cntP s.parts p s.L + moreK s ks p) : claimE s ks = 5 :=
  claimE_full h h2 hp (by have := hok.cnt p hp; omega) h4
section
variable {S : Nat → Prop} {w w' : World} {r : Nat} {s : St}
set_option maxRecDepth 100000 in
set_option maxHeartbeats 4000000 in
theorem rclaim_any {Sk : Nat → Prop} {A : Option Addr} {c : Nat} (ks : List ByteArray) (h : RAt S w r s) (hr : Rd Sk w 1 A ks.length (strs ks)) (hd : ∀ b, Sk b → b < w.heap.size ∧ b ≠ r) (hs : ∀ k ∈ ks, k.size ≤ 9223372036854775806) (hn : ks.length ≤ 1000000) :
    Calls Tryz.prog 17 #[.pointer (some ⟨r, 0, none⟩), .slice A ks.length c] w fun e w' => e = .returned (.int .i64 (claimE s ks)) ∧ RGo S w r (claimS s ks) w' := by
  obtain ⟨B, d, h⟩ := h
  have HH := hid h
  have HR := hid hr
  have HS := hid hs
  have hN : (ks.length : Int) ≤ 1000000 := by omega
  have hlen0 : (s.L.length : Int) ≤ 262144 := by have := h.ok.len; omega
  have hlen := hid hlen0
  have hgo0 : ∀ w', Below w.heap.size w w' → ∀ e, claimE s ks = e → e ≠ 0 → RGo S w r (claimS s ks) w' := fun w' hb e he hne => ⟨S, by rw [claimS_no (by rw [he]; exact hne)]; exact ⟨_, _, HH.out.below hb⟩, fun j hj => .inl hj, .of_below hb fun k hk h => by omega⟩
  have hgo := hid hgo0
  clear h hr hs hn hgo0 hlen0
  go_enter Tryz.func17, Tryz.ntmps17
  go_wp2_with fail
  go_loopw [5] (fun v wr => ∃ (k : Nat), v = .int .i64 k ∧ k ≤ ks.length ∧ Below w.heap.size w wr ∧ ∀ j (hj : j < ks.length), j < k → validK ks[j] = true) (fun v _ => ks.length - (intOf v).toNat)
  case atStart => exact ⟨0, rfl, Nat.zero_le _, Below.refl _ _, fun j hj h => by omega⟩
  case round =>
    obtain ⟨k, rfl, hk, hB0, ha0⟩ := hrel
    have hB := hid hB0
    have ha := hid ha0
    clear hB0 ha0
    by_cases hlt : k < ks.length
    · have i1 : (k : Int) < (ks.length : Int) := by omega
      obtain ⟨b, o, rfl, _, _, hc1⟩ := rd_strs (HR.out.below_all hB.out) hlt
      have hv := hid (rvalidk_any ks[k] wr (HS.out _ (List.getElem_mem hlt)))
      cases hb0 : validK ks[k] with
      | true =>
        have hb := hid hb0
        rw [hb0] at hv
        clear hb0
        go_wp2_with fail
        refine hv.out.mono ?_
        rintro e w2 ⟨rfl, rfl⟩
        go_wp2_with fail
        go_roundw
        case rel => exact ⟨k + 1, by go_num, hlt, hB.out, fun j hj hjk => by
          by_cases e : j = k
          · subst e; exact hb.out
          · exact ha.out j hj (by omega)⟩
        case measure => simp [intOf]; omega
      | false =>
        have hfin : Hid (claimE s ks = 30) := hid (claimE_key (List.any_eq_true.2 ⟨ks[k], List.getElem_mem hlt, by rw [hb0]; rfl⟩))
        rw [hb0] at hv
        clear hb0
        go_wp2_with fail
        refine hv.out.mono ?_
        rintro e w2 ⟨rfl, rfl⟩
        go_wp2_with fail
        go_ret
        exact ⟨by rw [hfin.out]; rfl, hgo.out _ hB.out _ hfin.out (by decide)⟩
    · obtain rfl : k = ks.length := by omega
      have hv : Hid ((ks.any fun k => !validK k) = false) := hid (by
        rw [List.any_eq_false]
        intro x hx
        obtain ⟨j, hj, rfl⟩ := List.mem_iff_getElem.1 hx
        rw [ha.out j hj hj]; simp)
      have HB := hid hB.out
      clear ha hlt hB hk
      go_wp2_with fail
      go_loopw [6] (fun v wr => ∃ (k : Nat), v = .int .i64 k ∧ 1 ≤ k ∧ (k ≤ ks.length ∨ k = 1) ∧ Below w.heap.size w wr ∧ ∀ j (hj : j + 1 < ks.length), j + 1 < k → ltB ks[j] ks[j + 1] = true) (fun v _ => ks.length - (intOf v).toNat)
      case atStart => exact ⟨1, rfl, Nat.le_refl _, .inr rfl, HB.out, fun j hj h => by omega⟩
      case round =>
        clear HB
        obtain ⟨k, rfl, hk1, hkn, hB0, ha0⟩ := hrel
        have hB := hid hB0
        have ha := hid ha0
        clear hB0 ha0
        by_cases hlt : k < ks.length
        · obtain ⟨j, hjk⟩ : ∃ j, j + 1 = k := ⟨k - 1, by omega⟩
          have hj : j < ks.length := by omega
          have hR2 := HR.out.below_all hB.out
          obtain ⟨b, o, rfl, _, _, hc1⟩ := rd_strs hR2 hj
          obtain ⟨b', o', e, _, _, hc2⟩ := rd_strs hR2 hlt
          injection e with e; injection e with e1 e2; subst e1; subst e2
          have i0 : (j : Int) < (ks.length : Int) := by omega
          have i1 : (k : Int) < (ks.length : Int) := by omega
          have x1 : IntKind.i64.wrap ((k : Int) - 1) = (j : Int) := by rw [IntKind.wrap_i64]; omega
          have hjk := hid hjk
          cases hl0 : ltB ks[j] ks[k] with
          | true =>
            have hl : Op.bytesLess (ks[j]).toList (ks[k]).toList = true := hl0
            have hl1 := hid hl0
            clear hl0 hR2 hk1 hkn
            go_wp2_with fail
            go_quiet (fail)
            go_wp2_with fail
            go_roundw
            case rel => exact ⟨k + 1, by go_num, by omega, .inl hlt, below_drewN hB.out _, fun i hi hik => by
              have e := hjk.out
              by_cases e2 : i = j
              · subst e2
                have := hl1.out
                simp only [← e] at this
                exact this
              · exact ha.out i hi (by omega)⟩
            case measure => simp [intOf]; omega
          | false =>
            have hl : Op.bytesLess (ks[j]).toList (ks[k]).toList = false := hl0
            have hfin : Hid (claimE s ks = 40) := hid (by
              have e := hjk.out
              have hr : riseB ks = false := rise_no (k := j) (by omega) (by subst e; exact hl0)
              exact claimE_rise (s := s) hv.out hr)
            clear hl0 hR2 hk1 hkn
            go_wp2_with fail
            go_quiet (fail)
            go_wp2_with fail
            go_ret
            exact ⟨by rw [hfin.out]; rfl, hgo.out _ (below_drewN hB.out _) _ hfin.out (by decide)⟩
        · have hrise := hid (rise_yes fun j hj => ha.out j hj (by omega))
          clear ha hk1 hkn
          have c1 : wr.cell? ⟨r, 0, none⟩ = some (.int .i64 s.parts) := (HH.out.below hB.out).cells.1
          have hmk := make_parts s.parts HH.out.ok.parts.2 wr
          go_upto_region 12 with fail
          have hm0 := IArr.new wr s.parts
          have hB2 : Below w.heap.size w (wr.alloc (.cells (madeCells #[.int .i64 0] s.parts) 3)) := hB.out.alloc hB.out.size _
          have hml : w.heap.size ≤ wr.heap.size := hB.out.size
          generalize wr.alloc (.cells (madeCells #[.int .i64 0] s.parts) 3) = w3 at *
          generalize wr.heap.size = m at *
          have HM := hid hm0
          have HB := hid hB2
          have HL := hid hml
          clear hm0 hB2 hml hmk c1 hB hlt
          go_wp2_with fail
          go_loopw [8] (fun v wr => ∃ (k : Nat), v = .int .i64 k ∧ k ≤ s.L.length ∧ IArr wr m s.parts (fun p => cntP s.parts p (s.L.take k)) ∧ Below w.heap.size w wr) (fun v _ => s.L.length - (intOf v).toNat)
          case atStart => exact ⟨0, rfl, Nat.zero_le _, HM.out.congr fun j hj => by simp [cntP], HB.out⟩
          case round =>
            clear HM HB
            obtain ⟨k, rfl, hk, hm0, hB0⟩ := hrel
            have HM := hid hm0
            have HB := hid hB0
            clear hm0 hB0
            have hP := HH.out.below HB.out
            have d2 : wr.cell? ⟨r, 2, none⟩ = some (.slice B s.L.length d) := hP.cells.2.2
            by_cases hlt : k < s.L.length
            · have i1 : (k : Int) < (s.L.length : Int) := by omega
              have hl9 := hlen.out
              obtain ⟨b, o, rfl, hSb, hbl, d0, -⟩ := rd_kv hP.rd hlt
              have hks : (s.L[k]).1.size ≤ 32 := by
                have := HH.out.ok.key _ (List.getElem_mem hlt)
                unfold validK at this
                simp at this
                exact this.2
              have hpa := hid fun w => part_any (s.L[k]).1 s.parts w (by omega) HH.out.ok.parts.1 HH.out.ok.parts.2
              have hpa := hid fun w => rpart_any (s.L[k]).1 s.parts w (by omega) HH.out.ok.parts.1 HH.out.ok.parts.2
              have htk := hid (take_snoc hlt)
              obtain ⟨x, hx⟩ : ∃ x, x = s.L[k] := ⟨_, rfl⟩
              rw [← hx] at d0 htk hks
              simp only [← hx] at hpa
              have d1 : wr.cell? ⟨r, 0, none⟩ = some (.int .i64 s.parts) := hP.cells.1
              have hpl := partK_lt x.1 (show 0 < s.parts by have := HH.out.ok.parts; omega)
              have cf := HM.out.frozen
              have cp := HM.out.cell hpl
              have hml := HM.out.lt
              have hpi : ((partK s.parts x.1 : Nat) : Int) < (s.parts : Int) := by omega
              have hle : ((cntP s.parts (partK s.parts x.1) (s.L.take k) : Nat) : Int) ≤ 262144 := by
                have h1 : cntP s.parts (partK s.parts x.1) (s.L.take k) ≤ (s.L.take k).length := List.countP_le_length
                have h2 : (s.L.take k).length ≤ s.L.length := by simp; omega
                omega
              have hset := hid (fun n => HM.out.set hpl n)
              have hmr : Hid (m ≠ r ∧ m ≠ b) := hid ⟨by
                have := HH.out.blk.lt; have := HL.out; omega, by
                have := HH.out.lt b hSb.1; have := HL.out; omega⟩
              obtain ⟨p, hp⟩ : ∃ p, p = partK s.parts x.1 := ⟨_, rfl⟩
              rw [← hp] at cp hpi hle hset hpl
              simp only [← hp] at hpa
              obtain ⟨n, hn⟩ : ∃ n, n = cntP s.parts p (s.L.take k) := ⟨_, rfl⟩
              rw [← hn] at cp hle
              have x1 : IntKind.i64.wrap ((n : Int) + 1) = (n : Int) + 1 := by rw [IntKind.wrap_i64]; omega
              have hnn := hid hn
              have hpp := hid hp
              have hpl := hid hpl
              obtain ⟨y, hy⟩ : ∃ y, y = x.1 := ⟨_, rfl⟩
              rw [← hy] at d0 hpp
              simp only [← hy] at hpa
              have hyy := hid hy
              clear hn hp hle hpl hx hks hP hSb hbl hy hl9
              go_wp2_with fail
              go_region_with ((go_at_call 47; refine (hpa.out _).mono ?_; rintro e wb ⟨rfl, rfl⟩))
              all_goals
                have hl9 := hlen.out
                go_wp2_with fail
                go_roundw
                case rel =>
                  have h1 : IArr (wr.setCell ⟨m, p, none⟩ (.int .i64 ((n : Int) + 1))) m s.parts (fun p => cntP s.parts p (s.L.take (k + 1))) := by
                    have := hset.out (n + 1)
                    rw [show ((n + 1 : Nat) : Int) = (n : Int) + 1 by omega] at this
                    refine this.congr fun j hj => ?_
                    rw [htk.out]
                    unfold cntP at hnn ⊢
                    rw [List.countP_append]
                    have hpx : partK s.parts x.1 = p := by rw [← hyy.out]; exact hpp.out.symm
                    by_cases e : j = p
                    · subst e; rw [if_pos rfl, hnn.out]; simp [hpx]
                    · have : ¬ partK s.parts x.1 = j := fun h => e (by rw [← hpx, h])
                      rw [if_neg e]; simp [this]
                  have h2 : Below w.heap.size w (wr.setCell ⟨m, p, none⟩ (.int .i64 ((n : Int) + 1))) := HB.out.setCell (p := ⟨m, p, none⟩) HL.out _
                  exact ⟨k + 1, by go_num, hlt, h1, by first | exact h2 | exact h2.drew⟩
                case measure => simp [intOf]; omega
            · obtain rfl : k = s.L.length := by omega
              have HM2 : Hid (IArr wr m s.parts (fun p => cntP s.parts p s.L)) := hid (HM.out.congr fun p hp => by simp only [List.take_length])
              clear HM hP hlt hk
              go_wp2_with fail
              go_loopw [9] (fun v wr => ∃ (k : Nat), v = .int .i64 k ∧ k ≤ ks.length ∧ IArr wr m s.parts (fun p => cntP s.parts p s.L + (ks.take k).countP fun x => !hasK x s.L && decide (partK s.parts x = p)) ∧ Below w.heap.size w wr) (fun v _ => ks.length - (intOf v).toNat)
              case atStart => exact ⟨0, rfl, Nat.zero_le _, HM2.out.congr fun j hj => by simp, HB.out⟩
              case round =>
                clear HM2 HB
                obtain ⟨k, rfl, hk, hm0, hB0⟩ := hrel
                have HM := hid hm0
                have HB := hid hB0
                clear hm0 hB0
                by_cases hlt : k < ks.length
                · have i1 : (k : Int) < (ks.length : Int) := by omega
                  obtain ⟨b, o, rfl, hSb, _, hc1⟩ := rd_strs (HR.out.below_all HB.out) hlt
                  have hcl := hid (rclaimed_any ks[k] ⟨_, _, HH.out.below HB.out⟩)
                  have hpa := hid fun w => rpart_any ks[k] s.parts w (HS.out _ (List.getElem_mem hlt)) HH.out.ok.parts.1 HH.out.ok.parts.2
                  have htk := hid (take_snoc hlt)
                  have hbw := hid (hd b hSb)
                  obtain ⟨x, hx⟩ : ∃ x, x = ks[k] := ⟨_, rfl⟩
                  rw [← hx] at hc1 hcl hpa htk
                  have hbl := hid (show ∀ w', Below w.heap.size w w' → w'.cell? ⟨b, o + k, none⟩ = some (.string x) from fun w' h => by
                    obtain ⟨b', o', e, _, _, hc2⟩ := rd_strs (HR.out.below_all h) hlt
                    injection e with e; injection e with e1 e2; subst e1; subst e2
                    rw [hx]; exact hc2)
                  clear hx
                  go_wp2_with fail
                  refine hcl.out.mono ?_
                  rintro e w5 ⟨rfl, hb50⟩
                  have HM5 := hid (HM.out.below hb50)
                  have HB5 := hid (HB.out.trans (hb50.mono HB.out.size))
                  clear hb50 HM HB hcl hc1
                  cases hh0 : hasK x s.L with
                  | true =>
                    have hh := hid hh0
                    clear hh0
                    go_wp2_with fail
                    go_roundw
                    case rel => exact ⟨k + 1, by go_num, hlt, HM5.out.congr fun j hj => by rw [htk.out, List.countP_append]; simp [hh.out], HB5.out⟩
                    case measure => simp [intOf]; omega
                  | false =>
                    have hpl := partK_lt x (show 0 < s.parts by have := HH.out.ok.parts; omega)
                    have hh := hid hh0
                    have d1 : w5.cell? ⟨r, 0, none⟩ = some (.int .i64 s.parts) := (HH.out.below HB5.out).cells.1
                    have cf := HM5.out.frozen
                    have cp := HM5.out.cell hpl
                    have hml := HM5.out.lt
                    have hpi : ((partK s.parts x : Nat) : Int) < (s.parts : Int) := by omega
                    have hle : ((cntP s.parts (partK s.parts x) s.L + (ks.take k).countP fun y => !hasK y s.L && decide (partK s.parts y = partK s.parts x) : Nat) : Int) ≤ 2000000 := by
                      have h1 := List.countP_le_length (p := fun y => !hasK y s.L && decide (partK s.parts y = partK s.parts x)) (l := ks.take k)
                      have h2 : (ks.take k).length ≤ ks.length := by simp; omega
                      have h3 : cntP s.parts (partK s.parts x) s.L ≤ s.L.length := List.countP_le_length
                      have h4 := hlen.out
                      omega
                    have hset := hid (fun n => HM5.out.set hpl n)
                    obtain ⟨p, hp⟩ : ∃ p, p = partK s.parts x := ⟨_, rfl⟩
                    rw [← hp] at cp hpi hle hset hpl
                    simp only [← hp] at hpa
                    obtain ⟨n, hn⟩ : ∃ n, n = cntP s.parts p s.L + (ks.take k).countP fun y => !hasK y s.L && decide (partK s.parts y = p) := ⟨_, rfl⟩
                    rw [← hn] at cp hle
                    have x1 : IntKind.i64.wrap ((n : Int) + 1) = (n : Int) + 1 := by rw [IntKind.wrap_i64]; omega
                    have hnn := hid hn
                    have hpp := hid hp
                    have hpl := hid hpl
                    have hc1 := hbl.out _ HB5.out
                    clear hn hp hh0 hle hpl
                    go_wp2_with fail
                    go_region_with ((go_at_call 47; refine (hpa.out _).mono ?_; rintro e wb ⟨rfl, rfl⟩))
                    all_goals
                      go_wp2_with fail
                      go_roundw
                      case rel =>
                        have h1 : IArr (w5.setCell ⟨m, p, none⟩ (.int .i64 ((n : Int) + 1))) m s.parts (fun p => cntP s.parts p s.L + (ks.take (k + 1)).countP fun x => !hasK x s.L && decide (partK s.parts x = p)) := by
                          have := hset.out (n + 1)
                          rw [show ((n + 1 : Nat) : Int) = (n : Int) + 1 by omega] at this
                          refine this.congr fun j hj => ?_
                          rw [htk.out, List.countP_append]
                          by_cases e : j = p
                          · subst e; rw [if_pos rfl, hnn.out]; simp [hh.out, hpp.out]; omega
                          · have : ¬ partK s.parts x = j := fun h => e (by rw [hpp.out, h])
                            rw [if_neg e]; simp [this]
                        have h2 : Below w.heap.size w (w5.setCell ⟨m, p, none⟩ (.int .i64 ((n : Int) + 1))) := HB5.out.setCell (p := ⟨m, p, none⟩) HL.out _
                        exact ⟨k + 1, by go_num, hlt, h1, by first | exact h2 | exact h2.drew⟩
                      case measure => simp [intOf]; omega
                · obtain rfl : k = ks.length := by omega
                  have HM2 : Hid (IArr wr m s.parts (fun p => cntP s.parts p s.L + moreK s ks p)) := hid (HM.out.congr fun p hp => by simp only [List.take_length]; rfl)
                  clear HM hlt hk
                  go_wp2_with fail
                  go_loopw [10] (fun v wr => ∃ (k : Nat), v = .int .i64 k ∧ k ≤ s.parts ∧ IArr wr m s.parts (fun p => cntP s.parts p s.L + moreK s ks p) ∧ Below w.heap.size w wr ∧ ∀ p, p < k → ¬ s.room < cntP s.parts p s.L + moreK s ks p) (fun v _ => s.parts - (intOf v).toNat)
                  case atStart => exact ⟨0, rfl, Nat.zero_le _, HM2.out, HB.out, fun p hp => by omega⟩
                  case round =>
                    clear HM2 HB
                    obtain ⟨k, rfl, hk, hm0, hB0, hf0⟩ := hrel
                    have HM := hid hm0
                    have HB := hid hB0
                    have HF := hid hf0
                    clear hm0 hB0 hf0
                    have hparts : (s.parts : Int) ≤ 64 := by have := HH.out.ok.parts.2; omega
                    have hP := HH.out.below HB.out
                    obtain ⟨d0, d1, -⟩ := hP.cells
                    by_cases hlt : k < s.parts
                    · have i1 : (k : Int) < (s.parts : Int) := by omega
                      have cp := HM.out.cell hlt
                      obtain ⟨n, hn⟩ : ∃ n, n = cntP s.parts k s.L + moreK s ks k := ⟨_, rfl⟩
                      rw [← hn] at cp
                      have hnn := hid hn
                      by_cases hfl : s.room < n
                      · have t2 : decide ((s.room : Int) < (n : Int)) = true := decide_eq_true (by omega)
                        have t2n : decide (s.room < n) = true := decide_eq_true hfl
                        have hfin : Hid (claimE s ks = 5) := hid (claimE_full' HH.out.ok hv.out hrise.out hlt (by rw [← hn]; exact hfl))
                        clear hP hn hfl
                        go_wp2_with fail
                        go_quiet (fail)
                        go_wp2_with fail
                        go_ret
                        exact ⟨by rw [hfin.out]; rfl, hgo.out _ (below_drewN HB.out _) _ hfin.out (by decide)⟩
                      · have t2 : decide ((s.room : Int) < (n : Int)) = false := decide_eq_false (by omega)
                        have t2n : decide (s.room < n) = false := decide_eq_false hfl
                        have hno := hid hfl
                        clear hP hn hfl
                        go_wp2_with fail
                        go_quiet (fail)
                        go_wp2_with fail
                        go_roundw
                        case rel =>
                          refine ⟨k + 1, by go_num, hlt, HM.out.below (below_drewN (Below.refl _ _) _), below_drewN HB.out _, fun p hp => ?_⟩
                          by_cases e : p = k
                          · subst e; rw [← hnn.out]; exact hno.out
                          · exact HF.out p (by omega)
                        case measure => simp [intOf]; omega
                    · obtain rfl : k = s.parts := by omega
                      have he0 : claimE s ks = 0 := claimE_ok hv.out hrise.out fun p hp h => HF.out p (by omega) h.2
                      have he := hid he0
                      have HP := hid (HH.out.below HB.out)
                      have HR2 := hid (HR.out.below_all HB.out)
                      have HU : Hid (Upd (fun j => j = r) w wr) := hid (.of_below HB.out fun k hk h => by omega)
                      have HW := hid HB.out.size
                      have HS0 := hid HH.out.lt
                      have HIn := hid HH.out.inS
                      clear he0 HF HM HH HR HB hlt hk hparts hP
                      go_wp2_with fail
                      go_loopw [11] (fun v wr => ∃ (k : Nat) (S' : Nat → Prop), v = .int .i64 k ∧ k ≤ ks.length ∧ RAt S' wr r { s with L := insAll s.L (ks.take k) } ∧ Rd Sk wr 1 A ks.length (strs ks) ∧ (∀ j, S' j → S j ∨ w.heap.size ≤ j) ∧ Upd (fun j => j = r) w wr) (fun v _ => ks.length - (intOf v).toNat)
                      case atStart => exact ⟨0, S, rfl, Nat.zero_le _, ⟨_, _, HP.out⟩, HR2.out, fun j hj => .inl hj, HU.out⟩
                      case round =>
                        have HOk := hid (pre_ok HP.out.ok he.out)
                        clear HP HR2 HU d0 d1
                        obtain ⟨k, S', rfl, hk, hp0, hr0, hS0, hu0⟩ := hrel
                        have HP := hid hp0
                        have HR := hid hr0
                        have HU := hid hu0
                        have HSS := hid hS0
                        clear hp0 hr0 hu0 hS0
                        by_cases hlt : k < ks.length
                        · have i1 : (k : Int) < (ks.length : Int) := by omega
                          obtain ⟨b, o, rfl, hSb, _, hc1⟩ := rd_strs HR.out hlt
                          have hbr := hid (hd b hSb).2
                          have hat := hid (at_any ks[k] HP.out)
                          have htk := hid (take_snoc hlt)
                          obtain ⟨x, hx⟩ : ∃ x, x = ks[k] := ⟨_, rfl⟩
                          rw [← hx] at hc1 hat htk
                          have hbl := hid (show ∀ w', Below wr.heap.size wr w' → w'.cell? ⟨b, o + k, none⟩ = some (.string x) from fun w' h => by
                            obtain ⟨b', o', e, _, _, hc2⟩ := rd_strs (HR.out.below_all h) hlt
                            injection e with e; injection e with e1 e2; subst e1; subst e2
                            rw [hx]; exact hc2)
                          clear hx
                          go_wp2_with fail
                          refine hat.out.mono ?_
                          rintro e w5 ⟨rfl, hb50⟩
                          have HP5 := hid (HP.out.below hb50)
                          have HR5 := hid (HR.out.below_all hb50)
                          have HU5 : Hid (Upd (fun j => j = r) w w5) := hid (HU.out.trans (Upd.of_below (M := fun j => j = r) hb50 fun k hk h => by omega) fun _ _ h => h)
                          have hc5 := hbl.out _ hb50
                          have hc5a := hid (show ∀ w', Below w5.heap.size w5 w' → w'.cell? ⟨b, o + k, none⟩ = some (.string x) from fun w' h => hbl.out _ (hb50.trans (h.mono hb50.size)))
                          clear hb50 hat hc1 HP HR HU hbl
                          cases hh0 : hasK x (insAll s.L (ks.take k)) with
                          | true =>
                            have hnext : Hid (RAt S' w5 r { s with L := insAll s.L (ks.take (k + 1)) }) := hid (by
                              rw [htk.out, insAll_snoc, ins_has HP5.out.ok.asc hh0]; exact HP5.out)
                            clear hh0
                            go_wp2_with fail
                            go_roundw
                            case rel => exact ⟨k + 1, S', by go_num, hlt, hnext.out, HR5.out, HSS.out, HU5.out⟩
                            case measure => simp [intOf]; omega
                          | false =>
                            go_upto_region 31 with fail
                            obtain ⟨B5, d5, HQ0⟩ := HP5.out
                            have hn9 := HQ0.ok.len
                            have hMa : Hid (Asc (insAll s.L (ks.take k))) := hid HQ0.ok.asc
                            have hsp := hid (ins_split hMa.out hh0)
                            have hpl := posK_le (k := x) (L := insAll s.L (ks.take k))
                            have hnx := hid (show insAll s.L (ks.take (k + 1)) = insK x (insAll s.L (ks.take k)) by rw [htk.out, insAll_snoc])
                            have hok1 := HOk.out (k + 1)
                            rw [hnx.out] at hok1
                            have HQ := hid HQ0
                            have hfr := HQ0.frm
                            have hrd := hid HQ0.rd
                            simp only at hn9 hfr
                            clear HQ0
                            obtain ⟨M, hM⟩ : ∃ M, M = insAll s.L (ks.take k) := ⟨_, rfl⟩
                            rw [← hM] at HQ hn9 hMa hsp hpl hnx hok1 hfr hh0 hrd
                            rw [← hM]
                            obtain ⟨p, hp⟩ : ∃ p, p = posK x M := ⟨_, rfl⟩
                            obtain ⟨n, hn⟩ : ∃ n, n = M.length := ⟨_, rfl⟩
                            rw [← hp] at hsp hpl
                            rw [← hp]
                            rw [← hn] at hn9 hpl hfr
                            have hnn := hid hn
                            have hfin : Hid (∀ (A4 : Option Addr) (c4 : Nat) (w4 : World), Below w5.heap.size w5 w4 → w4.ownsRow w5.heap.size 70 4 (.slice A4 (n + 1) c4) (n + 1) (kvCells (M.take p) ++ encI (x, vl0) ++ kvCells (M.drop p)) → RAt (fun j => S' j ∨ w5.heap.size ≤ j ∧ j < w4.heap.size) (w4.setCell ⟨r, 2, none⟩ (.slice A4 (n + 1) c4)) r { s with L := insAll s.L (ks.take (k + 1)) } ∧ Rd Sk (w4.setCell ⟨r, 2, none⟩ (.slice A4 (n + 1) c4)) 1 (some ⟨b, o, none⟩) ks.length (strs ks) ∧ (∀ j, (S' j ∨ w5.heap.size ≤ j ∧ j < w4.heap.size) → S j ∨ w.heap.size ≤ j) ∧ Upd (fun j => j = r) w (w4.setCell ⟨r, 2, none⟩ (.slice A4 (n + 1) c4))) := hid (by
                              intro A4 c4 w4 hb ho
                              have hl1 : (insK x M).length = n + 1 := by
                                rw [hsp.out]; simp [← hnn.out]; omega
                              have hrl := HQ.out.blk.lt
                              have hu : Upd (fun j => j = r) w5 (w4.setCell ⟨r, 2, none⟩ (.slice A4 (n + 1) c4)) := (Upd.of_below (M := fun j => j = r) hb fun k hk h => by omega).setCell (p := ⟨r, 2, none⟩) (fun _ => rfl) _
                              have hsz : (w4.setCell ⟨r, 2, none⟩ (.slice A4 (n + 1) c4)).heap.size = w4.heap.size := by simp
                              have e1 : kvCells (M.take p) ++ encI (x, vl0) ++ kvCells (M.drop p) = kvCells (insK x M) := by
                                rw [hsp.out]; simp [kvCells, encI]
                              rw [e1] at ho
                              refine ⟨⟨A4, c4, ?_, ?_, ?_, .inl HQ.out.inS, fun j hj => ?_, by rw [hnx.out]; exact hok1⟩, HR5.out.upd hu fun b hb e => (hd b hb).2 e, fun j hj => ?_, HU5.out.trans hu fun _ _ h => h⟩
                              · rw [hnx.out]
                                show Blk _ r _ #[.int .i64 s.parts, .int .i64 s.room, .slice A4 (insK x M).length c4]
                                rw [hl1]
                                exact (HQ.out.blk.below_all hb).set_ 2 _
                              · rw [hnx.out]
                                show Rd _ _ 4 A4 (insK x M).length (kvCells (insK x M))
                                rw [hl1]
                                refine ((Rd.of_own' ho).keep fun b hb _ => Below.heap_setCell _ _ _ _ (by simp only; omega)).more fun b hb hl => ⟨.inr ⟨hb, by rw [hsz] at hl; exact hl⟩, by omega⟩
                              · rw [hnx.out]
                                show (A4 = none ∧ (insK x M).length = 0 ∧ c4 = 0) ∨ ((∃ b o, A4 = some ⟨b, o, none⟩) ∧ (insK x M).length ≤ c4 ∧ c4 ≤ maxLen)
                                rw [hl1]
                                rcases ho.2 with ⟨_, h0⟩ | ⟨g, cap, cur, hv, _, _, h1, h2, _⟩
                                · omega
                                · injection hv with e1 e2 e3
                                  exact .inr ⟨⟨g, 0, e1⟩, by omega, by omega⟩
                              · rw [hsz]
                                rcases hj with hj | hj
                                · have := HQ.out.lt j hj; have := hb.size; omega
                                · exact hj.2
                              · rcases hj with hj | hj
                                · exact HSS.out j hj
                                · have := HU5.out.size; exact .inr (by omega))
                            obtain ⟨ip, hip, hp0, hp1, hp2⟩ := info_parts info_item
                            clear hsp hMa hnx hok1 hM hp hh0 hc5 hn
                            have hc5 := hc5a.out _ (Below.refl _ _)
                            rw [← hnn.out] at hrd
                            rcases hfr with ⟨rfl, h0, rfl⟩ | ⟨⟨b5, o5, rfl⟩, hnd, hdm⟩
                            · obtain rfl : p = 0 := by omega
                              obtain rfl : n = 0 := h0
                              have hM0 : M = [] := List.eq_nil_of_length_eq_zero hnn.out.symm
                              have hpre : Hid (Rd (fun b => S' b ∧ b ≠ r) w5 4 none 0 (kvCells (M.take 0))) := hid (by rw [hM0]; exact Rd.nil_)
                              have hsuf : Hid (Rd (fun b => S' b ∧ b ≠ r) w5 4 none 0 (kvCells (M.drop 0))) := hid (by rw [hM0]; exact Rd.nil_)
                              have hkeep : Hid (∀ w', Below w5.heap.size w5 w' → w'.cell? ⟨r, 2, none⟩ = some (.slice none 0 0) ∧ w'.cell? ⟨b, o + k, none⟩ = some (.string x)) := hid fun w' h => ⟨(by have h2 := (HQ.out.below h).cells.2.2; rw [show ({ parts := s.parts, room := s.room, L := M } : St).L.length = 0 from hnn.out.symm] at h2; exact h2), hc5a.out _ h⟩
                              have fq4 : Hid (∀ w', Below w5.heap.size w5 w' → w'.frozen? ⟨r, 2, none⟩ = false) := hid fun w' h => (HQ.out.below h).blk.frozen 2
                              have d2 := (hkeep.out _ (Below.refl _ _)).1
                              have hHeld := hkeep.out w5.drew (Below.refl _ _).drew
                              refine wp_region_heldE (S := fun w' => w'.cell? ⟨r, 2, none⟩ = some (.slice none 0 0) ∧ w'.cell? ⟨b, o + k, none⟩ = some (.string x)) 25 (by kernel_rfl) ?_
                              refine wpAnyE_take [23, 24, 25] (i := 0) (v := ?v1) rfl (by kernel_rfl) (by kernel_rfl) (by kernel_rfl) (by rfl) (by kernel_rfl) (by kernel_rfl) (fun _ _ _ h => h) (Or.inl ⟨by rfl, ?hy1⟩) (hHeld) ?rest1
                              case hy1 => intro w hSw; (try dsimp only at hSw); go_simp; try with_reducible rfl
                              (try simp only [Act.put, List.setIfInBounds_toArray, List.set_cons_zero, List.set_cons_succ, List.getElem_toArray, List.getElem_cons_zero, List.getElem_cons_succ])
                              refine wpAnyE_take [3, 4, 5, 7, 8, 15, 22, 25] (i := 2) (v := ?v2) rfl (by kernel_rfl) (by kernel_rfl) (by kernel_rfl) (by rfl) (by kernel_rfl) (by kernel_rfl) (fun _ _ _ h => h) (Or.inl ⟨by rfl, ?hy2⟩) (hHeld) ?rest2
                              case hy2 => intro w hSw; (try dsimp only at hSw); go_simp; try with_reducible rfl
                              (try simp only [Act.put, List.setIfInBounds_toArray, List.set_cons_zero, List.set_cons_succ, List.getElem_toArray, List.getElem_cons_zero, List.getElem_cons_succ])
                              refine wpAnyE_take [4, 5, 7, 8, 15, 22, 25] (i := 3) (v := ?v3) rfl (by kernel_rfl) (by kernel_rfl) (by kernel_rfl) (by rfl) (by kernel_rfl) (by kernel_rfl) (fun _ _ _ h => h) (Or.inl ⟨by rfl, ?hy3⟩) (hHeld) ?rest3
                              case hy3 => intro w hSw; (try dsimp only at hSw); go_simp; try with_reducible rfl
                              (try simp only [Act.put, List.setIfInBounds_toArray, List.set_cons_zero, List.set_cons_succ, List.getElem_toArray, List.getElem_cons_zero, List.getElem_cons_succ])
                              refine wpAnyE_take [5, 7, 8, 15, 22, 25] (i := 4) (v := ?v4) rfl (by kernel_rfl) (by kernel_rfl) (by kernel_rfl) (by rfl) (by kernel_rfl) (by kernel_rfl) (fun _ _ _ h => h) (Or.inl ⟨by rfl, ?hy4⟩) (hHeld) ?rest4
                              case hy4 => intro w hSw; (try dsimp only at hSw); go_simp; try with_reducible rfl
                              (try simp only [Act.put, List.setIfInBounds_toArray, List.set_cons_zero, List.set_cons_succ, List.getElem_toArray, List.getElem_cons_zero, List.getElem_cons_succ])
                              refine wpAnyE_take [7, 8, 15, 22, 25] (i := 5) (v := ?v5) rfl (by kernel_rfl) (by kernel_rfl) (by kernel_rfl) (by rfl) (by kernel_rfl) (by kernel_rfl) (fun _ _ _ h => h) (Or.inl ⟨by rfl, ?hy5⟩) (hHeld) ?rest5
                              case hy5 => intro w hSw; (try dsimp only at hSw); go_simp; try with_reducible rfl
                              (try simp only [Act.put, List.setIfInBounds_toArray, List.set_cons_zero, List.set_cons_succ, List.getElem_toArray, List.getElem_cons_zero, List.getElem_cons_succ])
                              refine wpAnyE_take [7, 8, 15, 22, 25] (i := 6) (v := ?v6) rfl (by kernel_rfl) (by kernel_rfl) (by kernel_rfl) (by rfl) (by kernel_rfl) (by kernel_rfl) (fun _ _ _ h => h) (Or.inl ⟨by rfl, ?hy6⟩) (hHeld) ?rest6
                              case hy6 => intro w hSw; (try dsimp only at hSw); go_simp; try with_reducible rfl
                              (try simp only [Act.put, List.setIfInBounds_toArray, List.set_cons_zero, List.set_cons_succ, List.getElem_toArray, List.getElem_cons_zero, List.getElem_cons_succ])
                              refine wpAnyE_take [8, 15, 22, 25] (i := 7) (v := ?v7) rfl (by kernel_rfl) (by kernel_rfl) (by kernel_rfl) (by rfl) (by kernel_rfl) (by kernel_rfl) (fun _ _ _ h => h) (Or.inl ⟨by rfl, ?hy7⟩) (hHeld) ?rest7
                              case hy7 => intro w hSw; (try dsimp only at hSw); go_simp; try with_reducible rfl
                              (try simp only [Act.put, List.setIfInBounds_toArray, List.set_cons_zero, List.set_cons_succ, List.getElem_toArray, List.getElem_cons_zero, List.getElem_cons_succ])
                              refine wpAnyE_take [11, 12, 13, 14, 15, 22, 25] (i := 9) (v := ?v8) rfl (by kernel_rfl) (by kernel_rfl) (by kernel_rfl) (by rfl) (by kernel_rfl) (by kernel_rfl) (fun _ _ _ h => h) (Or.inl ⟨by rfl, ?hy8⟩) (hHeld) ?rest8
                              case hy8 => intro w hSw; (try dsimp only at hSw); go_simp; try with_reducible rfl
                              (try simp only [Act.put, List.setIfInBounds_toArray, List.set_cons_zero, List.set_cons_succ, List.getElem_toArray, List.getElem_cons_zero, List.getElem_cons_succ])
                              refine wpAnyE_take [11, 12, 13, 14, 15, 22, 25] (i := 10) (v := ?v9) rfl (by kernel_rfl) (by kernel_rfl) (by kernel_rfl) (by rfl) (by kernel_rfl) (by kernel_rfl) (fun _ _ _ h => h) (Or.inl ⟨by rfl, ?hy9⟩) (hHeld) ?rest9
                              case hy9 => intro w hSw; (try dsimp only at hSw); go_simp; try with_reducible rfl
                              (try simp only [Act.put, List.setIfInBounds_toArray, List.set_cons_zero, List.set_cons_succ, List.getElem_toArray, List.getElem_cons_zero, List.getElem_cons_succ])
                              refine wpAnyE_take [12, 13, 14, 15, 22, 25] (i := 11) (v := ?v10) rfl (by kernel_rfl) (by kernel_rfl) (by kernel_rfl) (by rfl) (by kernel_rfl) (by kernel_rfl) (fun _ _ _ h => h) (Or.inl ⟨by rfl, ?hy10⟩) (hHeld) ?rest10
                              case hy10 => intro w hSw; (try dsimp only at hSw); go_simp; try with_reducible rfl
                              (try simp only [Act.put, List.setIfInBounds_toArray, List.set_cons_zero, List.set_cons_succ, List.getElem_toArray, List.getElem_cons_zero, List.getElem_cons_succ])
                              refine wpAnyE_take [13, 14, 15, 22, 25] (i := 12) (v := ?v11) rfl (by kernel_rfl) (by kernel_rfl) (by kernel_rfl) (by rfl) (by kernel_rfl) (by kernel_rfl) (fun _ _ _ h => h) (Or.inl ⟨by rfl, ?hy11⟩) (hHeld) ?rest11
                              case hy11 => intro w hSw; (try dsimp only at hSw); go_simp; try with_reducible rfl
                              (try simp only [Act.put, List.setIfInBounds_toArray, List.set_cons_zero, List.set_cons_succ, List.getElem_toArray, List.getElem_cons_zero, List.getElem_cons_succ])
                              refine wpAnyE_take [14, 15, 22, 25] (i := 13) (v := ?v12) rfl (by kernel_rfl) (by kernel_rfl) (by kernel_rfl) (by rfl) (by kernel_rfl) (by kernel_rfl) (fun _ _ _ h => h) (Or.inl ⟨by rfl, ?hy12⟩) (hHeld) ?rest12
                              case hy12 => intro w hSw; (try dsimp only at hSw); go_simp; try with_reducible rfl
                              (try simp only [Act.put, List.setIfInBounds_toArray, List.set_cons_zero, List.set_cons_succ, List.getElem_toArray, List.getElem_cons_zero, List.getElem_cons_succ])
                              refine wpAnyE_take [17, 18, 19, 21, 22, 25] (i := 16) (v := ?v13) rfl (by kernel_rfl) (by kernel_rfl) (by kernel_rfl) (by rfl) (by kernel_rfl) (by kernel_rfl) (fun _ _ _ h => h) (Or.inl ⟨by rfl, ?hy13⟩) (hHeld) ?rest13
                              case hy13 => intro w hSw; (try dsimp only at hSw); go_simp; try with_reducible rfl
                              (try simp only [Act.put, List.setIfInBounds_toArray, List.set_cons_zero, List.set_cons_succ, List.getElem_toArray, List.getElem_cons_zero, List.getElem_cons_succ])
                              refine wpAnyE_take [18, 19, 21, 22, 25] (i := 17) (v := ?v14) rfl (by kernel_rfl) (by kernel_rfl) (by kernel_rfl) (by rfl) (by kernel_rfl) (by kernel_rfl) (fun _ _ _ h => h) (Or.inl ⟨by rfl, ?hy14⟩) (hHeld) ?rest14
                              case hy14 => intro w hSw; (try dsimp only at hSw); go_simp; try with_reducible rfl
                              (try simp only [Act.put, List.setIfInBounds_toArray, List.set_cons_zero, List.set_cons_succ, List.getElem_toArray, List.getElem_cons_zero, List.getElem_cons_succ])
                              refine wpAnyE_take [19, 21, 22, 25] (i := 18) (v := ?v15) rfl (by kernel_rfl) (by kernel_rfl) (by kernel_rfl) (by rfl) (by kernel_rfl) (by kernel_rfl) (fun _ _ _ h => h) (Or.inl ⟨by rfl, ?hy15⟩) (hHeld) ?rest15
                              case hy15 => intro w hSw; (try dsimp only at hSw); go_simp; try with_reducible rfl
                              (try simp only [Act.put, List.setIfInBounds_toArray, List.set_cons_zero, List.set_cons_succ, List.getElem_toArray, List.getElem_cons_zero, List.getElem_cons_succ])
                              refine wpAnyE_take [21, 22, 25] (i := 19) (v := ?v16) rfl (by kernel_rfl) (by kernel_rfl) (by kernel_rfl) (by rfl) (by kernel_rfl) (by kernel_rfl) (fun _ _ _ h => h) (Or.inl ⟨by rfl, ?hy16⟩) (hHeld) ?rest16
                              case hy16 => intro w hSw; (try dsimp only at hSw); go_simp; try with_reducible rfl
                              (try simp only [Act.put, List.setIfInBounds_toArray, List.set_cons_zero, List.set_cons_succ, List.getElem_toArray, List.getElem_cons_zero, List.getElem_cons_succ])
                              refine wpAnyE_take [21, 22, 25] (i := 20) (v := ?v17) rfl (by kernel_rfl) (by kernel_rfl) (by kernel_rfl) (by rfl) (by kernel_rfl) (by kernel_rfl) (fun _ _ _ h => h) (Or.inl ⟨by rfl, ?hy17⟩) (hHeld) ?rest17
                              case hy17 => intro w hSw; (try dsimp only at hSw); go_simp; try with_reducible rfl
                              (try simp only [Act.put, List.setIfInBounds_toArray, List.set_cons_zero, List.set_cons_succ, List.getElem_toArray, List.getElem_cons_zero, List.getElem_cons_succ])
                              refine wpAnyE_take [22, 25] (i := 21) (v := ?v18) rfl (by kernel_rfl) (by kernel_rfl) (by kernel_rfl) (by rfl) (by kernel_rfl) (by kernel_rfl) (fun _ _ _ h => h) (Or.inl ⟨by rfl, ?hy18⟩) (hHeld) ?rest18
                              case hy18 => intro w hSw; (try dsimp only at hSw); go_simp; try with_reducible rfl
                              (try simp only [Act.put, List.setIfInBounds_toArray, List.set_cons_zero, List.set_cons_succ, List.getElem_toArray, List.getElem_cons_zero, List.getElem_cons_succ])
                              refine wpAnyE_ready (rs := [1, 14]) (by kernel_rfl) (by simp) ?_
                              refine AllReadyE.cons rfl (fun K hK => ?_) (AllReadyE.cons rfl (fun K hK => ?_) AllReadyE.nil)
                              · go_simp
                                refine hK.out _ _ (fun _ => hkeep.out _ (((Below.refl _ w5).alloc (Nat.le_refl _) _).drew)) ?_
                                clear hK K
                                (try simp only [Act.put, List.setIfInBounds_toArray, List.set_cons_zero, List.set_cons_succ, List.getElem_toArray, List.getElem_cons_zero, List.getElem_cons_succ])
                                refine wpAnyE_ready (rs := [8, 14]) (by kernel_rfl) (by simp) ?_
                                refine AllReadyE.cons rfl (fun K hK => ?_) (AllReadyE.cons rfl (fun K hK => ?_) AllReadyE.nil)
                                · refine step_append_rd _ rfl (.tmp 136) (.tmp 142) 62 rfl w5.heap.size 70 ip _ 4 48 Tryz.underlying62 hip hp0 hp1 hp2 rfl (by omega) (.slice (some ⟨w5.heap.size, 0, none⟩) 0 0) 0 [] rfl ?_ (fun b => S' b ∧ b ≠ r) none 0 0 (kvCells (M.take 0)) rfl ?_ ?_ ?_ ?_ ?_ 0 rfl (kvCells (M.take 0)) rfl ?_
                                  · exact (own_empty w5 _ 4).drew
                                  · exact hpre.out.below_all (((Below.refl _ w5).alloc (Nat.le_refl _) (.cells #[] 70)).drew)
                                  · exact kvCells_one _
                                  · simp only [maxLen]; omega
                                  · omega
                                  · exact below_sz (((Below.refl _ w5).alloc (Nat.le_refl _) (.cells #[] 70)).drew)
                                  intro A2 c2 w2 hown2 hg2 hat2
                                  have hbA : Hid (Below w5.heap.size w5 w2) := hid (below_gr (((Below.refl _ w5).alloc (Nat.le_refl _) (.cells #[] 70)).drew) hg2 (fun k hk => by simp [Value.ownBlock] at hk; omega))
                                  clear hg2 hat2
                                  refine hK.out _ _ (fun _ => hkeep.out _ hbA.out) ?_
                                  clear hK K
                                  (try simp only [Act.put, List.setIfInBounds_toArray, List.set_cons_zero, List.set_cons_succ, List.getElem_toArray, List.getElem_cons_zero, List.getElem_cons_succ])
                                  refine wpAnyE_ready (rs := [14]) (by kernel_rfl) (by simp) ?_
                                  refine AllReadyE.cons rfl (fun K hK => ?_) AllReadyE.nil
                                  go_simp
                                  refine hK.out _ _ (fun _ => hkeep.out _ (below_al hbA.out _)) ?_
                                  clear hK K
                                  (try simp only [Act.put, List.setIfInBounds_toArray, List.set_cons_zero, List.set_cons_succ, List.getElem_toArray, List.getElem_cons_zero, List.getElem_cons_succ])
                                  refine wpAnyE_ready (rs := [15]) (by kernel_rfl) (by simp) ?_
                                  refine AllReadyE.cons rfl (fun K hK => ?_) AllReadyE.nil
                                  refine step_append_rd _ rfl (.tmp 143) (.tmp 149) 62 rfl w5.heap.size 70 ip _ 4 48 Tryz.underlying62 hip hp0 hp1 hp2 rfl (by omega) (.slice A2 0 c2) 0 (kvCells (M.take 0)) rfl ?_ (fun b => b = w2.heap.size) (some ⟨w2.heap.size, 0, none⟩) 1 1 (encI (x, vl0)) rfl ?_ ?_ ?_ ?_ ?_ (0 + 1) rfl (kvCells (M.take 0) ++ encI (x, vl0)) rfl ?_
                                  · exact hown2.alloc _
                                  · exact Rd.new w2 70 4 1 (encI (x, vl0)).toArray w2.heap.size rfl rfl
                                  · exact encI_one _
                                  · simp only [maxLen]; omega
                                  · omega
                                  · exact below_sz (below_al hbA.out _)
                                  intro A3 c3 w3 hown3 hg3 hat3
                                  have hbB : Hid (Below w5.heap.size w5 w3) := hid (below_gr (below_al hbA.out _) hg3 (fun k hk => (hown2.lt k hk).1))
                                  clear hg3 hat3
                                  refine hK.out _ _ (fun _ => hkeep.out _ hbB.out) ?_
                                  clear hK K
                                  (try simp only [Act.put, List.setIfInBounds_toArray, List.set_cons_zero, List.set_cons_succ, List.getElem_toArray, List.getElem_cons_zero, List.getElem_cons_succ])
                                  refine wpAnyE_ready (rs := [22]) (by kernel_rfl) (by simp) ?_
                                  refine AllReadyE.cons rfl (fun K hK => ?_) AllReadyE.nil
                                  refine step_append_rd w3 rfl (.tmp 150) (.tmp 156) 62 rfl w5.heap.size 70 ip _ 4 48 Tryz.underlying62 hip hp0 hp1 hp2 rfl (by omega) (.slice A3 (0 + 1) c3) (0 + 1) (kvCells (M.take 0) ++ encI (x, vl0)) rfl ?_ (fun b => S' b ∧ b ≠ r) none 0 0 (kvCells (M.drop 0)) rfl ?_ ?_ ?_ ?_ ?_ (0 + 1) (by omega) (kvCells (M.take 0) ++ encI (x, vl0) ++ kvCells (M.drop 0)) rfl ?_
                                  · exact hown3
                                  · exact hsuf.out.below_all hbB.out
                                  · exact kvCells_one _
                                  · simp only [maxLen]; omega
                                  · omega
                                  · exact below_sz hbB.out
                                  intro A4 c4 w4 hown4 hg4 hat4
                                  have hbC : Hid (Below w5.heap.size w5 w4) := hid (below_gr hbB.out hg4 (fun k hk => (hown3.lt k hk).1))
                                  have r4 : w4.cell? ⟨r, 2, none⟩ = some (.slice none 0 0) := (hkeep.out _ hbC.out).1
                                  have q4 := fq4.out _ hbC.out
                                  clear hg4 hat4
                                  refine hK.out _ _ (fun _ => hkeep.out _ hbC.out) ?_
                                  clear hK K
                                  (try simp only [Act.put, List.setIfInBounds_toArray, List.set_cons_zero, List.set_cons_succ, List.getElem_toArray, List.getElem_cons_zero, List.getElem_cons_succ])
                                  refine wpAnyE_take [24, 25] (i := 23) (v := ?v19) rfl (by kernel_rfl) (by kernel_rfl) (by kernel_rfl) (by rfl) (by kernel_rfl) (by kernel_rfl) (fun _ _ _ h => h) (Or.inl ⟨by rfl, ?hy19⟩) (hkeep.out _ hbC.out) ?rest19
                                  case hy19 => intro w hSw; (try dsimp only at hSw); go_simp; try with_reducible rfl
                                  (try simp only [Act.put, List.setIfInBounds_toArray, List.set_cons_zero, List.set_cons_succ, List.getElem_toArray, List.getElem_cons_zero, List.getElem_cons_succ])
                                  refine wpAnyE_take [25] (i := 24) (v := ?v20) rfl (by kernel_rfl) (by kernel_rfl) (by kernel_rfl) (by rfl) (by kernel_rfl) (by kernel_rfl) (fun _ _ _ h => h) (Or.inl ⟨by rfl, ?hy20⟩) (hkeep.out _ hbC.out) ?rest20
                                  case hy20 => intro w hSw; (try dsimp only at hSw); go_simp; try with_reducible rfl
                                  (try simp only [Act.put, List.setIfInBounds_toArray, List.set_cons_zero, List.set_cons_succ, List.getElem_toArray, List.getElem_cons_zero, List.getElem_cons_succ])
                                  refine wpAnyE_ready (rs := [25]) (by kernel_rfl) (by simp) ?_
                                  refine AllReadyE.cons rfl (fun K hK => ?_) AllReadyE.nil
                                  go_simp
                                  refine hK.out _ _ (fun h => absurd rfl h) ?_
                                  clear hK K
                                  (try simp only [Act.put, List.setIfInBounds_toArray, List.set_cons_zero, List.set_cons_succ, List.getElem_toArray, List.getElem_cons_zero, List.getElem_cons_succ])
                                  refine wpAnyE_done (by kernel_rfl) ?_ _
                                  go_wp2_with fail
                                  go_roundw
                                  case rel => exact ⟨k + 1, _, by go_num, hlt, (hfin.out _ _ _ hbC.out hown4).1, (hfin.out _ _ _ hbC.out hown4).2.1, (hfin.out _ _ _ hbC.out hown4).2.2.1, (hfin.out _ _ _ hbC.out hown4).2.2.2⟩
                                  case measure => simp [intOf]; omega
                                · go_simp
                                  refine hK.out _ _ (fun _ => hkeep.out _ ((((Below.refl _ w5).alloc (Nat.le_refl _) _).drew).alloc (by simp) _)) ?_
                                  clear hK K
                                  (try simp only [Act.put, List.setIfInBounds_toArray, List.set_cons_zero, List.set_cons_succ, List.getElem_toArray, List.getElem_cons_zero, List.getElem_cons_succ])
                                  refine wpAnyE_ready (rs := [8]) (by kernel_rfl) (by simp) ?_
                                  refine AllReadyE.cons rfl (fun K hK => ?_) AllReadyE.nil
                                  refine step_append_rd _ rfl (.tmp 136) (.tmp 142) 62 rfl w5.heap.size 70 ip _ 4 48 Tryz.underlying62 hip hp0 hp1 hp2 rfl (by omega) (.slice (some ⟨w5.heap.size, 0, none⟩) 0 0) 0 [] rfl ?_ (fun b => S' b ∧ b ≠ r) none 0 0 (kvCells (M.take 0)) rfl ?_ ?_ ?_ ?_ ?_ 0 rfl (kvCells (M.take 0)) rfl ?_
                                  · exact (own_empty w5 _ 4).drew.alloc _
                                  · exact hpre.out.below_all ((((Below.refl _ w5).alloc (Nat.le_refl _) (.cells #[] 70)).drew).alloc (by simp) (.cells #[.string x, .int .i64 0, .int .i64 0, .string ⟨#[]⟩] 70))
                                  · exact kvCells_one _
                                  · simp only [maxLen]; omega
                                  · omega
                                  · exact below_sz ((((Below.refl _ w5).alloc (Nat.le_refl _) (.cells #[] 70)).drew).alloc (by simp) (.cells #[.string x, .int .i64 0, .int .i64 0, .string ⟨#[]⟩] 70))
                                  intro A2 c2 w2 hown2 hg2 hat2
                                  have hbA : Hid (Below w5.heap.size w5 w2) := hid (below_gr ((((Below.refl _ w5).alloc (Nat.le_refl _) (.cells #[] 70)).drew).alloc (by simp) (.cells #[.string x, .int .i64 0, .int .i64 0, .string ⟨#[]⟩] 70)) hg2 (fun k hk => by simp [Value.ownBlock] at hk; omega))
                                  have hI : Hid (Rd (fun b => b = w5.heap.size + 1) w2 4 (some ⟨w5.heap.size + 1, 0, none⟩) 1 (encI (x, vl0))) := hid ((Rd.new (w5.alloc (.cells #[] 70)).drew 70 4 1 (encI (x, vl0)).toArray (w5.heap.size + 1) (by simp) rfl).grown_ hg2 (fun b hb => by simp [Value.ownBlock, hb]))
                                  clear hg2 hat2
                                  refine hK.out _ _ (fun _ => hkeep.out _ hbA.out) ?_
                                  clear hK K
                                  (try simp only [Act.put, List.setIfInBounds_toArray, List.set_cons_zero, List.set_cons_succ, List.getElem_toArray, List.getElem_cons_zero, List.getElem_cons_succ])
                                  refine wpAnyE_ready (rs := [15]) (by kernel_rfl) (by simp) ?_
                                  refine AllReadyE.cons rfl (fun K hK => ?_) AllReadyE.nil
                                  refine step_append_rd _ rfl (.tmp 143) (.tmp 149) 62 rfl w5.heap.size 70 ip _ 4 48 Tryz.underlying62 hip hp0 hp1 hp2 rfl (by omega) (.slice A2 0 c2) 0 (kvCells (M.take 0)) rfl ?_ (fun b => b = w5.heap.size + 1) (some ⟨w5.heap.size + 1, 0, none⟩) 1 1 (encI (x, vl0)) rfl ?_ ?_ ?_ ?_ ?_ (0 + 1) rfl (kvCells (M.take 0) ++ encI (x, vl0)) rfl ?_
                                  · exact hown2
                                  · exact hI.out
                                  · exact encI_one _
                                  · simp only [maxLen]; omega
                                  · omega
                                  · exact below_sz hbA.out
                                  intro A3 c3 w3 hown3 hg3 hat3
                                  have hbB : Hid (Below w5.heap.size w5 w3) := hid (below_gr hbA.out hg3 (fun k hk => (hown2.lt k hk).1))
                                  clear hg3 hat3
                                  refine hK.out _ _ (fun _ => hkeep.out _ hbB.out) ?_
                                  clear hK K
                                  (try simp only [Act.put, List.setIfInBounds_toArray, List.set_cons_zero, List.set_cons_succ, List.getElem_toArray, List.getElem_cons_zero, List.getElem_cons_succ])
                                  refine wpAnyE_ready (rs := [22]) (by kernel_rfl) (by simp) ?_
                                  refine AllReadyE.cons rfl (fun K hK => ?_) AllReadyE.nil
                                  refine step_append_rd w3 rfl (.tmp 150) (.tmp 156) 62 rfl w5.heap.size 70 ip _ 4 48 Tryz.underlying62 hip hp0 hp1 hp2 rfl (by omega) (.slice A3 (0 + 1) c3) (0 + 1) (kvCells (M.take 0) ++ encI (x, vl0)) rfl ?_ (fun b => S' b ∧ b ≠ r) none 0 0 (kvCells (M.drop 0)) rfl ?_ ?_ ?_ ?_ ?_ (0 + 1) (by omega) (kvCells (M.take 0) ++ encI (x, vl0) ++ kvCells (M.drop 0)) rfl ?_
                                  · exact hown3
                                  · exact hsuf.out.below_all hbB.out
                                  · exact kvCells_one _
                                  · simp only [maxLen]; omega
                                  · omega
                                  · exact below_sz hbB.out
                                  intro A4 c4 w4 hown4 hg4 hat4
                                  have hbC : Hid (Below w5.heap.size w5 w4) := hid (below_gr hbB.out hg4 (fun k hk => (hown3.lt k hk).1))
                                  have r4 : w4.cell? ⟨r, 2, none⟩ = some (.slice none 0 0) := (hkeep.out _ hbC.out).1
                                  have q4 := fq4.out _ hbC.out
                                  clear hg4 hat4
                                  refine hK.out _ _ (fun _ => hkeep.out _ hbC.out) ?_
                                  clear hK K
                                  (try simp only [Act.put, List.setIfInBounds_toArray, List.set_cons_zero, List.set_cons_succ, List.getElem_toArray, List.getElem_cons_zero, List.getElem_cons_succ])
                                  refine wpAnyE_take [24, 25] (i := 23) (v := ?v21) rfl (by kernel_rfl) (by kernel_rfl) (by kernel_rfl) (by rfl) (by kernel_rfl) (by kernel_rfl) (fun _ _ _ h => h) (Or.inl ⟨by rfl, ?hy21⟩) (hkeep.out _ hbC.out) ?rest21
                                  case hy21 => intro w hSw; (try dsimp only at hSw); go_simp; try with_reducible rfl
                                  (try simp only [Act.put, List.setIfInBounds_toArray, List.set_cons_zero, List.set_cons_succ, List.getElem_toArray, List.getElem_cons_zero, List.getElem_cons_succ])
                                  refine wpAnyE_take [25] (i := 24) (v := ?v22) rfl (by kernel_rfl) (by kernel_rfl) (by kernel_rfl) (by rfl) (by kernel_rfl) (by kernel_rfl) (fun _ _ _ h => h) (Or.inl ⟨by rfl, ?hy22⟩) (hkeep.out _ hbC.out) ?rest22
                                  case hy22 => intro w hSw; (try dsimp only at hSw); go_simp; try with_reducible rfl
                                  (try simp only [Act.put, List.setIfInBounds_toArray, List.set_cons_zero, List.set_cons_succ, List.getElem_toArray, List.getElem_cons_zero, List.getElem_cons_succ])
                                  refine wpAnyE_ready (rs := [25]) (by kernel_rfl) (by simp) ?_
                                  refine AllReadyE.cons rfl (fun K hK => ?_) AllReadyE.nil
                                  go_simp
                                  refine hK.out _ _ (fun h => absurd rfl h) ?_
                                  clear hK K
                                  (try simp only [Act.put, List.setIfInBounds_toArray, List.set_cons_zero, List.set_cons_succ, List.getElem_toArray, List.getElem_cons_zero, List.getElem_cons_succ])
                                  refine wpAnyE_done (by kernel_rfl) ?_ _
                                  go_wp2_with fail
                                  go_roundw
                                  case rel => exact ⟨k + 1, _, by go_num, hlt, (hfin.out _ _ _ hbC.out hown4).1, (hfin.out _ _ _ hbC.out hown4).2.1, (hfin.out _ _ _ hbC.out hown4).2.2.1, (hfin.out _ _ _ hbC.out hown4).2.2.2⟩
                                  case measure => simp [intOf]; omega
                              · go_simp
                                refine hK.out _ _ (fun _ => hkeep.out _ (((Below.refl _ w5).alloc (Nat.le_refl _) _).drew)) ?_
                                clear hK K
                                (try simp only [Act.put, List.setIfInBounds_toArray, List.set_cons_zero, List.set_cons_succ, List.getElem_toArray, List.getElem_cons_zero, List.getElem_cons_succ])
                                refine wpAnyE_ready (rs := [1]) (by kernel_rfl) (by simp) ?_
                                refine AllReadyE.cons rfl (fun K hK => ?_) AllReadyE.nil
                                go_simp
                                refine hK.out _ _ (fun _ => hkeep.out _ ((((Below.refl _ w5).alloc (Nat.le_refl _) _).drew).alloc (by simp) _)) ?_
                                clear hK K
                                (try simp only [Act.put, List.setIfInBounds_toArray, List.set_cons_zero, List.set_cons_succ, List.getElem_toArray, List.getElem_cons_zero, List.getElem_cons_succ])
                                refine wpAnyE_ready (rs := [8]) (by kernel_rfl) (by simp) ?_
                                refine AllReadyE.cons rfl (fun K hK => ?_) AllReadyE.nil
                                refine step_append_rd _ rfl (.tmp 136) (.tmp 142) 62 rfl w5.heap.size 70 ip _ 4 48 Tryz.underlying62 hip hp0 hp1 hp2 rfl (by omega) (.slice (some ⟨w5.heap.size + 1, 0, none⟩) 0 0) 0 [] rfl ?_ (fun b => S' b ∧ b ≠ r) none 0 0 (kvCells (M.take 0)) rfl ?_ ?_ ?_ ?_ ?_ 0 rfl (kvCells (M.take 0)) rfl ?_
                                · exact own_base (by simp) (own_empty' (w5.alloc (.cells #[.string x, .int .i64 0, .int .i64 0, .string ⟨#[]⟩] 70)).drew _ 4 (w5.heap.size + 1) (by simp))
                                · exact hpre.out.below_all ((((Below.refl _ w5).alloc (Nat.le_refl _) (.cells #[.string x, .int .i64 0, .int .i64 0, .string ⟨#[]⟩] 70)).drew).alloc (by simp) (.cells #[] 70))
                                · exact kvCells_one _
                                · simp only [maxLen]; omega
                                · omega
                                · exact below_sz ((((Below.refl _ w5).alloc (Nat.le_refl _) (.cells #[.string x, .int .i64 0, .int .i64 0, .string ⟨#[]⟩] 70)).drew).alloc (by simp) (.cells #[] 70))
                                intro A2 c2 w2 hown2 hg2 hat2
                                have hbA : Hid (Below w5.heap.size w5 w2) := hid (below_gr ((((Below.refl _ w5).alloc (Nat.le_refl _) (.cells #[.string x, .int .i64 0, .int .i64 0, .string ⟨#[]⟩] 70)).drew).alloc (by simp) (.cells #[] 70)) hg2 (fun k hk => by simp [Value.ownBlock] at hk; omega))
                                have hI : Hid (Rd (fun b => b = w5.heap.size) w2 4 (some ⟨w5.heap.size, 0, none⟩) 1 (encI (x, vl0))) := hid (((Rd.new w5 70 4 1 (encI (x, vl0)).toArray w5.heap.size rfl rfl).drew.alloc (.cells #[] 70)).grown_ hg2 (fun b hb => by simp [Value.ownBlock, hb]))
                                clear hg2 hat2
                                refine hK.out _ _ (fun _ => hkeep.out _ hbA.out) ?_
                                clear hK K
                                (try simp only [Act.put, List.setIfInBounds_toArray, List.set_cons_zero, List.set_cons_succ, List.getElem_toArray, List.getElem_cons_zero, List.getElem_cons_succ])
                                refine wpAnyE_ready (rs := [15]) (by kernel_rfl) (by simp) ?_
                                refine AllReadyE.cons rfl (fun K hK => ?_) AllReadyE.nil
                                refine step_append_rd _ rfl (.tmp 143) (.tmp 149) 62 rfl w5.heap.size 70 ip _ 4 48 Tryz.underlying62 hip hp0 hp1 hp2 rfl (by omega) (.slice A2 0 c2) 0 (kvCells (M.take 0)) rfl ?_ (fun b => b = w5.heap.size) (some ⟨w5.heap.size, 0, none⟩) 1 1 (encI (x, vl0)) rfl ?_ ?_ ?_ ?_ ?_ (0 + 1) rfl (kvCells (M.take 0) ++ encI (x, vl0)) rfl ?_
                                · exact hown2
                                · exact hI.out
                                · exact encI_one _
                                · simp only [maxLen]; omega
                                · omega
                                · exact below_sz hbA.out
                                intro A3 c3 w3 hown3 hg3 hat3
                                have hbB : Hid (Below w5.heap.size w5 w3) := hid (below_gr hbA.out hg3 (fun k hk => (hown2.lt k hk).1))
                                clear hg3 hat3
                                refine hK.out _ _ (fun _ => hkeep.out _ hbB.out) ?_
                                clear hK K
                                (try simp only [Act.put, List.setIfInBounds_toArray, List.set_cons_zero, List.set_cons_succ, List.getElem_toArray, List.getElem_cons_zero, List.getElem_cons_succ])
                                refine wpAnyE_ready (rs := [22]) (by kernel_rfl) (by simp) ?_
                                refine AllReadyE.cons rfl (fun K hK => ?_) AllReadyE.nil
                                refine step_append_rd w3 rfl (.tmp 150) (.tmp 156) 62 rfl w5.heap.size 70 ip _ 4 48 Tryz.underlying62 hip hp0 hp1 hp2 rfl (by omega) (.slice A3 (0 + 1) c3) (0 + 1) (kvCells (M.take 0) ++ encI (x, vl0)) rfl ?_ (fun b => S' b ∧ b ≠ r) none 0 0 (kvCells (M.drop 0)) rfl ?_ ?_ ?_ ?_ ?_ (0 + 1) (by omega) (kvCells (M.take 0) ++ encI (x, vl0) ++ kvCells (M.drop 0)) rfl ?_
                                · exact hown3
                                · exact hsuf.out.below_all hbB.out
                                · exact kvCells_one _
                                · simp only [maxLen]; omega
                                · omega
                                · exact below_sz hbB.out
                                intro A4 c4 w4 hown4 hg4 hat4
                                have hbC : Hid (Below w5.heap.size w5 w4) := hid (below_gr hbB.out hg4 (fun k hk => (hown3.lt k hk).1))
                                have r4 : w4.cell? ⟨r, 2, none⟩ = some (.slice none 0 0) := (hkeep.out _ hbC.out).1
                                have q4 := fq4.out _ hbC.out
                                clear hg4 hat4
                                refine hK.out _ _ (fun _ => hkeep.out _ hbC.out) ?_
                                clear hK K
                                (try simp only [Act.put, List.setIfInBounds_toArray, List.set_cons_zero, List.set_cons_succ, List.getElem_toArray, List.getElem_cons_zero, List.getElem_cons_succ])
                                refine wpAnyE_take [24, 25] (i := 23) (v := ?v23) rfl (by kernel_rfl) (by kernel_rfl) (by kernel_rfl) (by rfl) (by kernel_rfl) (by kernel_rfl) (fun _ _ _ h => h) (Or.inl ⟨by rfl, ?hy23⟩) (hkeep.out _ hbC.out) ?rest23
                                case hy23 => intro w hSw; (try dsimp only at hSw); go_simp; try with_reducible rfl
                                (try simp only [Act.put, List.setIfInBounds_toArray, List.set_cons_zero, List.set_cons_succ, List.getElem_toArray, List.getElem_cons_zero, List.getElem_cons_succ])
                                refine wpAnyE_take [25] (i := 24) (v := ?v24) rfl (by kernel_rfl) (by kernel_rfl) (by kernel_rfl) (by rfl) (by kernel_rfl) (by kernel_rfl) (fun _ _ _ h => h) (Or.inl ⟨by rfl, ?hy24⟩) (hkeep.out _ hbC.out) ?rest24
                                case hy24 => intro w hSw; (try dsimp only at hSw); go_simp; try with_reducible rfl
                                (try simp only [Act.put, List.setIfInBounds_toArray, List.set_cons_zero, List.set_cons_succ, List.getElem_toArray, List.getElem_cons_zero, List.getElem_cons_succ])
                                refine wpAnyE_ready (rs := [25]) (by kernel_rfl) (by simp) ?_
                                refine AllReadyE.cons rfl (fun K hK => ?_) AllReadyE.nil
                                go_simp
                                refine hK.out _ _ (fun h => absurd rfl h) ?_
                                clear hK K
                                (try simp only [Act.put, List.setIfInBounds_toArray, List.set_cons_zero, List.set_cons_succ, List.getElem_toArray, List.getElem_cons_zero, List.getElem_cons_succ])
                                refine wpAnyE_done (by kernel_rfl) ?_ _
                                go_wp2_with fail
                                go_roundw
                                case rel => exact ⟨k + 1, _, by go_num, hlt, (hfin.out _ _ _ hbC.out hown4).1, (hfin.out _ _ _ hbC.out hown4).2.1, (hfin.out _ _ _ hbC.out hown4).2.2.1, (hfin.out _ _ _ hbC.out hown4).2.2.2⟩
                                case measure => simp [intOf]; omega
                            · have hpre : Hid (Rd (fun b => S' b ∧ b ≠ r) w5 4 (some ⟨b5, o5, none⟩) p (kvCells (M.take p))) := hid (Rd.preK hrd.out hnn.out p hpl)
                              have hrn : (some ⟨b5, o5, none⟩ : Option Addr) = some ⟨b5, o5, none⟩ := rfl
                              have n2 : p ≤ n := hpl
                              have n1 : p ≤ d5 := by omega
                              have j1 : (p : Int) ≤ (d5 : Int) := by omega
                              have j2 : (p : Int) ≤ (n : Int) := by omega
                              have n9 : (d5 : Int) ≤ 9223372036854775807 := by simp only [maxLen] at hdm; omega
                              by_cases hcc : d5 = p
                              · obtain rfl := hcc
                                obtain rfl : n = d5 := by omega
                                have hsuf : Hid (Rd (fun b => S' b ∧ b ≠ r) w5 4 (some ⟨b5, o5, none⟩) 0 (kvCells (M.drop n))) := hid (by
                                  rw [List.drop_eq_nil_of_le (by rw [← hnn.out]; exact Nat.le_refl _)]; exact Rd.nil_)
                                have hkeep : Hid (∀ w', Below w5.heap.size w5 w' → w'.cell? ⟨r, 2, none⟩ = some (.slice (some ⟨b5, o5, none⟩) n n) ∧ w'.cell? ⟨b, o + k, none⟩ = some (.string x)) := hid fun w' h => ⟨(by have h2 := (HQ.out.below h).cells.2.2; rw [show ({ parts := s.parts, room := s.room, L := M } : St).L.length = n from hnn.out.symm] at h2; exact h2), hc5a.out _ h⟩
                                have fq4 : Hid (∀ w', Below w5.heap.size w5 w' → w'.frozen? ⟨r, 2, none⟩ = false) := hid fun w' h => (HQ.out.below h).blk.frozen 2
                                have d2 := (hkeep.out _ (Below.refl _ _)).1
                                have hHeld := hkeep.out w5.drew (Below.refl _ _).drew
                                refine wp_region_heldE (S := fun w' => w'.cell? ⟨r, 2, none⟩ = some (.slice (some ⟨b5, o5, none⟩) n n) ∧ w'.cell? ⟨b, o + k, none⟩ = some (.string x)) 25 (by kernel_rfl) ?_
                                refine wpAnyE_take [23, 24, 25] (i := 0) (v := ?v25) rfl (by kernel_rfl) (by kernel_rfl) (by kernel_rfl) (by rfl) (by kernel_rfl) (by kernel_rfl) (fun _ _ _ h => h) (Or.inl ⟨by rfl, ?hy25⟩) (hHeld) ?rest25
                                case hy25 => intro w hSw; (try dsimp only at hSw); go_simp; try with_reducible rfl
                                (try simp only [Act.put, List.setIfInBounds_toArray, List.set_cons_zero, List.set_cons_succ, List.getElem_toArray, List.getElem_cons_zero, List.getElem_cons_succ])
                                refine wpAnyE_take [3, 4, 5, 7, 8, 15, 22, 25] (i := 2) (v := ?v26) rfl (by kernel_rfl) (by kernel_rfl) (by kernel_rfl) (by rfl) (by kernel_rfl) (by kernel_rfl) (fun _ _ _ h => h) (Or.inl ⟨by rfl, ?hy26⟩) (hHeld) ?rest26
                                case hy26 => intro w hSw; (try dsimp only at hSw); go_simp; try with_reducible rfl
                                (try simp only [Act.put, List.setIfInBounds_toArray, List.set_cons_zero, List.set_cons_succ, List.getElem_toArray, List.getElem_cons_zero, List.getElem_cons_succ])
                                refine wpAnyE_take [4, 5, 7, 8, 15, 22, 25] (i := 3) (v := ?v27) rfl (by kernel_rfl) (by kernel_rfl) (by kernel_rfl) (by rfl) (by kernel_rfl) (by kernel_rfl) (fun _ _ _ h => h) (Or.inl ⟨by rfl, ?hy27⟩) (hHeld) ?rest27
                                case hy27 => intro w hSw; (try dsimp only at hSw); go_simp; try with_reducible rfl
                                (try simp only [Act.put, List.setIfInBounds_toArray, List.set_cons_zero, List.set_cons_succ, List.getElem_toArray, List.getElem_cons_zero, List.getElem_cons_succ])
                                refine wpAnyE_take [5, 7, 8, 15, 22, 25] (i := 4) (v := ?v28) rfl (by kernel_rfl) (by kernel_rfl) (by kernel_rfl) (by rfl) (by kernel_rfl) (by kernel_rfl) (fun _ _ _ h => h) (Or.inl ⟨by rfl, ?hy28⟩) (hHeld) ?rest28
                                case hy28 => intro w hSw; (try dsimp only at hSw); go_simp; try with_reducible rfl
                                (try simp only [Act.put, List.setIfInBounds_toArray, List.set_cons_zero, List.set_cons_succ, List.getElem_toArray, List.getElem_cons_zero, List.getElem_cons_succ])
                                refine wpAnyE_take [7, 8, 15, 22, 25] (i := 5) (v := ?v29) rfl (by kernel_rfl) (by kernel_rfl) (by kernel_rfl) (by rfl) (by kernel_rfl) (by kernel_rfl) (fun _ _ _ h => h) (Or.inl ⟨by rfl, ?hy29⟩) (hHeld) ?rest29
                                case hy29 => intro w hSw; (try dsimp only at hSw); go_simp; try with_reducible rfl
                                (try simp only [Act.put, List.setIfInBounds_toArray, List.set_cons_zero, List.set_cons_succ, List.getElem_toArray, List.getElem_cons_zero, List.getElem_cons_succ])
                                refine wpAnyE_take [7, 8, 15, 22, 25] (i := 6) (v := ?v30) rfl (by kernel_rfl) (by kernel_rfl) (by kernel_rfl) (by rfl) (by kernel_rfl) (by kernel_rfl) (fun _ _ _ h => h) (Or.inl ⟨by rfl, ?hy30⟩) (hHeld) ?rest30
                                case hy30 => intro w hSw; (try dsimp only at hSw); go_simp; try with_reducible rfl
                                (try simp only [Act.put, List.setIfInBounds_toArray, List.set_cons_zero, List.set_cons_succ, List.getElem_toArray, List.getElem_cons_zero, List.getElem_cons_succ])
                                refine wpAnyE_take [8, 15, 22, 25] (i := 7) (v := ?v31) rfl (by kernel_rfl) (by kernel_rfl) (by kernel_rfl) (by rfl) (by kernel_rfl) (by kernel_rfl) (fun _ _ _ h => h) (Or.inl ⟨by rfl, ?hy31⟩) (hHeld) ?rest31
                                case hy31 => intro w hSw; (try dsimp only at hSw); go_simp; try with_reducible rfl
                                (try simp only [Act.put, List.setIfInBounds_toArray, List.set_cons_zero, List.set_cons_succ, List.getElem_toArray, List.getElem_cons_zero, List.getElem_cons_succ])
                                refine wpAnyE_take [11, 12, 13, 14, 15, 22, 25] (i := 9) (v := ?v32) rfl (by kernel_rfl) (by kernel_rfl) (by kernel_rfl) (by rfl) (by kernel_rfl) (by kernel_rfl) (fun _ _ _ h => h) (Or.inl ⟨by rfl, ?hy32⟩) (hHeld) ?rest32
                                case hy32 => intro w hSw; (try dsimp only at hSw); go_simp; try with_reducible rfl
                                (try simp only [Act.put, List.setIfInBounds_toArray, List.set_cons_zero, List.set_cons_succ, List.getElem_toArray, List.getElem_cons_zero, List.getElem_cons_succ])
                                refine wpAnyE_take [11, 12, 13, 14, 15, 22, 25] (i := 10) (v := ?v33) rfl (by kernel_rfl) (by kernel_rfl) (by kernel_rfl) (by rfl) (by kernel_rfl) (by kernel_rfl) (fun _ _ _ h => h) (Or.inl ⟨by rfl, ?hy33⟩) (hHeld) ?rest33
                                case hy33 => intro w hSw; (try dsimp only at hSw); go_simp; try with_reducible rfl
                                (try simp only [Act.put, List.setIfInBounds_toArray, List.set_cons_zero, List.set_cons_succ, List.getElem_toArray, List.getElem_cons_zero, List.getElem_cons_succ])
                                refine wpAnyE_take [12, 13, 14, 15, 22, 25] (i := 11) (v := ?v34) rfl (by kernel_rfl) (by kernel_rfl) (by kernel_rfl) (by rfl) (by kernel_rfl) (by kernel_rfl) (fun _ _ _ h => h) (Or.inl ⟨by rfl, ?hy34⟩) (hHeld) ?rest34
                                case hy34 => intro w hSw; (try dsimp only at hSw); go_simp; try with_reducible rfl
                                (try simp only [Act.put, List.setIfInBounds_toArray, List.set_cons_zero, List.set_cons_succ, List.getElem_toArray, List.getElem_cons_zero, List.getElem_cons_succ])
                                refine wpAnyE_take [13, 14, 15, 22, 25] (i := 12) (v := ?v35) rfl (by kernel_rfl) (by kernel_rfl) (by kernel_rfl) (by rfl) (by kernel_rfl) (by kernel_rfl) (fun _ _ _ h => h) (Or.inl ⟨by rfl, ?hy35⟩) (hHeld) ?rest35
                                case hy35 => intro w hSw; (try dsimp only at hSw); go_simp; try with_reducible rfl
                                (try simp only [Act.put, List.setIfInBounds_toArray, List.set_cons_zero, List.set_cons_succ, List.getElem_toArray, List.getElem_cons_zero, List.getElem_cons_succ])
                                refine wpAnyE_take [14, 15, 22, 25] (i := 13) (v := ?v36) rfl (by kernel_rfl) (by kernel_rfl) (by kernel_rfl) (by rfl) (by kernel_rfl) (by kernel_rfl) (fun _ _ _ h => h) (Or.inl ⟨by rfl, ?hy36⟩) (hHeld) ?rest36
                                case hy36 => intro w hSw; (try dsimp only at hSw); go_simp; try with_reducible rfl
                                (try simp only [Act.put, List.setIfInBounds_toArray, List.set_cons_zero, List.set_cons_succ, List.getElem_toArray, List.getElem_cons_zero, List.getElem_cons_succ])
                                refine wpAnyE_take [17, 18, 19, 21, 22, 25] (i := 16) (v := ?v37) rfl (by kernel_rfl) (by kernel_rfl) (by kernel_rfl) (by rfl) (by kernel_rfl) (by kernel_rfl) (fun _ _ _ h => h) (Or.inl ⟨by rfl, ?hy37⟩) (hHeld) ?rest37
                                case hy37 => intro w hSw; (try dsimp only at hSw); go_simp; try with_reducible rfl
                                (try simp only [Act.put, List.setIfInBounds_toArray, List.set_cons_zero, List.set_cons_succ, List.getElem_toArray, List.getElem_cons_zero, List.getElem_cons_succ])
                                refine wpAnyE_take [18, 19, 21, 22, 25] (i := 17) (v := ?v38) rfl (by kernel_rfl) (by kernel_rfl) (by kernel_rfl) (by rfl) (by kernel_rfl) (by kernel_rfl) (fun _ _ _ h => h) (Or.inl ⟨by rfl, ?hy38⟩) (hHeld) ?rest38
                                case hy38 => intro w hSw; (try dsimp only at hSw); go_simp; try with_reducible rfl
                                (try simp only [Act.put, List.setIfInBounds_toArray, List.set_cons_zero, List.set_cons_succ, List.getElem_toArray, List.getElem_cons_zero, List.getElem_cons_succ])
                                refine wpAnyE_take [19, 21, 22, 25] (i := 18) (v := ?v39) rfl (by kernel_rfl) (by kernel_rfl) (by kernel_rfl) (by rfl) (by kernel_rfl) (by kernel_rfl) (fun _ _ _ h => h) (Or.inl ⟨by rfl, ?hy39⟩) (hHeld) ?rest39
                                case hy39 => intro w hSw; (try dsimp only at hSw); go_simp; try with_reducible rfl
                                (try simp only [Act.put, List.setIfInBounds_toArray, List.set_cons_zero, List.set_cons_succ, List.getElem_toArray, List.getElem_cons_zero, List.getElem_cons_succ])
                                refine wpAnyE_take [21, 22, 25] (i := 19) (v := ?v40) rfl (by kernel_rfl) (by kernel_rfl) (by kernel_rfl) (by rfl) (by kernel_rfl) (by kernel_rfl) (fun _ _ _ h => h) (Or.inl ⟨by rfl, ?hy40⟩) (hHeld) ?rest40
                                case hy40 => intro w hSw; (try dsimp only at hSw); go_simp; try with_reducible rfl
                                (try simp only [Act.put, List.setIfInBounds_toArray, List.set_cons_zero, List.set_cons_succ, List.getElem_toArray, List.getElem_cons_zero, List.getElem_cons_succ])
                                refine wpAnyE_take [21, 22, 25] (i := 20) (v := ?v41) rfl (by kernel_rfl) (by kernel_rfl) (by kernel_rfl) (by rfl) (by kernel_rfl) (by kernel_rfl) (fun _ _ _ h => h) (Or.inl ⟨by rfl, ?hy41⟩) (hHeld) ?rest41
                                case hy41 => intro w hSw; (try dsimp only at hSw); go_simp; try with_reducible rfl
                                (try simp only [Act.put, List.setIfInBounds_toArray, List.set_cons_zero, List.set_cons_succ, List.getElem_toArray, List.getElem_cons_zero, List.getElem_cons_succ])
                                refine wpAnyE_take [22, 25] (i := 21) (v := ?v42) rfl (by kernel_rfl) (by kernel_rfl) (by kernel_rfl) (by rfl) (by kernel_rfl) (by kernel_rfl) (fun _ _ _ h => h) (Or.inl ⟨by rfl, ?hy42⟩) (hHeld) ?rest42
                                case hy42 => intro w hSw; (try dsimp only at hSw); go_simp; try with_reducible rfl
                                (try simp only [Act.put, List.setIfInBounds_toArray, List.set_cons_zero, List.set_cons_succ, List.getElem_toArray, List.getElem_cons_zero, List.getElem_cons_succ])
                                refine wpAnyE_ready (rs := [1, 14]) (by kernel_rfl) (by simp) ?_
                                refine AllReadyE.cons rfl (fun K hK => ?_) (AllReadyE.cons rfl (fun K hK => ?_) AllReadyE.nil)
                                · go_simp
                                  refine hK.out _ _ (fun _ => hkeep.out _ (((Below.refl _ w5).alloc (Nat.le_refl _) _).drew)) ?_
                                  clear hK K
                                  (try simp only [Act.put, List.setIfInBounds_toArray, List.set_cons_zero, List.set_cons_succ, List.getElem_toArray, List.getElem_cons_zero, List.getElem_cons_succ])
                                  refine wpAnyE_ready (rs := [8, 14]) (by kernel_rfl) (by simp) ?_
                                  refine AllReadyE.cons rfl (fun K hK => ?_) (AllReadyE.cons rfl (fun K hK => ?_) AllReadyE.nil)
                                  · refine step_append_rd _ rfl (.tmp 136) (.tmp 142) 62 rfl w5.heap.size 70 ip _ 4 48 Tryz.underlying62 hip hp0 hp1 hp2 rfl (by omega) (.slice (some ⟨w5.heap.size, 0, none⟩) 0 0) 0 [] rfl ?_ (fun b => S' b ∧ b ≠ r) (some ⟨b5, o5, none⟩) n n (kvCells (M.take n)) rfl ?_ ?_ ?_ ?_ ?_ n (Nat.zero_add n) (kvCells (M.take n)) rfl ?_
                                    · exact (own_empty w5 _ 4).drew
                                    · exact hpre.out.below_all (((Below.refl _ w5).alloc (Nat.le_refl _) (.cells #[] 70)).drew)
                                    · exact kvCells_one _
                                    · simp only [maxLen]; omega
                                    · omega
                                    · exact below_sz (((Below.refl _ w5).alloc (Nat.le_refl _) (.cells #[] 70)).drew)
                                    intro A2 c2 w2 hown2 hg2 hat2
                                    have hbA : Hid (Below w5.heap.size w5 w2) := hid (below_gr (((Below.refl _ w5).alloc (Nat.le_refl _) (.cells #[] 70)).drew) hg2 (fun k hk => by simp [Value.ownBlock] at hk; omega))
                                    clear hg2 hat2
                                    refine hK.out _ _ (fun _ => hkeep.out _ hbA.out) ?_
                                    clear hK K
                                    (try simp only [Act.put, List.setIfInBounds_toArray, List.set_cons_zero, List.set_cons_succ, List.getElem_toArray, List.getElem_cons_zero, List.getElem_cons_succ])
                                    refine wpAnyE_ready (rs := [14]) (by kernel_rfl) (by simp) ?_
                                    refine AllReadyE.cons rfl (fun K hK => ?_) AllReadyE.nil
                                    go_simp
                                    refine hK.out _ _ (fun _ => hkeep.out _ (below_al hbA.out _)) ?_
                                    clear hK K
                                    (try simp only [Act.put, List.setIfInBounds_toArray, List.set_cons_zero, List.set_cons_succ, List.getElem_toArray, List.getElem_cons_zero, List.getElem_cons_succ])
                                    refine wpAnyE_ready (rs := [15]) (by kernel_rfl) (by simp) ?_
                                    refine AllReadyE.cons rfl (fun K hK => ?_) AllReadyE.nil
                                    refine step_append_rd _ rfl (.tmp 143) (.tmp 149) 62 rfl w5.heap.size 70 ip _ 4 48 Tryz.underlying62 hip hp0 hp1 hp2 rfl (by omega) (.slice A2 n c2) n (kvCells (M.take n)) rfl ?_ (fun b => b = w2.heap.size) (some ⟨w2.heap.size, 0, none⟩) 1 1 (encI (x, vl0)) rfl ?_ ?_ ?_ ?_ ?_ (n + 1) rfl (kvCells (M.take n) ++ encI (x, vl0)) rfl ?_
                                    · exact hown2.alloc _
                                    · exact Rd.new w2 70 4 1 (encI (x, vl0)).toArray w2.heap.size rfl rfl
                                    · exact encI_one _
                                    · simp only [maxLen]; omega
                                    · omega
                                    · exact below_sz (below_al hbA.out _)
                                    intro A3 c3 w3 hown3 hg3 hat3
                                    have hbB : Hid (Below w5.heap.size w5 w3) := hid (below_gr (below_al hbA.out _) hg3 (fun k hk => (hown2.lt k hk).1))
                                    clear hg3 hat3
                                    refine hK.out _ _ (fun _ => hkeep.out _ hbB.out) ?_
                                    clear hK K
                                    (try simp only [Act.put, List.setIfInBounds_toArray, List.set_cons_zero, List.set_cons_succ, List.getElem_toArray, List.getElem_cons_zero, List.getElem_cons_succ])
                                    refine wpAnyE_ready (rs := [22]) (by kernel_rfl) (by simp) ?_
                                    refine AllReadyE.cons rfl (fun K hK => ?_) AllReadyE.nil
                                    refine step_append_rd w3 rfl (.tmp 150) (.tmp 156) 62 rfl w5.heap.size 70 ip _ 4 48 Tryz.underlying62 hip hp0 hp1 hp2 rfl (by omega) (.slice A3 (n + 1) c3) (n + 1) (kvCells (M.take n) ++ encI (x, vl0)) rfl ?_ (fun b => S' b ∧ b ≠ r) (some ⟨b5, o5, none⟩) 0 0 (kvCells (M.drop n)) rfl ?_ ?_ ?_ ?_ ?_ (n + 1) (by omega) (kvCells (M.take n) ++ encI (x, vl0) ++ kvCells (M.drop n)) rfl ?_
                                    · exact hown3
                                    · exact hsuf.out.below_all hbB.out
                                    · exact kvCells_one _
                                    · simp only [maxLen]; omega
                                    · omega
                                    · exact below_sz hbB.out
                                    intro A4 c4 w4 hown4 hg4 hat4
                                    have hbC : Hid (Below w5.heap.size w5 w4) := hid (below_gr hbB.out hg4 (fun k hk => (hown3.lt k hk).1))
                                    have r4 : w4.cell? ⟨r, 2, none⟩ = some (.slice (some ⟨b5, o5, none⟩) n n) := (hkeep.out _ hbC.out).1
                                    have q4 := fq4.out _ hbC.out
                                    clear hg4 hat4
                                    refine hK.out _ _ (fun _ => hkeep.out _ hbC.out) ?_
                                    clear hK K
                                    (try simp only [Act.put, List.setIfInBounds_toArray, List.set_cons_zero, List.set_cons_succ, List.getElem_toArray, List.getElem_cons_zero, List.getElem_cons_succ])
                                    refine wpAnyE_take [24, 25] (i := 23) (v := ?v43) rfl (by kernel_rfl) (by kernel_rfl) (by kernel_rfl) (by rfl) (by kernel_rfl) (by kernel_rfl) (fun _ _ _ h => h) (Or.inl ⟨by rfl, ?hy43⟩) (hkeep.out _ hbC.out) ?rest43
                                    case hy43 => intro w hSw; (try dsimp only at hSw); go_simp; try with_reducible rfl
                                    (try simp only [Act.put, List.setIfInBounds_toArray, List.set_cons_zero, List.set_cons_succ, List.getElem_toArray, List.getElem_cons_zero, List.getElem_cons_succ])
                                    refine wpAnyE_take [25] (i := 24) (v := ?v44) rfl (by kernel_rfl) (by kernel_rfl) (by kernel_rfl) (by rfl) (by kernel_rfl) (by kernel_rfl) (fun _ _ _ h => h) (Or.inl ⟨by rfl, ?hy44⟩) (hkeep.out _ hbC.out) ?rest44
                                    case hy44 => intro w hSw; (try dsimp only at hSw); go_simp; try with_reducible rfl
                                    (try simp only [Act.put, List.setIfInBounds_toArray, List.set_cons_zero, List.set_cons_succ, List.getElem_toArray, List.getElem_cons_zero, List.getElem_cons_succ])
                                    refine wpAnyE_ready (rs := [25]) (by kernel_rfl) (by simp) ?_
                                    refine AllReadyE.cons rfl (fun K hK => ?_) AllReadyE.nil
                                    go_simp
                                    refine hK.out _ _ (fun h => absurd rfl h) ?_
                                    clear hK K
                                    (try simp only [Act.put, List.setIfInBounds_toArray, List.set_cons_zero, List.set_cons_succ, List.getElem_toArray, List.getElem_cons_zero, List.getElem_cons_succ])
                                    refine wpAnyE_done (by kernel_rfl) ?_ _
                                    go_wp2_with fail
                                    go_roundw
                                    case rel => exact ⟨k + 1, _, by go_num, hlt, (hfin.out _ _ _ hbC.out hown4).1, (hfin.out _ _ _ hbC.out hown4).2.1, (hfin.out _ _ _ hbC.out hown4).2.2.1, (hfin.out _ _ _ hbC.out hown4).2.2.2⟩
                                    case measure => simp [intOf]; omega
                                  · go_simp
                                    refine hK.out _ _ (fun _ => hkeep.out _ ((((Below.refl _ w5).alloc (Nat.le_refl _) _).drew).alloc (by simp) _)) ?_
                                    clear hK K
                                    (try simp only [Act.put, List.setIfInBounds_toArray, List.set_cons_zero, List.set_cons_succ, List.getElem_toArray, List.getElem_cons_zero, List.getElem_cons_succ])
                                    refine wpAnyE_ready (rs := [8]) (by kernel_rfl) (by simp) ?_
                                    refine AllReadyE.cons rfl (fun K hK => ?_) AllReadyE.nil
                                    refine step_append_rd _ rfl (.tmp 136) (.tmp 142) 62 rfl w5.heap.size 70 ip _ 4 48 Tryz.underlying62 hip hp0 hp1 hp2 rfl (by omega) (.slice (some ⟨w5.heap.size, 0, none⟩) 0 0) 0 [] rfl ?_ (fun b => S' b ∧ b ≠ r) (some ⟨b5, o5, none⟩) n n (kvCells (M.take n)) rfl ?_ ?_ ?_ ?_ ?_ n (Nat.zero_add n) (kvCells (M.take n)) rfl ?_
                                    · exact (own_empty w5 _ 4).drew.alloc _
                                    · exact hpre.out.below_all ((((Below.refl _ w5).alloc (Nat.le_refl _) (.cells #[] 70)).drew).alloc (by simp) (.cells #[.string x, .int .i64 0, .int .i64 0, .string ⟨#[]⟩] 70))
                                    · exact kvCells_one _
                                    · simp only [maxLen]; omega
                                    · omega
                                    · exact below_sz ((((Below.refl _ w5).alloc (Nat.le_refl _) (.cells #[] 70)).drew).alloc (by simp) (.cells #[.string x, .int .i64 0, .int .i64 0, .string ⟨#[]⟩] 70))
                                    intro A2 c2 w2 hown2 hg2 hat2
                                    have hbA : Hid (Below w5.heap.size w5 w2) := hid (below_gr ((((Below.refl _ w5).alloc (Nat.le_refl _) (.cells #[] 70)).drew).alloc (by simp) (.cells #[.string x, .int .i64 0, .int .i64 0, .string ⟨#[]⟩] 70)) hg2 (fun k hk => by simp [Value.ownBlock] at hk; omega))
                                    have hI : Hid (Rd (fun b => b = w5.heap.size + 1) w2 4 (some ⟨w5.heap.size + 1, 0, none⟩) 1 (encI (x, vl0))) := hid ((Rd.new (w5.alloc (.cells #[] 70)).drew 70 4 1 (encI (x, vl0)).toArray (w5.heap.size + 1) (by simp) rfl).grown_ hg2 (fun b hb => by simp [Value.ownBlock, hb]))
                                    clear hg2 hat2
                                    refine hK.out _ _ (fun _ => hkeep.out _ hbA.out) ?_
                                    clear hK K
                                    (try simp only [Act.put, List.setIfInBounds_toArray, List.set_cons_zero, List.set_cons_succ, List.getElem_toArray, List.getElem_cons_zero, List.getElem_cons_succ])
                                    refine wpAnyE_ready (rs := [15]) (by kernel_rfl) (by simp) ?_
                                    refine AllReadyE.cons rfl (fun K hK => ?_) AllReadyE.nil
                                    refine step_append_rd _ rfl (.tmp 143) (.tmp 149) 62 rfl w5.heap.size 70 ip _ 4 48 Tryz.underlying62 hip hp0 hp1 hp2 rfl (by omega) (.slice A2 n c2) n (kvCells (M.take n)) rfl ?_ (fun b => b = w5.heap.size + 1) (some ⟨w5.heap.size + 1, 0, none⟩) 1 1 (encI (x, vl0)) rfl ?_ ?_ ?_ ?_ ?_ (n + 1) rfl (kvCells (M.take n) ++ encI (x, vl0)) rfl ?_
                                    · exact hown2
                                    · exact hI.out
                                    · exact encI_one _
                                    · simp only [maxLen]; omega
                                    · omega
                                    · exact below_sz hbA.out
                                    intro A3 c3 w3 hown3 hg3 hat3
                                    have hbB : Hid (Below w5.heap.size w5 w3) := hid (below_gr hbA.out hg3 (fun k hk => (hown2.lt k hk).1))
                                    clear hg3 hat3
                                    refine hK.out _ _ (fun _ => hkeep.out _ hbB.out) ?_
                                    clear hK K
                                    (try simp only [Act.put, List.setIfInBounds_toArray, List.set_cons_zero, List.set_cons_succ, List.getElem_toArray, List.getElem_cons_zero, List.getElem_cons_succ])
                                    refine wpAnyE_ready (rs := [22]) (by kernel_rfl) (by simp) ?_
                                    refine AllReadyE.cons rfl (fun K hK => ?_) AllReadyE.nil
                                    refine step_append_rd w3 rfl (.tmp 150) (.tmp 156) 62 rfl w5.heap.size 70 ip _ 4 48 Tryz.underlying62 hip hp0 hp1 hp2 rfl (by omega) (.slice A3 (n + 1) c3) (n + 1) (kvCells (M.take n) ++ encI (x, vl0)) rfl ?_ (fun b => S' b ∧ b ≠ r) (some ⟨b5, o5, none⟩) 0 0 (kvCells (M.drop n)) rfl ?_ ?_ ?_ ?_ ?_ (n + 1) (by omega) (kvCells (M.take n) ++ encI (x, vl0) ++ kvCells (M.drop n)) rfl ?_
                                    · exact hown3
                                    · exact hsuf.out.below_all hbB.out
                                    · exact kvCells_one _
                                    · simp only [maxLen]; omega
                                    · omega
                                    · exact below_sz hbB.out
                                    intro A4 c4 w4 hown4 hg4 hat4
                                    have hbC : Hid (Below w5.heap.size w5 w4) := hid (below_gr hbB.out hg4 (fun k hk => (hown3.lt k hk).1))
                                    have r4 : w4.cell? ⟨r, 2, none⟩ = some (.slice (some ⟨b5, o5, none⟩) n n) := (hkeep.out _ hbC.out).1
                                    have q4 := fq4.out _ hbC.out
                                    clear hg4 hat4
                                    refine hK.out _ _ (fun _ => hkeep.out _ hbC.out) ?_
                                    clear hK K
                                    (try simp only [Act.put, List.setIfInBounds_toArray, List.set_cons_zero, List.set_cons_succ, List.getElem_toArray, List.getElem_cons_zero, List.getElem_cons_succ])
                                    refine wpAnyE_take [24, 25] (i := 23) (v := ?v45) rfl (by kernel_rfl) (by kernel_rfl) (by kernel_rfl) (by rfl) (by kernel_rfl) (by kernel_rfl) (fun _ _ _ h => h) (Or.inl ⟨by rfl, ?hy45⟩) (hkeep.out _ hbC.out) ?rest45
                                    case hy45 => intro w hSw; (try dsimp only at hSw); go_simp; try with_reducible rfl
                                    (try simp only [Act.put, List.setIfInBounds_toArray, List.set_cons_zero, List.set_cons_succ, List.getElem_toArray, List.getElem_cons_zero, List.getElem_cons_succ])
                                    refine wpAnyE_take [25] (i := 24) (v := ?v46) rfl (by kernel_rfl) (by kernel_rfl) (by kernel_rfl) (by rfl) (by kernel_rfl) (by kernel_rfl) (fun _ _ _ h => h) (Or.inl ⟨by rfl, ?hy46⟩) (hkeep.out _ hbC.out) ?rest46
                                    case hy46 => intro w hSw; (try dsimp only at hSw); go_simp; try with_reducible rfl
                                    (try simp only [Act.put, List.setIfInBounds_toArray, List.set_cons_zero, List.set_cons_succ, List.getElem_toArray, List.getElem_cons_zero, List.getElem_cons_succ])
                                    refine wpAnyE_ready (rs := [25]) (by kernel_rfl) (by simp) ?_
                                    refine AllReadyE.cons rfl (fun K hK => ?_) AllReadyE.nil
                                    go_simp
                                    refine hK.out _ _ (fun h => absurd rfl h) ?_
                                    clear hK K
                                    (try simp only [Act.put, List.setIfInBounds_toArray, List.set_cons_zero, List.set_cons_succ, List.getElem_toArray, List.getElem_cons_zero, List.getElem_cons_succ])
                                    refine wpAnyE_done (by kernel_rfl) ?_ _
                                    go_wp2_with fail
                                    go_roundw
                                    case rel => exact ⟨k + 1, _, by go_num, hlt, (hfin.out _ _ _ hbC.out hown4).1, (hfin.out _ _ _ hbC.out hown4).2.1, (hfin.out _ _ _ hbC.out hown4).2.2.1, (hfin.out _ _ _ hbC.out hown4).2.2.2⟩
                                    case measure => simp [intOf]; omega
                                · go_simp
                                  refine hK.out _ _ (fun _ => hkeep.out _ (((Below.refl _ w5).alloc (Nat.le_refl _) _).drew)) ?_
                                  clear hK K
                                  (try simp only [Act.put, List.setIfInBounds_toArray, List.set_cons_zero, List.set_cons_succ, List.getElem_toArray, List.getElem_cons_zero, List.getElem_cons_succ])
                                  refine wpAnyE_ready (rs := [1]) (by kernel_rfl) (by simp) ?_
                                  refine AllReadyE.cons rfl (fun K hK => ?_) AllReadyE.nil
                                  go_simp
                                  refine hK.out _ _ (fun _ => hkeep.out _ ((((Below.refl _ w5).alloc (Nat.le_refl _) _).drew).alloc (by simp) _)) ?_
                                  clear hK K
                                  (try simp only [Act.put, List.setIfInBounds_toArray, List.set_cons_zero, List.set_cons_succ, List.getElem_toArray, List.getElem_cons_zero, List.getElem_cons_succ])
                                  refine wpAnyE_ready (rs := [8]) (by kernel_rfl) (by simp) ?_
                                  refine AllReadyE.cons rfl (fun K hK => ?_) AllReadyE.nil
                                  refine step_append_rd _ rfl (.tmp 136) (.tmp 142) 62 rfl w5.heap.size 70 ip _ 4 48 Tryz.underlying62 hip hp0 hp1 hp2 rfl (by omega) (.slice (some ⟨w5.heap.size + 1, 0, none⟩) 0 0) 0 [] rfl ?_ (fun b => S' b ∧ b ≠ r) (some ⟨b5, o5, none⟩) n n (kvCells (M.take n)) rfl ?_ ?_ ?_ ?_ ?_ n (Nat.zero_add n) (kvCells (M.take n)) rfl ?_
                                  · exact own_base (by simp) (own_empty' (w5.alloc (.cells #[.string x, .int .i64 0, .int .i64 0, .string ⟨#[]⟩] 70)).drew _ 4 (w5.heap.size + 1) (by simp))
                                  · exact hpre.out.below_all ((((Below.refl _ w5).alloc (Nat.le_refl _) (.cells #[.string x, .int .i64 0, .int .i64 0, .string ⟨#[]⟩] 70)).drew).alloc (by simp) (.cells #[] 70))
                                  · exact kvCells_one _
                                  · simp only [maxLen]; omega
                                  · omega
                                  · exact below_sz ((((Below.refl _ w5).alloc (Nat.le_refl _) (.cells #[.string x, .int .i64 0, .int .i64 0, .string ⟨#[]⟩] 70)).drew).alloc (by simp) (.cells #[] 70))
                                  intro A2 c2 w2 hown2 hg2 hat2
                                  have hbA : Hid (Below w5.heap.size w5 w2) := hid (below_gr ((((Below.refl _ w5).alloc (Nat.le_refl _) (.cells #[.string x, .int .i64 0, .int .i64 0, .string ⟨#[]⟩] 70)).drew).alloc (by simp) (.cells #[] 70)) hg2 (fun k hk => by simp [Value.ownBlock] at hk; omega))
                                  have hI : Hid (Rd (fun b => b = w5.heap.size) w2 4 (some ⟨w5.heap.size, 0, none⟩) 1 (encI (x, vl0))) := hid (((Rd.new w5 70 4 1 (encI (x, vl0)).toArray w5.heap.size rfl rfl).drew.alloc (.cells #[] 70)).grown_ hg2 (fun b hb => by simp [Value.ownBlock, hb]))
                                  clear hg2 hat2
                                  refine hK.out _ _ (fun _ => hkeep.out _ hbA.out) ?_
                                  clear hK K
                                  (try simp only [Act.put, List.setIfInBounds_toArray, List.set_cons_zero, List.set_cons_succ, List.getElem_toArray, List.getElem_cons_zero, List.getElem_cons_succ])
                                  refine wpAnyE_ready (rs := [15]) (by kernel_rfl) (by simp) ?_
                                  refine AllReadyE.cons rfl (fun K hK => ?_) AllReadyE.nil
                                  refine step_append_rd _ rfl (.tmp 143) (.tmp 149) 62 rfl w5.heap.size 70 ip _ 4 48 Tryz.underlying62 hip hp0 hp1 hp2 rfl (by omega) (.slice A2 n c2) n (kvCells (M.take n)) rfl ?_ (fun b => b = w5.heap.size) (some ⟨w5.heap.size, 0, none⟩) 1 1 (encI (x, vl0)) rfl ?_ ?_ ?_ ?_ ?_ (n + 1) rfl (kvCells (M.take n) ++ encI (x, vl0)) rfl ?_
                                  · exact hown2
                                  · exact hI.out
                                  · exact encI_one _
                                  · simp only [maxLen]; omega
                                  · omega
                                  · exact below_sz hbA.out
                                  intro A3 c3 w3 hown3 hg3 hat3
                                  have hbB : Hid (Below w5.heap.size w5 w3) := hid (below_gr hbA.out hg3 (fun k hk => (hown2.lt k hk).1))
                                  clear hg3 hat3
                                  refine hK.out _ _ (fun _ => hkeep.out _ hbB.out) ?_
                                  clear hK K
                                  (try simp only [Act.put, List.setIfInBounds_toArray, List.set_cons_zero, List.set_cons_succ, List.getElem_toArray, List.getElem_cons_zero, List.getElem_cons_succ])
                                  refine wpAnyE_ready (rs := [22]) (by kernel_rfl) (by simp) ?_
                                  refine AllReadyE.cons rfl (fun K hK => ?_) AllReadyE.nil
                                  refine step_append_rd w3 rfl (.tmp 150) (.tmp 156) 62 rfl w5.heap.size 70 ip _ 4 48 Tryz.underlying62 hip hp0 hp1 hp2 rfl (by omega) (.slice A3 (n + 1) c3) (n + 1) (kvCells (M.take n) ++ encI (x, vl0)) rfl ?_ (fun b => S' b ∧ b ≠ r) (some ⟨b5, o5, none⟩) 0 0 (kvCells (M.drop n)) rfl ?_ ?_ ?_ ?_ ?_ (n + 1) (by omega) (kvCells (M.take n) ++ encI (x, vl0) ++ kvCells (M.drop n)) rfl ?_
                                  · exact hown3
                                  · exact hsuf.out.below_all hbB.out
                                  · exact kvCells_one _
                                  · simp only [maxLen]; omega
                                  · omega
                                  · exact below_sz hbB.out
                                  intro A4 c4 w4 hown4 hg4 hat4
                                  have hbC : Hid (Below w5.heap.size w5 w4) := hid (below_gr hbB.out hg4 (fun k hk => (hown3.lt k hk).1))
                                  have r4 : w4.cell? ⟨r, 2, none⟩ = some (.slice (some ⟨b5, o5, none⟩) n n) := (hkeep.out _ hbC.out).1
                                  have q4 := fq4.out _ hbC.out
                                  clear hg4 hat4
                                  refine hK.out _ _ (fun _ => hkeep.out _ hbC.out) ?_
                                  clear hK K
                                  (try simp only [Act.put, List.setIfInBounds_toArray, List.set_cons_zero, List.set_cons_succ, List.getElem_toArray, List.getElem_cons_zero, List.getElem_cons_succ])
                                  refine wpAnyE_take [24, 25] (i := 23) (v := ?v47) rfl (by kernel_rfl) (by kernel_rfl) (by kernel_rfl) (by rfl) (by kernel_rfl) (by kernel_rfl) (fun _ _ _ h => h) (Or.inl ⟨by rfl, ?hy47⟩) (hkeep.out _ hbC.out) ?rest47
                                  case hy47 => intro w hSw; (try dsimp only at hSw); go_simp; try with_reducible rfl
                                  (try simp only [Act.put, List.setIfInBounds_toArray, List.set_cons_zero, List.set_cons_succ, List.getElem_toArray, List.getElem_cons_zero, List.getElem_cons_succ])
                                  refine wpAnyE_take [25] (i := 24) (v := ?v48) rfl (by kernel_rfl) (by kernel_rfl) (by kernel_rfl) (by rfl) (by kernel_rfl) (by kernel_rfl) (fun _ _ _ h => h) (Or.inl ⟨by rfl, ?hy48⟩) (hkeep.out _ hbC.out) ?rest48
                                  case hy48 => intro w hSw; (try dsimp only at hSw); go_simp; try with_reducible rfl
                                  (try simp only [Act.put, List.setIfInBounds_toArray, List.set_cons_zero, List.set_cons_succ, List.getElem_toArray, List.getElem_cons_zero, List.getElem_cons_succ])
                                  refine wpAnyE_ready (rs := [25]) (by kernel_rfl) (by simp) ?_
                                  refine AllReadyE.cons rfl (fun K hK => ?_) AllReadyE.nil
                                  go_simp
                                  refine hK.out _ _ (fun h => absurd rfl h) ?_
                                  clear hK K
                                  (try simp only [Act.put, List.setIfInBounds_toArray, List.set_cons_zero, List.set_cons_succ, List.getElem_toArray, List.getElem_cons_zero, List.getElem_cons_succ])
                                  refine wpAnyE_done (by kernel_rfl) ?_ _
                                  go_wp2_with fail
                                  go_roundw
                                  case rel => exact ⟨k + 1, _, by go_num, hlt, (hfin.out _ _ _ hbC.out hown4).1, (hfin.out _ _ _ hbC.out hown4).2.1, (hfin.out _ _ _ hbC.out hown4).2.2.1, (hfin.out _ _ _ hbC.out hown4).2.2.2⟩
                                  case measure => simp [intOf]; omega
                              · have hsuf : Hid (Rd (fun b => S' b ∧ b ≠ r) w5 4 (some ⟨b5, o5 + p * 4, none⟩) (n - p) (kvCells (M.drop p))) := hid (Rd.sufK hrd.out hnn.out p)
                                have hkeep : Hid (∀ w', Below w5.heap.size w5 w' → w'.cell? ⟨r, 2, none⟩ = some (.slice (some ⟨b5, o5, none⟩) n d5) ∧ w'.cell? ⟨b, o + k, none⟩ = some (.string x)) := hid fun w' h => ⟨(by have h2 := (HQ.out.below h).cells.2.2; rw [show ({ parts := s.parts, room := s.room, L := M } : St).L.length = n from hnn.out.symm] at h2; exact h2), hc5a.out _ h⟩
                                have fq4 : Hid (∀ w', Below w5.heap.size w5 w' → w'.frozen? ⟨r, 2, none⟩ = false) := hid fun w' h => (HQ.out.below h).blk.frozen 2
                                have d2 := (hkeep.out _ (Below.refl _ _)).1
                                have hHeld := hkeep.out w5.drew (Below.refl _ _).drew
                                refine wp_region_heldE (S := fun w' => w'.cell? ⟨r, 2, none⟩ = some (.slice (some ⟨b5, o5, none⟩) n d5) ∧ w'.cell? ⟨b, o + k, none⟩ = some (.string x)) 25 (by kernel_rfl) ?_
                                refine wpAnyE_take [23, 24, 25] (i := 0) (v := ?v49) rfl (by kernel_rfl) (by kernel_rfl) (by kernel_rfl) (by rfl) (by kernel_rfl) (by kernel_rfl) (fun _ _ _ h => h) (Or.inl ⟨by rfl, ?hy49⟩) (hHeld) ?rest49
                                case hy49 => intro w hSw; (try dsimp only at hSw); go_simp; try with_reducible rfl
                                (try simp only [Act.put, List.setIfInBounds_toArray, List.set_cons_zero, List.set_cons_succ, List.getElem_toArray, List.getElem_cons_zero, List.getElem_cons_succ])
                                refine wpAnyE_take [3, 4, 5, 7, 8, 15, 22, 25] (i := 2) (v := ?v50) rfl (by kernel_rfl) (by kernel_rfl) (by kernel_rfl) (by rfl) (by kernel_rfl) (by kernel_rfl) (fun _ _ _ h => h) (Or.inl ⟨by rfl, ?hy50⟩) (hHeld) ?rest50
                                case hy50 => intro w hSw; (try dsimp only at hSw); go_simp; try with_reducible rfl
                                (try simp only [Act.put, List.setIfInBounds_toArray, List.set_cons_zero, List.set_cons_succ, List.getElem_toArray, List.getElem_cons_zero, List.getElem_cons_succ])
                                refine wpAnyE_take [4, 5, 7, 8, 15, 22, 25] (i := 3) (v := ?v51) rfl (by kernel_rfl) (by kernel_rfl) (by kernel_rfl) (by rfl) (by kernel_rfl) (by kernel_rfl) (fun _ _ _ h => h) (Or.inl ⟨by rfl, ?hy51⟩) (hHeld) ?rest51
                                case hy51 => intro w hSw; (try dsimp only at hSw); go_simp; try with_reducible rfl
                                (try simp only [Act.put, List.setIfInBounds_toArray, List.set_cons_zero, List.set_cons_succ, List.getElem_toArray, List.getElem_cons_zero, List.getElem_cons_succ])
                                refine wpAnyE_take [5, 7, 8, 15, 22, 25] (i := 4) (v := ?v52) rfl (by kernel_rfl) (by kernel_rfl) (by kernel_rfl) (by rfl) (by kernel_rfl) (by kernel_rfl) (fun _ _ _ h => h) (Or.inl ⟨by rfl, ?hy52⟩) (hHeld) ?rest52
                                case hy52 => intro w hSw; (try dsimp only at hSw); go_simp; try with_reducible rfl
                                (try simp only [Act.put, List.setIfInBounds_toArray, List.set_cons_zero, List.set_cons_succ, List.getElem_toArray, List.getElem_cons_zero, List.getElem_cons_succ])
                                refine wpAnyE_take [7, 8, 15, 22, 25] (i := 5) (v := ?v53) rfl (by kernel_rfl) (by kernel_rfl) (by kernel_rfl) (by rfl) (by kernel_rfl) (by kernel_rfl) (fun _ _ _ h => h) (Or.inl ⟨by rfl, ?hy53⟩) (hHeld) ?rest53
                                case hy53 => intro w hSw; (try dsimp only at hSw); go_simp; try with_reducible rfl
                                (try simp only [Act.put, List.setIfInBounds_toArray, List.set_cons_zero, List.set_cons_succ, List.getElem_toArray, List.getElem_cons_zero, List.getElem_cons_succ])
                                refine wpAnyE_take [7, 8, 15, 22, 25] (i := 6) (v := ?v54) rfl (by kernel_rfl) (by kernel_rfl) (by kernel_rfl) (by rfl) (by kernel_rfl) (by kernel_rfl) (fun _ _ _ h => h) (Or.inl ⟨by rfl, ?hy54⟩) (hHeld) ?rest54
                                case hy54 => intro w hSw; (try dsimp only at hSw); go_simp; try with_reducible rfl
                                (try simp only [Act.put, List.setIfInBounds_toArray, List.set_cons_zero, List.set_cons_succ, List.getElem_toArray, List.getElem_cons_zero, List.getElem_cons_succ])
                                refine wpAnyE_take [8, 15, 22, 25] (i := 7) (v := ?v55) rfl (by kernel_rfl) (by kernel_rfl) (by kernel_rfl) (by rfl) (by kernel_rfl) (by kernel_rfl) (fun _ _ _ h => h) (Or.inl ⟨by rfl, ?hy55⟩) (hHeld) ?rest55
                                case hy55 => intro w hSw; (try dsimp only at hSw); go_simp; try with_reducible rfl
                                (try simp only [Act.put, List.setIfInBounds_toArray, List.set_cons_zero, List.set_cons_succ, List.getElem_toArray, List.getElem_cons_zero, List.getElem_cons_succ])
                                refine wpAnyE_take [11, 12, 13, 14, 15, 22, 25] (i := 9) (v := ?v56) rfl (by kernel_rfl) (by kernel_rfl) (by kernel_rfl) (by rfl) (by kernel_rfl) (by kernel_rfl) (fun _ _ _ h => h) (Or.inl ⟨by rfl, ?hy56⟩) (hHeld) ?rest56
                                case hy56 => intro w hSw; (try dsimp only at hSw); go_simp; try with_reducible rfl
                                (try simp only [Act.put, List.setIfInBounds_toArray, List.set_cons_zero, List.set_cons_succ, List.getElem_toArray, List.getElem_cons_zero, List.getElem_cons_succ])
                                refine wpAnyE_take [11, 12, 13, 14, 15, 22, 25] (i := 10) (v := ?v57) rfl (by kernel_rfl) (by kernel_rfl) (by kernel_rfl) (by rfl) (by kernel_rfl) (by kernel_rfl) (fun _ _ _ h => h) (Or.inl ⟨by rfl, ?hy57⟩) (hHeld) ?rest57
                                case hy57 => intro w hSw; (try dsimp only at hSw); go_simp; try with_reducible rfl
                                (try simp only [Act.put, List.setIfInBounds_toArray, List.set_cons_zero, List.set_cons_succ, List.getElem_toArray, List.getElem_cons_zero, List.getElem_cons_succ])
                                refine wpAnyE_take [12, 13, 14, 15, 22, 25] (i := 11) (v := ?v58) rfl (by kernel_rfl) (by kernel_rfl) (by kernel_rfl) (by rfl) (by kernel_rfl) (by kernel_rfl) (fun _ _ _ h => h) (Or.inl ⟨by rfl, ?hy58⟩) (hHeld) ?rest58
                                case hy58 => intro w hSw; (try dsimp only at hSw); go_simp; try with_reducible rfl
                                (try simp only [Act.put, List.setIfInBounds_toArray, List.set_cons_zero, List.set_cons_succ, List.getElem_toArray, List.getElem_cons_zero, List.getElem_cons_succ])
                                refine wpAnyE_take [13, 14, 15, 22, 25] (i := 12) (v := ?v59) rfl (by kernel_rfl) (by kernel_rfl) (by kernel_rfl) (by rfl) (by kernel_rfl) (by kernel_rfl) (fun _ _ _ h => h) (Or.inl ⟨by rfl, ?hy59⟩) (hHeld) ?rest59
                                case hy59 => intro w hSw; (try dsimp only at hSw); go_simp; try with_reducible rfl
                                (try simp only [Act.put, List.setIfInBounds_toArray, List.set_cons_zero, List.set_cons_succ, List.getElem_toArray, List.getElem_cons_zero, List.getElem_cons_succ])
                                refine wpAnyE_take [14, 15, 22, 25] (i := 13) (v := ?v60) rfl (by kernel_rfl) (by kernel_rfl) (by kernel_rfl) (by rfl) (by kernel_rfl) (by kernel_rfl) (fun _ _ _ h => h) (Or.inl ⟨by rfl, ?hy60⟩) (hHeld) ?rest60
                                case hy60 => intro w hSw; (try dsimp only at hSw); go_simp; try with_reducible rfl
                                (try simp only [Act.put, List.setIfInBounds_toArray, List.set_cons_zero, List.set_cons_succ, List.getElem_toArray, List.getElem_cons_zero, List.getElem_cons_succ])
                                refine wpAnyE_take [17, 18, 19, 21, 22, 25] (i := 16) (v := ?v61) rfl (by kernel_rfl) (by kernel_rfl) (by kernel_rfl) (by rfl) (by kernel_rfl) (by kernel_rfl) (fun _ _ _ h => h) (Or.inl ⟨by rfl, ?hy61⟩) (hHeld) ?rest61
                                case hy61 => intro w hSw; (try dsimp only at hSw); go_simp; try with_reducible rfl
                                (try simp only [Act.put, List.setIfInBounds_toArray, List.set_cons_zero, List.set_cons_succ, List.getElem_toArray, List.getElem_cons_zero, List.getElem_cons_succ])
                                refine wpAnyE_take [18, 19, 21, 22, 25] (i := 17) (v := ?v62) rfl (by kernel_rfl) (by kernel_rfl) (by kernel_rfl) (by rfl) (by kernel_rfl) (by kernel_rfl) (fun _ _ _ h => h) (Or.inl ⟨by rfl, ?hy62⟩) (hHeld) ?rest62
                                case hy62 => intro w hSw; (try dsimp only at hSw); go_simp; try with_reducible rfl
                                (try simp only [Act.put, List.setIfInBounds_toArray, List.set_cons_zero, List.set_cons_succ, List.getElem_toArray, List.getElem_cons_zero, List.getElem_cons_succ])
                                refine wpAnyE_take [19, 21, 22, 25] (i := 18) (v := ?v63) rfl (by kernel_rfl) (by kernel_rfl) (by kernel_rfl) (by rfl) (by kernel_rfl) (by kernel_rfl) (fun _ _ _ h => h) (Or.inl ⟨by rfl, ?hy63⟩) (hHeld) ?rest63
                                case hy63 => intro w hSw; (try dsimp only at hSw); go_simp; try with_reducible rfl
                                (try simp only [Act.put, List.setIfInBounds_toArray, List.set_cons_zero, List.set_cons_succ, List.getElem_toArray, List.getElem_cons_zero, List.getElem_cons_succ])
                                refine wpAnyE_take [21, 22, 25] (i := 19) (v := ?v64) rfl (by kernel_rfl) (by kernel_rfl) (by kernel_rfl) (by rfl) (by kernel_rfl) (by kernel_rfl) (fun _ _ _ h => h) (Or.inl ⟨by rfl, ?hy64⟩) (hHeld) ?rest64
                                case hy64 => intro w hSw; (try dsimp only at hSw); go_simp; try with_reducible rfl
                                (try simp only [Act.put, List.setIfInBounds_toArray, List.set_cons_zero, List.set_cons_succ, List.getElem_toArray, List.getElem_cons_zero, List.getElem_cons_succ])
                                refine wpAnyE_take [21, 22, 25] (i := 20) (v := ?v65) rfl (by kernel_rfl) (by kernel_rfl) (by kernel_rfl) (by rfl) (by kernel_rfl) (by kernel_rfl) (fun _ _ _ h => h) (Or.inl ⟨by rfl, ?hy65⟩) (hHeld) ?rest65
                                case hy65 => intro w hSw; (try dsimp only at hSw); go_simp; try with_reducible rfl
                                (try simp only [Act.put, List.setIfInBounds_toArray, List.set_cons_zero, List.set_cons_succ, List.getElem_toArray, List.getElem_cons_zero, List.getElem_cons_succ])
                                refine wpAnyE_take [22, 25] (i := 21) (v := ?v66) rfl (by kernel_rfl) (by kernel_rfl) (by kernel_rfl) (by rfl) (by kernel_rfl) (by kernel_rfl) (fun _ _ _ h => h) (Or.inl ⟨by rfl, ?hy66⟩) (hHeld) ?rest66
                                case hy66 => intro w hSw; (try dsimp only at hSw); go_simp; try with_reducible rfl
                                (try simp only [Act.put, List.setIfInBounds_toArray, List.set_cons_zero, List.set_cons_succ, List.getElem_toArray, List.getElem_cons_zero, List.getElem_cons_succ])
                                refine wpAnyE_ready (rs := [1, 14]) (by kernel_rfl) (by simp) ?_
                                refine AllReadyE.cons rfl (fun K hK => ?_) (AllReadyE.cons rfl (fun K hK => ?_) AllReadyE.nil)
                                · go_simp
                                  refine hK.out _ _ (fun _ => hkeep.out _ (((Below.refl _ w5).alloc (Nat.le_refl _) _).drew)) ?_
                                  clear hK K
                                  (try simp only [Act.put, List.setIfInBounds_toArray, List.set_cons_zero, List.set_cons_succ, List.getElem_toArray, List.getElem_cons_zero, List.getElem_cons_succ])
                                  refine wpAnyE_ready (rs := [8, 14]) (by kernel_rfl) (by simp) ?_
                                  refine AllReadyE.cons rfl (fun K hK => ?_) (AllReadyE.cons rfl (fun K hK => ?_) AllReadyE.nil)
                                  · refine step_append_rd _ rfl (.tmp 136) (.tmp 142) 62 rfl w5.heap.size 70 ip _ 4 48 Tryz.underlying62 hip hp0 hp1 hp2 rfl (by omega) (.slice (some ⟨w5.heap.size, 0, none⟩) 0 0) 0 [] rfl ?_ (fun b => S' b ∧ b ≠ r) (some ⟨b5, o5, none⟩) p d5 (kvCells (M.take p)) rfl ?_ ?_ ?_ ?_ ?_ p (Nat.zero_add p) (kvCells (M.take p)) rfl ?_
                                    · exact (own_empty w5 _ 4).drew
                                    · exact hpre.out.below_all (((Below.refl _ w5).alloc (Nat.le_refl _) (.cells #[] 70)).drew)
                                    · exact kvCells_one _
                                    · simp only [maxLen]; omega
                                    · omega
                                    · exact below_sz (((Below.refl _ w5).alloc (Nat.le_refl _) (.cells #[] 70)).drew)
                                    intro A2 c2 w2 hown2 hg2 hat2
                                    have hbA : Hid (Below w5.heap.size w5 w2) := hid (below_gr (((Below.refl _ w5).alloc (Nat.le_refl _) (.cells #[] 70)).drew) hg2 (fun k hk => by simp [Value.ownBlock] at hk; omega))
                                    clear hg2 hat2
                                    refine hK.out _ _ (fun _ => hkeep.out _ hbA.out) ?_
                                    clear hK K
                                    (try simp only [Act.put, List.setIfInBounds_toArray, List.set_cons_zero, List.set_cons_succ, List.getElem_toArray, List.getElem_cons_zero, List.getElem_cons_succ])
                                    refine wpAnyE_ready (rs := [14]) (by kernel_rfl) (by simp) ?_
                                    refine AllReadyE.cons rfl (fun K hK => ?_) AllReadyE.nil
                                    go_simp
                                    refine hK.out _ _ (fun _ => hkeep.out _ (below_al hbA.out _)) ?_
                                    clear hK K
                                    (try simp only [Act.put, List.setIfInBounds_toArray, List.set_cons_zero, List.set_cons_succ, List.getElem_toArray, List.getElem_cons_zero, List.getElem_cons_succ])
                                    refine wpAnyE_ready (rs := [15]) (by kernel_rfl) (by simp) ?_
                                    refine AllReadyE.cons rfl (fun K hK => ?_) AllReadyE.nil
                                    refine step_append_rd _ rfl (.tmp 143) (.tmp 149) 62 rfl w5.heap.size 70 ip _ 4 48 Tryz.underlying62 hip hp0 hp1 hp2 rfl (by omega) (.slice A2 p c2) p (kvCells (M.take p)) rfl ?_ (fun b => b = w2.heap.size) (some ⟨w2.heap.size, 0, none⟩) 1 1 (encI (x, vl0)) rfl ?_ ?_ ?_ ?_ ?_ (p + 1) rfl (kvCells (M.take p) ++ encI (x, vl0)) rfl ?_
                                    · exact hown2.alloc _
                                    · exact Rd.new w2 70 4 1 (encI (x, vl0)).toArray w2.heap.size rfl rfl
                                    · exact encI_one _
                                    · simp only [maxLen]; omega
                                    · omega
                                    · exact below_sz (below_al hbA.out _)
                                    intro A3 c3 w3 hown3 hg3 hat3
                                    have hbB : Hid (Below w5.heap.size w5 w3) := hid (below_gr (below_al hbA.out _) hg3 (fun k hk => (hown2.lt k hk).1))
                                    clear hg3 hat3
                                    refine hK.out _ _ (fun _ => hkeep.out _ hbB.out) ?_
                                    clear hK K
                                    (try simp only [Act.put, List.setIfInBounds_toArray, List.set_cons_zero, List.set_cons_succ, List.getElem_toArray, List.getElem_cons_zero, List.getElem_cons_succ])
                                    refine wpAnyE_ready (rs := [22]) (by kernel_rfl) (by simp) ?_
                                    refine AllReadyE.cons rfl (fun K hK => ?_) AllReadyE.nil
                                    refine step_append_rd w3 rfl (.tmp 150) (.tmp 156) 62 rfl w5.heap.size 70 ip _ 4 48 Tryz.underlying62 hip hp0 hp1 hp2 rfl (by omega) (.slice A3 (p + 1) c3) (p + 1) (kvCells (M.take p) ++ encI (x, vl0)) rfl ?_ (fun b => S' b ∧ b ≠ r) (some ⟨b5, o5 + p * 4, none⟩) (n - p) (d5 - p) (kvCells (M.drop p)) rfl ?_ ?_ ?_ ?_ ?_ (n + 1) (by omega) (kvCells (M.take p) ++ encI (x, vl0) ++ kvCells (M.drop p)) rfl ?_
                                    · exact hown3
                                    · exact hsuf.out.below_all hbB.out
                                    · exact kvCells_one _
                                    · simp only [maxLen]; omega
                                    · omega
                                    · exact below_sz hbB.out
                                    intro A4 c4 w4 hown4 hg4 hat4
                                    have hbC : Hid (Below w5.heap.size w5 w4) := hid (below_gr hbB.out hg4 (fun k hk => (hown3.lt k hk).1))
                                    have r4 : w4.cell? ⟨r, 2, none⟩ = some (.slice (some ⟨b5, o5, none⟩) n d5) := (hkeep.out _ hbC.out).1
                                    have q4 := fq4.out _ hbC.out
                                    clear hg4 hat4
                                    refine hK.out _ _ (fun _ => hkeep.out _ hbC.out) ?_
                                    clear hK K
                                    (try simp only [Act.put, List.setIfInBounds_toArray, List.set_cons_zero, List.set_cons_succ, List.getElem_toArray, List.getElem_cons_zero, List.getElem_cons_succ])
                                    refine wpAnyE_take [24, 25] (i := 23) (v := ?v67) rfl (by kernel_rfl) (by kernel_rfl) (by kernel_rfl) (by rfl) (by kernel_rfl) (by kernel_rfl) (fun _ _ _ h => h) (Or.inl ⟨by rfl, ?hy67⟩) (hkeep.out _ hbC.out) ?rest67
                                    case hy67 => intro w hSw; (try dsimp only at hSw); go_simp; try with_reducible rfl
                                    (try simp only [Act.put, List.setIfInBounds_toArray, List.set_cons_zero, List.set_cons_succ, List.getElem_toArray, List.getElem_cons_zero, List.getElem_cons_succ])
                                    refine wpAnyE_take [25] (i := 24) (v := ?v68) rfl (by kernel_rfl) (by kernel_rfl) (by kernel_rfl) (by rfl) (by kernel_rfl) (by kernel_rfl) (fun _ _ _ h => h) (Or.inl ⟨by rfl, ?hy68⟩) (hkeep.out _ hbC.out) ?rest68
                                    case hy68 => intro w hSw; (try dsimp only at hSw); go_simp; try with_reducible rfl
                                    (try simp only [Act.put, List.setIfInBounds_toArray, List.set_cons_zero, List.set_cons_succ, List.getElem_toArray, List.getElem_cons_zero, List.getElem_cons_succ])
                                    refine wpAnyE_ready (rs := [25]) (by kernel_rfl) (by simp) ?_
                                    refine AllReadyE.cons rfl (fun K hK => ?_) AllReadyE.nil
                                    go_simp
                                    refine hK.out _ _ (fun h => absurd rfl h) ?_
                                    clear hK K
                                    (try simp only [Act.put, List.setIfInBounds_toArray, List.set_cons_zero, List.set_cons_succ, List.getElem_toArray, List.getElem_cons_zero, List.getElem_cons_succ])
                                    refine wpAnyE_done (by kernel_rfl) ?_ _
                                    go_wp2_with fail
                                    go_roundw
                                    case rel => exact ⟨k + 1, _, by go_num, hlt, (hfin.out _ _ _ hbC.out hown4).1, (hfin.out _ _ _ hbC.out hown4).2.1, (hfin.out _ _ _ hbC.out hown4).2.2.1, (hfin.out _ _ _ hbC.out hown4).2.2.2⟩
                                    case measure => simp [intOf]; omega
                                  · go_simp
                                    refine hK.out _ _ (fun _ => hkeep.out _ ((((Below.refl _ w5).alloc (Nat.le_refl _) _).drew).alloc (by simp) _)) ?_
                                    clear hK K
                                    (try simp only [Act.put, List.setIfInBounds_toArray, List.set_cons_zero, List.set_cons_succ, List.getElem_toArray, List.getElem_cons_zero, List.getElem_cons_succ])
                                    refine wpAnyE_ready (rs := [8]) (by kernel_rfl) (by simp) ?_
                                    refine AllReadyE.cons rfl (fun K hK => ?_) AllReadyE.nil
                                    refine step_append_rd _ rfl (.tmp 136) (.tmp 142) 62 rfl w5.heap.size 70 ip _ 4 48 Tryz.underlying62 hip hp0 hp1 hp2 rfl (by omega) (.slice (some ⟨w5.heap.size, 0, none⟩) 0 0) 0 [] rfl ?_ (fun b => S' b ∧ b ≠ r) (some ⟨b5, o5, none⟩) p d5 (kvCells (M.take p)) rfl ?_ ?_ ?_ ?_ ?_ p (Nat.zero_add p) (kvCells (M.take p)) rfl ?_
                                    · exact (own_empty w5 _ 4).drew.alloc _
                                    · exact hpre.out.below_all ((((Below.refl _ w5).alloc (Nat.le_refl _) (.cells #[] 70)).drew).alloc (by simp) (.cells #[.string x, .int .i64 0, .int .i64 0, .string ⟨#[]⟩] 70))
                                    · exact kvCells_one _
                                    · simp only [maxLen]; omega
                                    · omega
                                    · exact below_sz ((((Below.refl _ w5).alloc (Nat.le_refl _) (.cells #[] 70)).drew).alloc (by simp) (.cells #[.string x, .int .i64 0, .int .i64 0, .string ⟨#[]⟩] 70))
                                    intro A2 c2 w2 hown2 hg2 hat2
                                    have hbA : Hid (Below w5.heap.size w5 w2) := hid (below_gr ((((Below.refl _ w5).alloc (Nat.le_refl _) (.cells #[] 70)).drew).alloc (by simp) (.cells #[.string x, .int .i64 0, .int .i64 0, .string ⟨#[]⟩] 70)) hg2 (fun k hk => by simp [Value.ownBlock] at hk; omega))
                                    have hI : Hid (Rd (fun b => b = w5.heap.size + 1) w2 4 (some ⟨w5.heap.size + 1, 0, none⟩) 1 (encI (x, vl0))) := hid ((Rd.new (w5.alloc (.cells #[] 70)).drew 70 4 1 (encI (x, vl0)).toArray (w5.heap.size + 1) (by simp) rfl).grown_ hg2 (fun b hb => by simp [Value.ownBlock, hb]))
                                    clear hg2 hat2
                                    refine hK.out _ _ (fun _ => hkeep.out _ hbA.out) ?_
                                    clear hK K
                                    (try simp only [Act.put, List.setIfInBounds_toArray, List.set_cons_zero, List.set_cons_succ, List.getElem_toArray, List.getElem_cons_zero, List.getElem_cons_succ])
                                    refine wpAnyE_ready (rs := [15]) (by kernel_rfl) (by simp) ?_
                                    refine AllReadyE.cons rfl (fun K hK => ?_) AllReadyE.nil
                                    refine step_append_rd _ rfl (.tmp 143) (.tmp 149) 62 rfl w5.heap.size 70 ip _ 4 48 Tryz.underlying62 hip hp0 hp1 hp2 rfl (by omega) (.slice A2 p c2) p (kvCells (M.take p)) rfl ?_ (fun b => b = w5.heap.size + 1) (some ⟨w5.heap.size + 1, 0, none⟩) 1 1 (encI (x, vl0)) rfl ?_ ?_ ?_ ?_ ?_ (p + 1) rfl (kvCells (M.take p) ++ encI (x, vl0)) rfl ?_
                                    · exact hown2
                                    · exact hI.out
                                    · exact encI_one _
                                    · simp only [maxLen]; omega
                                    · omega
                                    · exact below_sz hbA.out
                                    intro A3 c3 w3 hown3 hg3 hat3
                                    have hbB : Hid (Below w5.heap.size w5 w3) := hid (below_gr hbA.out hg3 (fun k hk => (hown2.lt k hk).1))
                                    clear hg3 hat3
                                    refine hK.out _ _ (fun _ => hkeep.out _ hbB.out) ?_
                                    clear hK K
                                    (try simp only [Act.put, List.setIfInBounds_toArray, List.set_cons_zero, List.set_cons_succ, List.getElem_toArray, List.getElem_cons_zero, List.getElem_cons_succ])
                                    refine wpAnyE_ready (rs := [22]) (by kernel_rfl) (by simp) ?_
                                    refine AllReadyE.cons rfl (fun K hK => ?_) AllReadyE.nil
                                    refine step_append_rd w3 rfl (.tmp 150) (.tmp 156) 62 rfl w5.heap.size 70 ip _ 4 48 Tryz.underlying62 hip hp0 hp1 hp2 rfl (by omega) (.slice A3 (p + 1) c3) (p + 1) (kvCells (M.take p) ++ encI (x, vl0)) rfl ?_ (fun b => S' b ∧ b ≠ r) (some ⟨b5, o5 + p * 4, none⟩) (n - p) (d5 - p) (kvCells (M.drop p)) rfl ?_ ?_ ?_ ?_ ?_ (n + 1) (by omega) (kvCells (M.take p) ++ encI (x, vl0) ++ kvCells (M.drop p)) rfl ?_
                                    · exact hown3
                                    · exact hsuf.out.below_all hbB.out
                                    · exact kvCells_one _
                                    · simp only [maxLen]; omega
                                    · omega
                                    · exact below_sz hbB.out
                                    intro A4 c4 w4 hown4 hg4 hat4
                                    have hbC : Hid (Below w5.heap.size w5 w4) := hid (below_gr hbB.out hg4 (fun k hk => (hown3.lt k hk).1))
                                    have r4 : w4.cell? ⟨r, 2, none⟩ = some (.slice (some ⟨b5, o5, none⟩) n d5) := (hkeep.out _ hbC.out).1
                                    have q4 := fq4.out _ hbC.out
                                    clear hg4 hat4
                                    refine hK.out _ _ (fun _ => hkeep.out _ hbC.out) ?_
                                    clear hK K
                                    (try simp only [Act.put, List.setIfInBounds_toArray, List.set_cons_zero, List.set_cons_succ, List.getElem_toArray, List.getElem_cons_zero, List.getElem_cons_succ])
                                    refine wpAnyE_take [24, 25] (i := 23) (v := ?v69) rfl (by kernel_rfl) (by kernel_rfl) (by kernel_rfl) (by rfl) (by kernel_rfl) (by kernel_rfl) (fun _ _ _ h => h) (Or.inl ⟨by rfl, ?hy69⟩) (hkeep.out _ hbC.out) ?rest69
                                    case hy69 => intro w hSw; (try dsimp only at hSw); go_simp; try with_reducible rfl
                                    (try simp only [Act.put, List.setIfInBounds_toArray, List.set_cons_zero, List.set_cons_succ, List.getElem_toArray, List.getElem_cons_zero, List.getElem_cons_succ])
                                    refine wpAnyE_take [25] (i := 24) (v := ?v70) rfl (by kernel_rfl) (by kernel_rfl) (by kernel_rfl) (by rfl) (by kernel_rfl) (by kernel_rfl) (fun _ _ _ h => h) (Or.inl ⟨by rfl, ?hy70⟩) (hkeep.out _ hbC.out) ?rest70
                                    case hy70 => intro w hSw; (try dsimp only at hSw); go_simp; try with_reducible rfl
                                    (try simp only [Act.put, List.setIfInBounds_toArray, List.set_cons_zero, List.set_cons_succ, List.getElem_toArray, List.getElem_cons_zero, List.getElem_cons_succ])
                                    refine wpAnyE_ready (rs := [25]) (by kernel_rfl) (by simp) ?_
                                    refine AllReadyE.cons rfl (fun K hK => ?_) AllReadyE.nil
                                    go_simp
                                    refine hK.out _ _ (fun h => absurd rfl h) ?_
                                    clear hK K
                                    (try simp only [Act.put, List.setIfInBounds_toArray, List.set_cons_zero, List.set_cons_succ, List.getElem_toArray, List.getElem_cons_zero, List.getElem_cons_succ])
                                    refine wpAnyE_done (by kernel_rfl) ?_ _
                                    go_wp2_with fail
                                    go_roundw
                                    case rel => exact ⟨k + 1, _, by go_num, hlt, (hfin.out _ _ _ hbC.out hown4).1, (hfin.out _ _ _ hbC.out hown4).2.1, (hfin.out _ _ _ hbC.out hown4).2.2.1, (hfin.out _ _ _ hbC.out hown4).2.2.2⟩
                                    case measure => simp [intOf]; omega
                                · go_simp
                                  refine hK.out _ _ (fun _ => hkeep.out _ (((Below.refl _ w5).alloc (Nat.le_refl _) _).drew)) ?_
                                  clear hK K
                                  (try simp only [Act.put, List.setIfInBounds_toArray, List.set_cons_zero, List.set_cons_succ, List.getElem_toArray, List.getElem_cons_zero, List.getElem_cons_succ])
                                  refine wpAnyE_ready (rs := [1]) (by kernel_rfl) (by simp) ?_
                                  refine AllReadyE.cons rfl (fun K hK => ?_) AllReadyE.nil
                                  go_simp
                                  refine hK.out _ _ (fun _ => hkeep.out _ ((((Below.refl _ w5).alloc (Nat.le_refl _) _).drew).alloc (by simp) _)) ?_
                                  clear hK K
                                  (try simp only [Act.put, List.setIfInBounds_toArray, List.set_cons_zero, List.set_cons_succ, List.getElem_toArray, List.getElem_cons_zero, List.getElem_cons_succ])
                                  refine wpAnyE_ready (rs := [8]) (by kernel_rfl) (by simp) ?_
                                  refine AllReadyE.cons rfl (fun K hK => ?_) AllReadyE.nil
                                  refine step_append_rd _ rfl (.tmp 136) (.tmp 142) 62 rfl w5.heap.size 70 ip _ 4 48 Tryz.underlying62 hip hp0 hp1 hp2 rfl (by omega) (.slice (some ⟨w5.heap.size + 1, 0, none⟩) 0 0) 0 [] rfl ?_ (fun b => S' b ∧ b ≠ r) (some ⟨b5, o5, none⟩) p d5 (kvCells (M.take p)) rfl ?_ ?_ ?_ ?_ ?_ p (Nat.zero_add p) (kvCells (M.take p)) rfl ?_
                                  · exact own_base (by simp) (own_empty' (w5.alloc (.cells #[.string x, .int .i64 0, .int .i64 0, .string ⟨#[]⟩] 70)).drew _ 4 (w5.heap.size + 1) (by simp))
                                  · exact hpre.out.below_all ((((Below.refl _ w5).alloc (Nat.le_refl _) (.cells #[.string x, .int .i64 0, .int .i64 0, .string ⟨#[]⟩] 70)).drew).alloc (by simp) (.cells #[] 70))
                                  · exact kvCells_one _
                                  · simp only [maxLen]; omega
                                  · omega
                                  · exact below_sz ((((Below.refl _ w5).alloc (Nat.le_refl _) (.cells #[.string x, .int .i64 0, .int .i64 0, .string ⟨#[]⟩] 70)).drew).alloc (by simp) (.cells #[] 70))
                                  intro A2 c2 w2 hown2 hg2 hat2
                                  have hbA : Hid (Below w5.heap.size w5 w2) := hid (below_gr ((((Below.refl _ w5).alloc (Nat.le_refl _) (.cells #[.string x, .int .i64 0, .int .i64 0, .string ⟨#[]⟩] 70)).drew).alloc (by simp) (.cells #[] 70)) hg2 (fun k hk => by simp [Value.ownBlock] at hk; omega))
                                  have hI : Hid (Rd (fun b => b = w5.heap.size) w2 4 (some ⟨w5.heap.size, 0, none⟩) 1 (encI (x, vl0))) := hid (((Rd.new w5 70 4 1 (encI (x, vl0)).toArray w5.heap.size rfl rfl).drew.alloc (.cells #[] 70)).grown_ hg2 (fun b hb => by simp [Value.ownBlock, hb]))
                                  clear hg2 hat2
                                  refine hK.out _ _ (fun _ => hkeep.out _ hbA.out) ?_
                                  clear hK K
                                  (try simp only [Act.put, List.setIfInBounds_toArray, List.set_cons_zero, List.set_cons_succ, List.getElem_toArray, List.getElem_cons_zero, List.getElem_cons_succ])
                                  refine wpAnyE_ready (rs := [15]) (by kernel_rfl) (by simp) ?_
                                  refine AllReadyE.cons rfl (fun K hK => ?_) AllReadyE.nil
                                  refine step_append_rd _ rfl (.tmp 143) (.tmp 149) 62 rfl w5.heap.size 70 ip _ 4 48 Tryz.underlying62 hip hp0 hp1 hp2 rfl (by omega) (.slice A2 p c2) p (kvCells (M.take p)) rfl ?_ (fun b => b = w5.heap.size) (some ⟨w5.heap.size, 0, none⟩) 1 1 (encI (x, vl0)) rfl ?_ ?_ ?_ ?_ ?_ (p + 1) rfl (kvCells (M.take p) ++ encI (x, vl0)) rfl ?_
                                  · exact hown2
                                  · exact hI.out
                                  · exact encI_one _
                                  · simp only [maxLen]; omega
                                  · omega
                                  · exact below_sz hbA.out
                                  intro A3 c3 w3 hown3 hg3 hat3
                                  have hbB : Hid (Below w5.heap.size w5 w3) := hid (below_gr hbA.out hg3 (fun k hk => (hown2.lt k hk).1))
                                  clear hg3 hat3
                                  refine hK.out _ _ (fun _ => hkeep.out _ hbB.out) ?_
                                  clear hK K
                                  (try simp only [Act.put, List.setIfInBounds_toArray, List.set_cons_zero, List.set_cons_succ, List.getElem_toArray, List.getElem_cons_zero, List.getElem_cons_succ])
                                  refine wpAnyE_ready (rs := [22]) (by kernel_rfl) (by simp) ?_
                                  refine AllReadyE.cons rfl (fun K hK => ?_) AllReadyE.nil
                                  refine step_append_rd w3 rfl (.tmp 150) (.tmp 156) 62 rfl w5.heap.size 70 ip _ 4 48 Tryz.underlying62 hip hp0 hp1 hp2 rfl (by omega) (.slice A3 (p + 1) c3) (p + 1) (kvCells (M.take p) ++ encI (x, vl0)) rfl ?_ (fun b => S' b ∧ b ≠ r) (some ⟨b5, o5 + p * 4, none⟩) (n - p) (d5 - p) (kvCells (M.drop p)) rfl ?_ ?_ ?_ ?_ ?_ (n + 1) (by omega) (kvCells (M.take p) ++ encI (x, vl0) ++ kvCells (M.drop p)) rfl ?_
                                  · exact hown3
                                  · exact hsuf.out.below_all hbB.out
                                  · exact kvCells_one _
                                  · simp only [maxLen]; omega
                                  · omega
                                  · exact below_sz hbB.out
                                  intro A4 c4 w4 hown4 hg4 hat4
                                  have hbC : Hid (Below w5.heap.size w5 w4) := hid (below_gr hbB.out hg4 (fun k hk => (hown3.lt k hk).1))
                                  have r4 : w4.cell? ⟨r, 2, none⟩ = some (.slice (some ⟨b5, o5, none⟩) n d5) := (hkeep.out _ hbC.out).1
                                  have q4 := fq4.out _ hbC.out
                                  clear hg4 hat4
                                  refine hK.out _ _ (fun _ => hkeep.out _ hbC.out) ?_
                                  clear hK K
                                  (try simp only [Act.put, List.setIfInBounds_toArray, List.set_cons_zero, List.set_cons_succ, List.getElem_toArray, List.getElem_cons_zero, List.getElem_cons_succ])
                                  refine wpAnyE_take [24, 25] (i := 23) (v := ?v71) rfl (by kernel_rfl) (by kernel_rfl) (by kernel_rfl) (by rfl) (by kernel_rfl) (by kernel_rfl) (fun _ _ _ h => h) (Or.inl ⟨by rfl, ?hy71⟩) (hkeep.out _ hbC.out) ?rest71
                                  case hy71 => intro w hSw; (try dsimp only at hSw); go_simp; try with_reducible rfl
                                  (try simp only [Act.put, List.setIfInBounds_toArray, List.set_cons_zero, List.set_cons_succ, List.getElem_toArray, List.getElem_cons_zero, List.getElem_cons_succ])
                                  refine wpAnyE_take [25] (i := 24) (v := ?v72) rfl (by kernel_rfl) (by kernel_rfl) (by kernel_rfl) (by rfl) (by kernel_rfl) (by kernel_rfl) (fun _ _ _ h => h) (Or.inl ⟨by rfl, ?hy72⟩) (hkeep.out _ hbC.out) ?rest72
                                  case hy72 => intro w hSw; (try dsimp only at hSw); go_simp; try with_reducible rfl
                                  (try simp only [Act.put, List.setIfInBounds_toArray, List.set_cons_zero, List.set_cons_succ, List.getElem_toArray, List.getElem_cons_zero, List.getElem_cons_succ])
                                  refine wpAnyE_ready (rs := [25]) (by kernel_rfl) (by simp) ?_
                                  refine AllReadyE.cons rfl (fun K hK => ?_) AllReadyE.nil
                                  go_simp
                                  refine hK.out _ _ (fun h => absurd rfl h) ?_
                                  clear hK K
                                  (try simp only [Act.put, List.setIfInBounds_toArray, List.set_cons_zero, List.set_cons_succ, List.getElem_toArray, List.getElem_cons_zero, List.getElem_cons_succ])
                                  refine wpAnyE_done (by kernel_rfl) ?_ _
                                  go_wp2_with fail
                                  go_roundw
                                  case rel => exact ⟨k + 1, _, by go_num, hlt, (hfin.out _ _ _ hbC.out hown4).1, (hfin.out _ _ _ hbC.out hown4).2.1, (hfin.out _ _ _ hbC.out hown4).2.2.1, (hfin.out _ _ _ hbC.out hown4).2.2.2⟩
                                  case measure => simp [intOf]; omega
                        · obtain rfl : k = ks.length := by omega
                          have hfin : Hid (RGo S w r (claimS s ks) wr) := hid ⟨S', by
                            rw [claimS_yes he.out]
                            have := HP.out
                            rw [List.take_length] at this
                            exact this, HSS.out, HU.out.mono fun j _ h => h ▸ HIn.out⟩
                          clear HP
                          go_wp2_with fail
                          go_ret
                          exact ⟨by rw [he.out]; rfl, hfin.out⟩

end
end Go.Proofs.YtphglnenafdkaaaGreatDoor

