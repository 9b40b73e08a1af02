/- store: Claim. -/
import Derived.Test.YtnbbdjbjbjlcpaaDoorSClaimP
namespace Go.Proofs.YtnbbdjbjbjlcpaaDoor
open Go.RowKit
set_option linter.unusedVariables false
set_option linter.unusedSimpArgs false

section
variable {S : Nat → Prop} {w w' : World} {g : Nat} {s : St}
theorem claimed_b (k : ByteArray) (h : PAt S w g s) (hk : k.size ≤ 9223372036854775806) : Calls Tryd.prog 13 #[.pointer (some ⟨g, 0, none⟩), .string k] w fun e w' => e = .returned (.bool (hasK k s.L)) ∧ Below w.heap.size w w' :=
  (claimed_any k h hk).mono fun e w' ⟨h1, q, h2⟩ => ⟨h1, by rw [h2]; exact below_drewN (Below.refl _ _) q⟩
set_option maxRecDepth 100000 in
set_option maxHeartbeats 4000000 in
theorem claim_any {Sk : Nat → Prop} {A : Option Addr} {c : Nat} (ks : List ByteArray) (h : PAt S w g s) (hr : Rd Sk w 1 A ks.length (strs ks)) (hd : ∀ b, Sk b → ¬ S b) (hs : ∀ k ∈ ks, k.size ≤ 9223372036854775806) (hn : ks.length ≤ 1000000) :
    Calls Tryd.prog 11 #[.pointer (some ⟨g, 0, none⟩), .slice A ks.length c] w fun e w' => e = .returned (.int .i64 (claimE s ks)) ∧ PAt S w' g (claimS s ks) ∧ Upd S w w' := by
  obtain ⟨cb, cc, mb, vb, h⟩ := h
  have hcon := hid (contains_any (c := c) ks hr hs hn)
  have HH := hid h
  have HR := hid hr
  have HS := hid hs
  have hN : (ks.length : Int) ≤ 1000000 := by omega
  clear h hr hs hn
  go_enter Tryd.func11, Tryd.ntmps11
  go_wp2_with fail
  refine hcon.out.mono ?_
  rintro e w2 ⟨rfl, rfl⟩
  clear hcon
  cases hv0 : (ks.any fun k => !validK k) with
  | true =>
    have hfin : Hid (claimE s ks = 30 ∧ PAt S w2 g (claimS s ks)) := hid (by
      have he := claimE_key (s := s) hv0
      exact ⟨he, by rw [claimS_no (by rw [he]; decide)]; exact ⟨_, _, _, _, HH.out⟩⟩)
    clear hv0
    go_wp2_with fail
    go_ret
    exact ⟨by rw [hfin.out.1]; rfl, hfin.out.2, Upd.refl _ _⟩
  | false =>
  have hv := hid hv0
  clear hv0
  go_wp2_with fail
  go_loopw [5] (fun v wr => ∃ (k : Nat), v = .int .i64 k ∧ 1 ≤ k ∧ (k ≤ ks.length ∨ k = 1) ∧ Below w2.heap.size w2 wr ∧ ∀ j (hj : j + 1 < ks.length), j + 1 < k → ltB ks[j] ks[j + 1] = true) (fun v _ => ks.length - (intOf v).toNat)
  case atStart => exact ⟨1, rfl, Nat.le_refl _, .inr rfl, Below.refl _ _, fun j hj h => by omega⟩
  case round =>
    obtain ⟨k, rfl, hk1, hkn, hB0, ha0⟩ := hrel
    have hB := hid hB0
    have ha := hid ha0
    clear hB0 ha0
    by_cases hlt : k < ks.length
    · obtain ⟨j, hjk⟩ : ∃ j, j + 1 = k := ⟨k - 1, by omega⟩
      have hj : j < ks.length := by omega
      have hR2 := HR.out.below_all hB.out
      obtain ⟨b, o, rfl, _, _, hc1⟩ := rd_strs hR2 hj
      obtain ⟨b', o', e, _, _, hc2⟩ := rd_strs hR2 hlt
      injection e with e; injection e with e1 e2; subst e1; subst e2
      have i0 : (j : Int) < (ks.length : Int) := by omega
      have i1 : (k : Int) < (ks.length : Int) := by omega
      have x1 : IntKind.i64.wrap ((k : Int) - 1) = (j : Int) := by rw [IntKind.wrap_i64]; omega
      have hjk := hid hjk
      cases hl0 : ltB ks[j] ks[k] with
      | true =>
        have hl : Op.bytesLess (ks[j]).toList (ks[k]).toList = true := hl0
        have hl1 := hid hl0
        clear hl0 hR2 hk1 hkn
        go_wp2_with fail
        go_quiet (fail)
        go_wp2_with fail
        go_roundw
        case rel => exact ⟨k + 1, by go_num, by omega, .inl hlt, below_drewN hB.out _, fun i hi hik => by
          have e := hjk.out
          by_cases e2 : i = j
          · subst e2
            have := hl1.out
            simp only [← e] at this
            exact this
          · exact ha.out i hi (by omega)⟩
        case measure => simp [intOf]; omega
      | false =>
        have hl : Op.bytesLess (ks[j]).toList (ks[k]).toList = false := hl0
        have hfin : Hid (claimE s ks = 40 ∧ ∀ w', Below w2.heap.size w2 w' → PAt S w' g (claimS s ks)) := hid (by
          have e := hjk.out
          have hr : riseB ks = false := rise_no (k := j) (by omega) (by subst e; exact hl0)
          have he := claimE_rise (s := s) hv.out hr
          exact ⟨he, fun w' hb => by rw [claimS_no (by rw [he]; decide)]; exact ⟨_, _, _, _, HH.out.below hb⟩⟩)
        clear hl0 hR2 hk1 hkn
        go_wp2_with fail
        go_quiet (fail)
        go_wp2_with fail
        go_ret
        exact ⟨by rw [hfin.out.1]; rfl, hfin.out.2 _ (below_drewN hB.out _), .of_below (below_drewN hB.out _) fun k hk h => by omega⟩
    · have hrise := hid (rise_yes fun j hj => ha.out j hj (by omega))
      clear ha hk1 hkn
      have c1 : wr.cell? ⟨g, 1, none⟩ = some (.slice (some ⟨cb, 0, none⟩) s.parts cc) := (HH.out.below hB.out).cells.2.1
      have hmk := make_parts s.parts HH.out.ok.parts.2 wr
      go_upto_region 11 with fail
      have hm0 := IArr.new wr s.parts
      have hB2 : Below w2.heap.size w2 (wr.alloc (.cells (madeCells #[.int .i64 0] s.parts) 3)) := hB.out.alloc hB.out.size _
      have hml : w2.heap.size ≤ wr.heap.size := hB.out.size
      generalize wr.alloc (.cells (madeCells #[.int .i64 0] s.parts) 3) = w3 at *
      generalize wr.heap.size = m at *
      have HM := hid hm0
      have HB3 := hid hB2
      have HL := hid hml
      clear hm0 hB2 hml hmk c1 hB hlt
      go_wp2_with fail
      go_loopw [41] (fun v wr => ∃ (k : Nat), v = .int .i64 k ∧ k ≤ ks.length ∧ IArr wr m s.parts (fun p => (ks.take k).countP fun x => !hasK x s.L && decide (partK s.parts x = p)) ∧ Below w2.heap.size w2 wr) (fun v _ => ks.length - (intOf v).toNat)
      case atStart => exact ⟨0, rfl, Nat.zero_le _, HM.out.congr fun j hj => by simp, HB3.out⟩
      case round =>
        clear HM HB3
        obtain ⟨k, rfl, hk, hm0, hB0⟩ := hrel
        have HM := hid hm0
        have HB := hid hB0
        clear hm0 hB0
        by_cases hlt : k < ks.length
        · have i1 : (k : Int) < (ks.length : Int) := by omega
          obtain ⟨b, o, rfl, _, _, hc1⟩ := rd_strs (HR.out.below_all HB.out) hlt
          have hcl := hid (claimed_b ks[k] ⟨_, _, _, _, HH.out.below HB.out⟩ (HS.out _ (List.getElem_mem hlt)))
          have hpa := hid fun w => part_any ks[k] s.parts w (HS.out _ (List.getElem_mem hlt)) HH.out.ok.parts.1 HH.out.ok.parts.2
          have htk := hid (take_snoc hlt)
          obtain ⟨x, hx⟩ : ∃ x, x = ks[k] := ⟨_, rfl⟩
          rw [← hx] at hc1 hcl hpa htk
          clear hx
          go_wp2_with fail
          refine hcl.out.mono ?_
          rintro e w5 ⟨rfl, hb50⟩
          have HM5 := hid (HM.out.below hb50)
          have HB5 := hid (HB.out.trans (hb50.mono HB.out.size))
          clear hb50 HM HB hcl hc1
          cases hh0 : hasK x s.L with
          | true =>
            have hh := hid hh0
            clear hh0
            go_wp2_with fail
            go_roundw
            case rel => exact ⟨k + 1, by go_num, hlt, HM5.out.congr fun j hj => by rw [htk.out, List.countP_append]; simp [hh.out], HB5.out⟩
            case measure => simp [intOf]; omega
          | false =>
            have hpl := partK_lt x (show 0 < s.parts by have := HH.out.ok.parts; omega)
            have hh := hid hh0
            have c1 : w5.cell? ⟨g, 1, none⟩ = some (.slice (some ⟨cb, 0, none⟩) s.parts cc) := (HH.out.below HB5.out).cells.2.1
            have cf := HM5.out.frozen
            have cp := HM5.out.cell hpl
            have hml := HM5.out.lt
            have hpi : ((partK s.parts x : Nat) : Int) < (s.parts : Int) := by omega
            have hle : (((ks.take k).countP fun y => !hasK y s.L && decide (partK s.parts y = partK s.parts x) : Nat) : Int) ≤ 1000000 := by
              have h1 := List.countP_le_length (p := fun y => !hasK y s.L && decide (partK s.parts y = partK s.parts x)) (l := ks.take k)
              have h2 : (ks.take k).length ≤ ks.length := by simp; omega
              omega
            have hset := hid (fun n => HM5.out.set hpl n)
            obtain ⟨p, hp⟩ : ∃ p, p = partK s.parts x := ⟨_, rfl⟩
            rw [← hp] at cp hpi hle hset hpl
            simp only [← hp] at hpa
            obtain ⟨n, hn⟩ : ∃ n, n = (ks.take k).countP fun y => !hasK y s.L && decide (partK s.parts y = p) := ⟨_, rfl⟩
            rw [← hn] at cp hle
            have x1 : IntKind.i64.wrap ((n : Int) + 1) = (n : Int) + 1 := by rw [IntKind.wrap_i64]; omega
            have hnn := hid hn
            have hpp := hid hp
            have hpl := hid hpl
            clear hn hp hh0 hle hpl
            go_wp2_with fail
            refine (hpa.out _).mono ?_
            rintro e w6 ⟨rfl, rfl⟩
            go_wp2_with fail
            go_roundw
            case rel =>
              refine ⟨k + 1, by go_num, hlt, ?_, HB5.out.setCell (p := ⟨m, p, none⟩) HL.out _⟩
              have := hset.out (n + 1)
              rw [show ((n + 1 : Nat) : Int) = (n : Int) + 1 by omega] at this
              refine this.congr fun j hj => ?_
              rw [htk.out, List.countP_append]
              by_cases e : j = p
              · subst e; rw [if_pos rfl, hnn.out]; simp [hh.out, hpp.out]
              · have : ¬ partK s.parts x = j := fun h => e (by rw [hpp.out, h])
                rw [if_neg e]; simp [this]
            case measure => simp [intOf]; omega
        · obtain rfl : k = ks.length := by omega
          have HM3 : Hid (IArr wr m s.parts (moreK s ks)) := hid (HM.out.congr fun p hp => by simp only [List.take_length]; rfl)
          clear HM
          go_wp2_with fail
          go_loopw [64] (fun v wr => ∃ (k : Nat), v = .int .i64 k ∧ k ≤ s.parts ∧ IArr wr m s.parts (moreK s ks) ∧ Below w2.heap.size w2 wr ∧ ∀ p, p < k → ¬ (0 < moreK s ks p ∧ s.room < cntP s.parts p s.L + moreK s ks p)) (fun v _ => s.parts - (intOf v).toNat)
          case atStart => exact ⟨0, rfl, Nat.zero_le _, HM3.out, HB.out, fun p hp => by omega⟩
          case round =>
            clear HM3 HB hlt hk
            obtain ⟨k, rfl, hk, hm0, hB0, hf0⟩ := hrel
            have HM := hid hm0
            have HB := hid hB0
            have HF := hid hf0
            clear hm0 hB0 hf0
            have hparts : (s.parts : Int) ≤ 64 := by have := HH.out.ok.parts.2; omega
            by_cases hlt : k < s.parts
            · have i1 : (k : Int) < (s.parts : Int) := by omega
              have hP := HH.out.below HB.out
              obtain ⟨c0, c1, _⟩ := hP.cells
              have r1 := hP.rowc k hlt
              have cp := HM.out.cell hlt
              have hsz : ∀ q ty, (Builtin.len_ #[60] ty #[.map (some (mb k))]).run Tryd.prog (wr.drewN q) = .ok (.int .i64 (cntP s.parts k s.L)) (wr.drewN q) := fun q ty => (hP.drewN q).size k hlt ty
              have hsz0 := hsz 0
              have hcn := HH.out.ok.cnt k hlt
              have hrm := HH.out.ok.room
              have hmle : moreK s ks k ≤ ks.length := List.countP_le_length
              have e1 := hid (show moreK s ks k = moreK s ks k from rfl)
              obtain ⟨n, hn⟩ : ∃ n, n = moreK s ks k := ⟨_, rfl⟩
              obtain ⟨d, hd'⟩ : ∃ d, d = cntP s.parts k s.L := ⟨_, rfl⟩
              rw [← hn] at cp hmle
              rw [← hd'] at hsz0 hcn
              simp only [← hd'] at hsz
              have x1 : IntKind.i64.wrap ((d : Int) + (n : Int)) = (d : Int) + (n : Int) := by rw [IntKind.wrap_i64]; omega
              have hnn := hid hn
              have hdd := hid hd'
              have hmm := hid hmle
              by_cases hn0 : 0 < n
              · have t1 : decide ((0 : Int) < (n : Int)) = true := decide_eq_true (by omega)
                have t1n : decide (0 < n) = true := decide_eq_true hn0
                by_cases hfl : s.room < d + n
                · have t2 : decide ((s.room : Int) < (d : Int) + (n : Int)) = true := decide_eq_true (by omega)
                  have t2n : decide (s.room < d + n) = true := decide_eq_true hfl
                  have hfin : Hid (claimE s ks = 5 ∧ ∀ w', Below w2.heap.size w2 w' → PAt S w' g (claimS s ks)) := hid (by
                    have he := claimE_full (s := s) hv.out hrise.out hlt (by rw [← hn]; exact hn0) (by rw [← hn, ← hd']; exact hfl)
                    exact ⟨he, fun w' hb => by rw [claimS_no (by rw [he]; decide)]; exact ⟨_, _, _, _, HH.out.below hb⟩⟩)
                  clear hP hn hd' hcn hrm hmle hn0 hfl
                  go_wp2_with fail
                  go_quiet (fail)
                  go_wp2_with fail
                  go_ret
                  exact ⟨by rw [hfin.out.1]; rfl, hfin.out.2 _ (below_drewN HB.out _), .of_below (below_drewN HB.out _) fun k hk h => by omega⟩
                · have t2 : decide ((s.room : Int) < (d : Int) + (n : Int)) = false := decide_eq_false (by omega)
                  have t2n : decide (s.room < d + n) = false := decide_eq_false hfl
                  have hno := hid hfl
                  clear hP hn hd' hcn hrm hmle hn0 hfl
                  go_wp2_with fail
                  go_quiet (fail)
                  go_wp2_with fail
                  go_roundw
                  case rel =>
                    refine ⟨k + 1, by go_num, hlt, HM.out.below (below_drewN (Below.refl _ _) _), below_drewN HB.out _, fun p hp => ?_⟩
                    by_cases e : p = k
                    · subst e; rw [← hnn.out, ← hdd.out]; exact fun h => hno.out h.2
                    · exact HF.out p (by omega)
                  case measure => simp [intOf]; omega
              · have t1 : decide ((0 : Int) < (n : Int)) = false := decide_eq_false (by omega)
                have t1n : decide (0 < n) = false := decide_eq_false hn0
                have hno := hid hn0
                clear hP hn hd' hcn hrm hmle hn0 hsz hsz0
                go_wp2_with fail
                go_quiet (fail)
                go_wp2_with fail
                go_roundw
                case rel =>
                  refine ⟨k + 1, by go_num, hlt, HM.out.below (below_drewN (Below.refl _ _) _), below_drewN HB.out _, fun p hp => ?_⟩
                  by_cases e : p = k
                  · subst e; rw [← hnn.out]; exact fun h => hno.out h.1
                  · exact HF.out p (by omega)
                case measure => simp [intOf]; omega
            · obtain rfl : k = s.parts := by omega
              have he0 : claimE s ks = 0 := claimE_ok hv.out hrise.out fun p hp => HF.out p (by omega)
              have he := hid he0
              have HP := hid (HH.out.below HB.out)
              have HR2 := hid (HR.out.below_all HB.out)
              have HU : Hid (Upd S w2 wr) := hid (.of_below HB.out fun k hk h => by omega)
              clear he0 HF HM HH HR HB hlt hk hparts
              go_wp2_with fail
              go_loopw [91] (fun v wr => ∃ (k : Nat), v = .int .i64 k ∧ k ≤ ks.length ∧ PIn S wr g { s with L := insAll s.L (ks.take k) } cb cc mb vb ∧ Rd Sk wr 1 A ks.length (strs ks) ∧ Upd S w2 wr) (fun v _ => ks.length - (intOf v).toNat)
              case atStart => exact ⟨0, rfl, Nat.zero_le _, HP.out, HR2.out, HU.out⟩
              case round =>
                have HOk := hid (pre_ok HP.out.ok he.out)
                clear HP HR2 HU
                obtain ⟨k, rfl, hk, hp0, hr0, hu0⟩ := hrel
                have HP := hid hp0
                have HR := hid hr0
                have HU := hid hu0
                clear hp0 hr0 hu0
                by_cases hlt : k < ks.length
                · have i1 : (k : Int) < (ks.length : Int) := by omega
                  obtain ⟨b, o, rfl, _, _, hc1⟩ := rd_strs HR.out hlt
                  have hof := hid (of_any ks[k] HP.out (HS.out _ (List.getElem_mem hlt)))
                  have htk := hid (take_snoc hlt)
                  obtain ⟨x, hx⟩ : ∃ x, x = ks[k] := ⟨_, rfl⟩
                  rw [← hx] at hc1 hof htk
                  clear hx
                  go_wp2_with fail
                  refine hof.out.mono ?_
                  rintro e w5 ⟨rfl, q, hq⟩
                  have HP5 : Hid (PIn S w5 g { s with L := insAll s.L (ks.take k) } cb cc mb vb) := hid (by rw [hq]; exact HP.out.drewN q)
                  have HR5 : Hid (Rd Sk w5 1 (some ⟨b, o, none⟩) ks.length (strs ks)) := hid (by rw [hq]; exact HR.out.drewN q)
                  have HU5 : Hid (Upd S w2 w5) := hid (by rw [hq]; exact HU.out.drewN q)
                  clear HP HR HU hof hc1 hq
                  have hpl := partK_lt x (show 0 < s.parts by have := HP5.out.ok.parts.1; exact this)
                  obtain ⟨w6, hmu0, hm6, hg6, _⟩ := (HP5.out.cl (partK s.parts x) hpl).update Tryd.underlying60 x (.int .i64 1)
                  have hmu : (Instr.mapUpdate 60 (.map (some (mb (partK s.parts x)))) (.string x) (.int .i64 1)).run Tryd.prog w5 = .ok () w6 := hmu0
                  have hok2 := HOk.out (k + 1)
                  rw [htk.out, insAll_snoc] at hok2
                  obtain ⟨hP6, hU6⟩ := HP5.out.ins (k := x) rfl hg6 hm6 hok2
                  have HP6 := hid hP6
                  have HU6 := hid (HU5.out.trans hU6 fun _ _ h => h)
                  have HR6 := hid (HR5.out.upd hU6 hd)
                  clear hP6 hU6 hg6 hm6 hok2 hmu0 hpl HP5 HU5 HR5
                  go_wp2_with fail
                  go_roundw
                  case rel => exact ⟨k + 1, by go_num, hlt, by rw [htk.out, insAll_snoc]; exact HP6.out, HR6.out, HU6.out⟩
                  case measure => simp [intOf]; omega
                · obtain rfl : k = ks.length := by omega
                  have hfin : Hid (claimE s ks = 0 ∧ PAt S wr g (claimS s ks)) := hid ⟨he.out, by
                    rw [claimS_yes he.out]
                    have := HP.out
                    rw [List.take_length] at this
                    exact ⟨_, _, _, _, this⟩⟩
                  clear HP
                  go_wp2_with fail
                  go_ret
                  exact ⟨by rw [hfin.out.1]; rfl, hfin.out.2, HU.out⟩
end
end Go.Proofs.YtnbbdjbjbjlcpaaDoor
