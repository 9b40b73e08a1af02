/- Texts of the proof, joined: SClaim, KValid, SMay, SApply, SShelf, SSort, YPl, SKeysP, WShelf, SKeysS, SDump, SNew, SView. -/
import Derived.Test.YtefigpmkiemfhaaDoorN04
import Derived.Shelf.SlSortCmp.WholeK
import Derived.Shelf.SlGeneric
import Derived.Ground.SlsfProg
import Derived.Test.YtefigpmkiemfhaaDoorProg
import Derived.Shelf.Small.Bits
import Derived.Shelf.Small.Strs
import Derived.Shelf.Strconv.Itoa0
import Derived.Shelf.Strconv.Itoa1
import Derived.Shelf.LaysM
import Derived.Shelf.Strconv.Itoa2
import Derived.Shelf.Strconv.Itoa3
import Derived.Shelf.Strconv.Itoa4
import Derived.Shelf.Bytes.Len
import Derived.Shelf.Bytes.TryGrow
import Derived.Shelf.Bytes.GrowSliceCatch
import Derived.Shelf.Bytes.GrowSlice
import Derived.Shelf.Bytes.Bytes
import Derived.Shelf.Strings.Search1
import Derived.Shelf.Bytes.GrowRow0Kept
import Derived.Shelf.Bytes.GrowRowKept
import Derived.Shelf.Bytes.GrowNilKept
import Derived.Shelf.Bytes.GrowKept
import Derived.Shelf.Bytes.WriteStringKept
import Derived.Shelf.Sort.Plain
import Derived.Shelf.Bytes.ResetKept
import Derived.Shelf.Bytes.BufferK
import Derived.Shelf.Slices.In.SortNone
import Derived.Ground.SlgfProg
import Derived.Shelf.SlicesE.IndexFunc
import Derived.Shelf.SlSortCmp.NoneTotal
namespace Go.Proofs.YtefigpmkiemfhaaDoor
open Go.RowKit
set_option linter.unusedVariables false
set_option linter.unusedSimpArgs false

section
variable {S : Nat → Prop} {w w' : World} {g : Nat} {s : St}
theorem claimed_b (k : ByteArray) (h : PAt S w g s) (hk : k.size ≤ 9223372036854775806) : Calls Tryd.prog 40 #[.pointer (some ⟨g, 0, none⟩), .string k] w fun e w' => e = .returned (.bool (hasK k s.L)) ∧ Below w.heap.size w w' :=
  (claimed_any k h hk).mono fun e w' ⟨h1, q, h2⟩ => ⟨h1, by rw [h2]; exact below_drewN (Below.refl _ _) q⟩
set_option maxRecDepth 100000 in
set_option maxHeartbeats 4000000 in
theorem claim_any {Sk : Nat → Prop} {A : Option Addr} {c : Nat} (ks : List ByteArray) (h : PAt S w g s) (hr : Rd Sk w 1 A ks.length (strs ks)) (hd : ∀ b, Sk b → ¬ S b) (hs : ∀ k ∈ ks, k.size ≤ 9223372036854775806) (hn : ks.length ≤ 1000000) :
    Calls Tryd.prog 21 #[.pointer (some ⟨g, 0, none⟩), .slice A ks.length c] w fun e w' => e = .returned (.int .i64 (claimE s ks)) ∧ PAt S w' g (claimS s ks) ∧ Upd S w w' := by
  obtain ⟨cb, cc, mb, vb, h⟩ := h
  have hcon := hid (contains_any (c := c) ks hr hs hn)
  have HH := hid h
  have HR := hid hr
  have HS := hid hs
  have hN : (ks.length : Int) ≤ 1000000 := by omega
  clear h hr hs hn
  go_enter Tryd.func21, Tryd.ntmps21
  go_wp2_with fail
  refine hcon.out.mono ?_
  rintro e w2 ⟨rfl, rfl⟩
  clear hcon
  cases hv0 : (ks.any fun k => !validK k) with
  | true =>
    have hfin : Hid (claimE s ks = 30 ∧ PAt S w2 g (claimS s ks)) := hid (by
      have he := claimE_key (s := s) hv0
      exact ⟨he, by rw [claimS_no (by rw [he]; decide)]; exact ⟨_, _, _, _, HH.out⟩⟩)
    clear hv0
    go_wp2_with fail
    go_ret
    exact ⟨by rw [hfin.out.1]; rfl, hfin.out.2, Upd.refl _ _⟩
  | false =>
  have hv := hid hv0
  clear hv0
  go_wp2_with fail
  go_loopw [5] (fun v wr => ∃ (k : Nat), v = .int .i64 k ∧ 1 ≤ k ∧ (k ≤ ks.length ∨ k = 1) ∧ Below w2.heap.size w2 wr ∧ ∀ j (hj : j + 1 < ks.length), j + 1 < k → ltB ks[j] ks[j + 1] = true) (fun v _ => ks.length - (intOf v).toNat)
  case atStart => exact ⟨1, rfl, Nat.le_refl _, .inr rfl, Below.refl _ _, fun j hj h => by omega⟩
  case round =>
    obtain ⟨k, rfl, hk1, hkn, hB0, ha0⟩ := hrel
    have hB := hid hB0
    have ha := hid ha0
    clear hB0 ha0
    by_cases hlt : k < ks.length
    · obtain ⟨j, hjk⟩ : ∃ j, j + 1 = k := ⟨k - 1, by omega⟩
      have hj : j < ks.length := by omega
      have hR2 := HR.out.below_all hB.out
      obtain ⟨b, o, rfl, _, _, hc1⟩ := rd_strs hR2 hj
      obtain ⟨b', o', e, _, _, hc2⟩ := rd_strs hR2 hlt
      injection e with e; injection e with e1 e2; subst e1; subst e2
      have i0 : (j : Int) < (ks.length : Int) := by omega
      have i1 : (k : Int) < (ks.length : Int) := by omega
      have x1 : IntKind.i64.wrap ((k : Int) - 1) = (j : Int) := by rw [IntKind.wrap_i64]; omega
      have hjk := hid hjk
      cases hl0 : ltB ks[j] ks[k] with
      | true =>
        have hl : Op.bytesLess (ks[j]).toList (ks[k]).toList = true := hl0
        have hl1 := hid hl0
        clear hl0 hR2 hk1 hkn
        go_wp2_with fail
        go_quiet (fail)
        go_wp2_with fail
        go_roundw
        case rel => exact ⟨k + 1, by go_num, by omega, .inl hlt, below_drewN hB.out _, fun i hi hik => by
          have e := hjk.out
          by_cases e2 : i = j
          · subst e2
            have := hl1.out
            simp only [← e] at this
            exact this
          · exact ha.out i hi (by omega)⟩
        case measure => simp [intOf]; omega
      | false =>
        have hl : Op.bytesLess (ks[j]).toList (ks[k]).toList = false := hl0
        have hfin : Hid (claimE s ks = 40 ∧ ∀ w', Below w2.heap.size w2 w' → PAt S w' g (claimS s ks)) := hid (by
          have e := hjk.out
          have hr : riseB ks = false := rise_no (k := j) (by omega) (by subst e; exact hl0)
          have he := claimE_rise (s := s) hv.out hr
          exact ⟨he, fun w' hb => by rw [claimS_no (by rw [he]; decide)]; exact ⟨_, _, _, _, HH.out.below hb⟩⟩)
        clear hl0 hR2 hk1 hkn
        go_wp2_with fail
        go_quiet (fail)
        go_wp2_with fail
        go_ret
        exact ⟨by rw [hfin.out.1]; rfl, hfin.out.2 _ (below_drewN hB.out _), .of_below (below_drewN hB.out _) fun k hk h => by omega⟩
    · have hrise := hid (rise_yes fun j hj => ha.out j hj (by omega))
      clear ha hk1 hkn
      have c1 : wr.cell? ⟨g, 1, none⟩ = some (.slice (some ⟨cb, 0, none⟩) s.parts cc) := (HH.out.below hB.out).cells.2.1
      have hmk := make_parts s.parts HH.out.ok.parts.2 wr
      go_upto_region 11 with fail
      have hm0 := IArr.new wr s.parts
      have hB2 : Below w2.heap.size w2 (wr.alloc (.cells (madeCells #[.int .i64 0] s.parts) 3)) := hB.out.alloc hB.out.size _
      have hml : w2.heap.size ≤ wr.heap.size := hB.out.size
      generalize wr.alloc (.cells (madeCells #[.int .i64 0] s.parts) 3) = w3 at *
      generalize wr.heap.size = m at *
      have HM := hid hm0
      have HB3 := hid hB2
      have HL := hid hml
      clear hm0 hB2 hml hmk c1 hB hlt
      go_wp2_with fail
      go_loopw [41] (fun v wr => ∃ (k : Nat), v = .int .i64 k ∧ k ≤ ks.length ∧ IArr wr m s.parts (fun p => (ks.take k).countP fun x => !hasK x s.L && decide (partK s.parts x = p)) ∧ Below w2.heap.size w2 wr) (fun v _ => ks.length - (intOf v).toNat)
      case atStart => exact ⟨0, rfl, Nat.zero_le _, HM.out.congr fun j hj => by simp, HB3.out⟩
      case round =>
        clear HM HB3
        obtain ⟨k, rfl, hk, hm0, hB0⟩ := hrel
        have HM := hid hm0
        have HB := hid hB0
        clear hm0 hB0
        by_cases hlt : k < ks.length
        · have i1 : (k : Int) < (ks.length : Int) := by omega
          obtain ⟨b, o, rfl, _, _, hc1⟩ := rd_strs (HR.out.below_all HB.out) hlt
          have hcl := hid (claimed_b ks[k] ⟨_, _, _, _, HH.out.below HB.out⟩ (HS.out _ (List.getElem_mem hlt)))
          have hpa := hid fun w => part_any ks[k] s.parts w (HS.out _ (List.getElem_mem hlt)) HH.out.ok.parts.1 HH.out.ok.parts.2
          have htk := hid (take_snoc hlt)
          obtain ⟨x, hx⟩ : ∃ x, x = ks[k] := ⟨_, rfl⟩
          rw [← hx] at hc1 hcl hpa htk
          clear hx
          go_wp2_with fail
          refine hcl.out.mono ?_
          rintro e w5 ⟨rfl, hb50⟩
          have HM5 := hid (HM.out.below hb50)
          have HB5 := hid (HB.out.trans (hb50.mono HB.out.size))
          clear hb50 HM HB hcl hc1
          cases hh0 : hasK x s.L with
          | true =>
            have hh := hid hh0
            clear hh0
            go_wp2_with fail
            go_roundw
            case rel => exact ⟨k + 1, by go_num, hlt, HM5.out.congr fun j hj => by rw [htk.out, List.countP_append]; simp [hh.out], HB5.out⟩
            case measure => simp [intOf]; omega
          | false =>
            have hpl := partK_lt x (show 0 < s.parts by have := HH.out.ok.parts; omega)
            have hh := hid hh0
            have c1 : w5.cell? ⟨g, 1, none⟩ = some (.slice (some ⟨cb, 0, none⟩) s.parts cc) := (HH.out.below HB5.out).cells.2.1
            have cf := HM5.out.frozen
            have cp := HM5.out.cell hpl
            have hml := HM5.out.lt
            have hpi : ((partK s.parts x : Nat) : Int) < (s.parts : Int) := by omega
            have hle : (((ks.take k).countP fun y => !hasK y s.L && decide (partK s.parts y = partK s.parts x) : Nat) : Int) ≤ 1000000 := by
              have h1 := List.countP_le_length (p := fun y => !hasK y s.L && decide (partK s.parts y = partK s.parts x)) (l := ks.take k)
              have h2 : (ks.take k).length ≤ ks.length := by simp; omega
              omega
            have hset := hid (fun n => HM5.out.set hpl n)
            obtain ⟨p, hp⟩ : ∃ p, p = partK s.parts x := ⟨_, rfl⟩
            rw [← hp] at cp hpi hle hset hpl
            simp only [← hp] at hpa
            obtain ⟨n, hn⟩ : ∃ n, n = (ks.take k).countP fun y => !hasK y s.L && decide (partK s.parts y = p) := ⟨_, rfl⟩
            rw [← hn] at cp hle
            have x1 : IntKind.i64.wrap ((n : Int) + 1) = (n : Int) + 1 := by rw [IntKind.wrap_i64]; omega
            have hnn := hid hn
            have hpp := hid hp
            have hpl := hid hpl
            clear hn hp hh0 hle hpl
            go_wp2_with fail
            refine (hpa.out _).mono ?_
            rintro e w6 ⟨rfl, rfl⟩
            go_wp2_with fail
            go_roundw
            case rel =>
              refine ⟨k + 1, by go_num, hlt, ?_, HB5.out.setCell (p := ⟨m, p, none⟩) HL.out _⟩
              have := hset.out (n + 1)
              rw [show ((n + 1 : Nat) : Int) = (n : Int) + 1 by omega] at this
              refine this.congr fun j hj => ?_
              rw [htk.out, List.countP_append]
              by_cases e : j = p
              · subst e; rw [if_pos rfl, hnn.out]; simp [hh.out, hpp.out]
              · have : ¬ partK s.parts x = j := fun h => e (by rw [hpp.out, h])
                rw [if_neg e]; simp [this]
            case measure => simp [intOf]; omega
        · obtain rfl : k = ks.length := by omega
          have HM3 : Hid (IArr wr m s.parts (moreK s ks)) := hid (HM.out.congr fun p hp => by simp only [List.take_length]; rfl)
          clear HM
          go_wp2_with fail
          go_loopw [64] (fun v wr => ∃ (k : Nat), v = .int .i64 k ∧ k ≤ s.parts ∧ IArr wr m s.parts (moreK s ks) ∧ Below w2.heap.size w2 wr ∧ ∀ p, p < k → ¬ (0 < moreK s ks p ∧ s.room < cntP s.parts p s.L + moreK s ks p)) (fun v _ => s.parts - (intOf v).toNat)
          case atStart => exact ⟨0, rfl, Nat.zero_le _, HM3.out, HB.out, fun p hp => by omega⟩
          case round =>
            clear HM3 HB hlt hk
            obtain ⟨k, rfl, hk, hm0, hB0, hf0⟩ := hrel
            have HM := hid hm0
            have HB := hid hB0
            have HF := hid hf0
            clear hm0 hB0 hf0
            have hparts : (s.parts : Int) ≤ 64 := by have := HH.out.ok.parts.2; omega
            by_cases hlt : k < s.parts
            · have i1 : (k : Int) < (s.parts : Int) := by omega
              have hP := HH.out.below HB.out
              obtain ⟨c0, c1, _⟩ := hP.cells
              have r1 := hP.rowc k hlt
              have cp := HM.out.cell hlt
              have hsz : ∀ q ty, (Builtin.len_ #[82] ty #[.map (some (mb k))]).run Tryd.prog (wr.drewN q) = .ok (.int .i64 (cntP s.parts k s.L)) (wr.drewN q) := fun q ty => (hP.drewN q).size k hlt ty
              have hsz0 := hsz 0
              have hcn := HH.out.ok.cnt k hlt
              have hrm := HH.out.ok.room
              have hmle : moreK s ks k ≤ ks.length := List.countP_le_length
              have e1 := hid (show moreK s ks k = moreK s ks k from rfl)
              obtain ⟨n, hn⟩ : ∃ n, n = moreK s ks k := ⟨_, rfl⟩
              obtain ⟨d, hd'⟩ : ∃ d, d = cntP s.parts k s.L := ⟨_, rfl⟩
              rw [← hn] at cp hmle
              rw [← hd'] at hsz0 hcn
              simp only [← hd'] at hsz
              have x1 : IntKind.i64.wrap ((d : Int) + (n : Int)) = (d : Int) + (n : Int) := by rw [IntKind.wrap_i64]; omega
              have hnn := hid hn
              have hdd := hid hd'
              have hmm := hid hmle
              by_cases hn0 : 0 < n
              · have t1 : decide ((0 : Int) < (n : Int)) = true := decide_eq_true (by omega)
                have t1n : decide (0 < n) = true := decide_eq_true hn0
                by_cases hfl : s.room < d + n
                · have t2 : decide ((s.room : Int) < (d : Int) + (n : Int)) = true := decide_eq_true (by omega)
                  have t2n : decide (s.room < d + n) = true := decide_eq_true hfl
                  have hfin : Hid (claimE s ks = 5 ∧ ∀ w', Below w2.heap.size w2 w' → PAt S w' g (claimS s ks)) := hid (by
                    have he := claimE_full (s := s) hv.out hrise.out hlt (by rw [← hn]; exact hn0) (by rw [← hn, ← hd']; exact hfl)
                    exact ⟨he, fun w' hb => by rw [claimS_no (by rw [he]; decide)]; exact ⟨_, _, _, _, HH.out.below hb⟩⟩)
                  clear hP hn hd' hcn hrm hmle hn0 hfl
                  go_wp2_with fail
                  go_quiet (fail)
                  go_wp2_with fail
                  go_ret
                  exact ⟨by rw [hfin.out.1]; rfl, hfin.out.2 _ (below_drewN HB.out _), .of_below (below_drewN HB.out _) fun k hk h => by omega⟩
                · have t2 : decide ((s.room : Int) < (d : Int) + (n : Int)) = false := decide_eq_false (by omega)
                  have t2n : decide (s.room < d + n) = false := decide_eq_false hfl
                  have hno := hid hfl
                  clear hP hn hd' hcn hrm hmle hn0 hfl
                  go_wp2_with fail
                  go_quiet (fail)
                  go_wp2_with fail
                  go_roundw
                  case rel =>
                    refine ⟨k + 1, by go_num, hlt, HM.out.below (below_drewN (Below.refl _ _) _), below_drewN HB.out _, fun p hp => ?_⟩
                    by_cases e : p = k
                    · subst e; rw [← hnn.out, ← hdd.out]; exact fun h => hno.out h.2
                    · exact HF.out p (by omega)
                  case measure => simp [intOf]; omega
              · have t1 : decide ((0 : Int) < (n : Int)) = false := decide_eq_false (by omega)
                have t1n : decide (0 < n) = false := decide_eq_false hn0
                have hno := hid hn0
                clear hP hn hd' hcn hrm hmle hn0 hsz hsz0
                go_wp2_with fail
                go_quiet (fail)
                go_wp2_with fail
                go_roundw
                case rel =>
                  refine ⟨k + 1, by go_num, hlt, HM.out.below (below_drewN (Below.refl _ _) _), below_drewN HB.out _, fun p hp => ?_⟩
                  by_cases e : p = k
                  · subst e; rw [← hnn.out]; exact fun h => hno.out h.1
                  · exact HF.out p (by omega)
                case measure => simp [intOf]; omega
            · obtain rfl : k = s.parts := by omega
              have he0 : claimE s ks = 0 := claimE_ok hv.out hrise.out fun p hp => HF.out p (by omega)
              have he := hid he0
              have HP := hid (HH.out.below HB.out)
              have HR2 := hid (HR.out.below_all HB.out)
              have HU : Hid (Upd S w2 wr) := hid (.of_below HB.out fun k hk h => by omega)
              clear he0 HF HM HH HR HB hlt hk hparts
              go_wp2_with fail
              go_loopw [91] (fun v wr => ∃ (k : Nat), v = .int .i64 k ∧ k ≤ ks.length ∧ PIn S wr g { s with L := insAll s.L (ks.take k) } cb cc mb vb ∧ Rd Sk wr 1 A ks.length (strs ks) ∧ Upd S w2 wr) (fun v _ => ks.length - (intOf v).toNat)
              case atStart => exact ⟨0, rfl, Nat.zero_le _, HP.out, HR2.out, HU.out⟩
              case round =>
                have HOk := hid (pre_ok HP.out.ok he.out)
                clear HP HR2 HU
                obtain ⟨k, rfl, hk, hp0, hr0, hu0⟩ := hrel
                have HP := hid hp0
                have HR := hid hr0
                have HU := hid hu0
                clear hp0 hr0 hu0
                by_cases hlt : k < ks.length
                · have i1 : (k : Int) < (ks.length : Int) := by omega
                  obtain ⟨b, o, rfl, _, _, hc1⟩ := rd_strs HR.out hlt
                  have hof := hid (of_any ks[k] HP.out (HS.out _ (List.getElem_mem hlt)))
                  have htk := hid (take_snoc hlt)
                  obtain ⟨x, hx⟩ : ∃ x, x = ks[k] := ⟨_, rfl⟩
                  rw [← hx] at hc1 hof htk
                  clear hx
                  go_wp2_with fail
                  refine hof.out.mono ?_
                  rintro e w5 ⟨rfl, q, hq⟩
                  have HP5 : Hid (PIn S w5 g { s with L := insAll s.L (ks.take k) } cb cc mb vb) := hid (by rw [hq]; exact HP.out.drewN q)
                  have HR5 : Hid (Rd Sk w5 1 (some ⟨b, o, none⟩) ks.length (strs ks)) := hid (by rw [hq]; exact HR.out.drewN q)
                  have HU5 : Hid (Upd S w2 w5) := hid (by rw [hq]; exact HU.out.drewN q)
                  clear HP HR HU hof hc1 hq
                  have hpl := partK_lt x (show 0 < s.parts by have := HP5.out.ok.parts.1; exact this)
                  obtain ⟨w6, hmu0, hm6, hg6, _⟩ := (HP5.out.cl (partK s.parts x) hpl).update Tryd.underlying82 x (.int .i64 1)
                  have hmu : (Instr.mapUpdate 82 (.map (some (mb (partK s.parts x)))) (.string x) (.int .i64 1)).run Tryd.prog w5 = .ok () w6 := hmu0
                  have hok2 := HOk.out (k + 1)
                  rw [htk.out, insAll_snoc] at hok2
                  obtain ⟨hP6, hU6⟩ := HP5.out.ins (k := x) rfl hg6 hm6 hok2
                  have HP6 := hid hP6
                  have HU6 := hid (HU5.out.trans hU6 fun _ _ h => h)
                  have HR6 := hid (HR5.out.upd hU6 hd)
                  clear hP6 hU6 hg6 hm6 hok2 hmu0 hpl HP5 HU5 HR5
                  go_wp2_with fail
                  go_roundw
                  case rel => exact ⟨k + 1, by go_num, hlt, by rw [htk.out, insAll_snoc]; exact HP6.out, HR6.out, HU6.out⟩
                  case measure => simp [intOf]; omega
                · obtain rfl : k = ks.length := by omega
                  have hfin : Hid (claimE s ks = 0 ∧ PAt S wr g (claimS s ks)) := hid ⟨he.out, by
                    rw [claimS_yes he.out]
                    have := HP.out
                    rw [List.take_length] at this
                    exact ⟨_, _, _, _, this⟩⟩
                  clear HP
                  go_wp2_with fail
                  go_ret
                  exact ⟨by rw [hfin.out.1]; rfl, hfin.out.2, HU.out⟩
end
end Go.Proofs.YtefigpmkiemfhaaDoor

namespace Go.Proofs.YtefigpmkiemfhaaDoor
open Go.RowKit
set_option linter.unusedVariables false
set_option linter.unusedSimpArgs false

theorem plain_any (c : Nat) (w : World) : Calls Tryd.prog 84 #[.int .u8 c] w fun e w' => e = .returned (.bool (decide (32 ≤ c) && decide (c ≤ 126))) ∧ w' = w := by
  by_cases h : 32 ≤ c
  · have t1 : decide ((32 : Int) ≤ (c : Int)) = true := decide_eq_true (by omega)
    have hc : Hid ((decide (32 ≤ c) && decide (c ≤ 126)) = decide ((c : Int) ≤ 126)) := hid (by rw [decide_eq_true h, Bool.true_and]; exact decide_eq_decide.2 (by omega))
    clear h
    go_enter Tryd.func84, Tryd.ntmps84
    go_wp2_with fail
    go_ret
    exact ⟨by rw [hc.out]; first | rfl | simp, rfl⟩
  · have t1 : decide ((32 : Int) ≤ (c : Int)) = false := decide_eq_false (by omega)
    have hc : Hid ((decide (32 ≤ c) && decide (c ≤ 126)) = false) := hid (by rw [decide_eq_false h, Bool.false_and])
    clear h
    go_enter Tryd.func84, Tryd.ntmps84
    go_wp2_with fail
    go_ret
    exact ⟨by rw [hc.out]; rfl, rfl⟩
theorem okT_at {s : ByteArray} {k : Nat} (h : k < s.size) (hb : okB (s.data[k]'h) = false) : okT s = false := by
  unfold okT
  rw [List.all_eq_false]
  exact ⟨s.data[k]'h, by rw [Array.mem_toList_iff]; exact Array.getElem_mem h, by rw [hb]; decide⟩
theorem okT_all {s : ByteArray} (h : ∀ k (hk : k < s.size), okB (s.data[k]'hk) = true) : okT s = true := by
  unfold okT
  rw [List.all_eq_true]
  intro c hc
  rw [Array.mem_toList_iff] at hc
  obtain ⟨k, hk, rfl⟩ := Array.mem_iff_getElem.1 hc
  exact h k hk
theorem mayB {F : FuncId} {s : ByteArray} {k : Nat} {w : World} {b : Bool} (hk : k < s.size) (hc : okB (s.data[k]'hk) = b) (h : Calls Tryd.prog F #[.int .u8 ((s[k]'hk).toNat : Nat)] w fun e w' => e = .returned (.bool (decide (32 ≤ (s[k]'hk).toNat) && decide ((s[k]'hk).toNat ≤ 126))) ∧ w' = w) :
    Calls Tryd.prog F #[.int .u8 ((s[k]'hk).toNat : Nat)] w fun e w' => e = .returned (.bool b) ∧ w' = w := by
  rwa [show (decide (32 ≤ (s[k]'hk).toNat) && decide ((s[k]'hk).toNat ≤ 126)) = b from hc] at h
set_option maxRecDepth 100000 in
theorem printable_any (s : ByteArray) (w : World) (hs : s.size ≤ 9223372036854775806) : Calls Tryd.prog 72 #[.string s] w fun e w' => e = .returned (.bool (okT s)) ∧ w' = w := by
  go_enter Tryd.func72, Tryd.ntmps72
  go_wp2_with fail
  go_loopw [6] (fun v wr => ∃ k : Nat, v = .int .i64 k ∧ k ≤ s.size ∧ wr = w ∧ ∀ j (hj : j < s.size), j < k → okB (s.data[j]'hj) = true) (fun v _ => s.size - (intOf v).toNat)
  case atStart => exact ⟨0, rfl, Nat.zero_le _, rfl, fun j _ h => by omega⟩
  case round =>
    obtain ⟨k, rfl, hk, rfl, ha0⟩ := hrel
    have ha := hid ha0
    clear ha0
    by_cases hlt : k < s.size
    · have i1 : (k : Int) < (s.size : Int) := by omega
      have hs9 : (s.size : Int) ≤ 9223372036854775806 := by omega
      cases hc : okB (s.data[k]'hlt) with
      | true =>
        have hpl := hid (mayB hlt hc (plain_any _ wr))
        have hc := hid hc
        go_wp2_with fail
        refine hpl.out.mono ?_
        rintro e w2 ⟨rfl, rfl⟩
        go_wp2_with fail
        go_roundw
        case rel => exact ⟨k + 1, by go_num, hlt, by first | rfl | trivial, fun j hj hjk => by
          by_cases e : j = k
          · subst e; exact hc.out
          · exact ha.out j hj (by omega)⟩
        case measure => simp [intOf]; omega
      | false =>
        have hpl := hid (mayB hlt hc (plain_any _ wr))
        have hfin : Hid (okT s = false) := hid (okT_at hlt hc)
        clear hc
        go_wp2_with fail
        refine hpl.out.mono ?_
        rintro e w2 ⟨rfl, rfl⟩
        go_wp2_with fail
        go_ret
        exact ⟨by rw [hfin.out]; rfl, by first | rfl | trivial⟩
    · obtain rfl : k = s.size := by omega
      have hfin : Hid (okT s = true) := hid (okT_all fun j hj => ha.out j hj hj)
      go_wp2_with fail
      go_ret
      exact ⟨by rw [hfin.out]; rfl, by first | rfl | trivial⟩
theorem run_eqVal (a b : Vl) (w : World) :
    (Op.equalIn 10000 47 (.agg #[.int .i64 a.k, .int .i64 a.n, .string a.s]) (.agg #[.int .i64 b.k, .int .i64 b.n, .string b.s])).run Tryd.prog w = .ok (decide (a = b)) w := by
  have ht : Tryd.prog.underlying 47 = some (.struct (Tryd.prog.fieldsOf 47)) := by kernel_rfl
  have hp : Tryd.prog.stoodInHeld 47 = false := by kernel_rfl
  rw [run_equalIn_agg w 9999 _ _ _ ht hp]
  have e : decide (a = b) = (a.k == b.k && (a.n == b.n && (a.s.toList == b.s.toList))) := by
    rw [bytes_dec, Bool.eq_iff_iff]
    simp only [decide_eq_true_eq, Bool.and_eq_true, beq_iff_eq]
    exact ⟨fun e => by subst e; simp, fun ⟨h1, h2, h3⟩ => by cases a; cases b; simp_all⟩
  rw [e]
  clear ht hp e
  simp only [Program.fieldsOf, Tryd.underlying47]
  go_simp
  by_cases h1 : a.k = b.k <;> by_cases h2 : a.n = b.n <;> by_cases h3 : a.s.toList = b.s.toList <;> simp [h1, h2, h3]
theorem guardVal : Tryd.prog.eqGuardType Tryd.prog.depth 47 = false := by kernel_rfl
theorem eql_zero (k n : Int) (s : ByteArray) (w : World) : (binOp .eql 47 (.agg #[.int .i64 k, .int .i64 n, .string s]) (.agg #[.int .i64 0, .int .i64 0, .string ⟨#[]⟩])).run Tryd.prog w = .ok (.bool (decide ((⟨k, n, s⟩ : Vl) = vl0))) w := by
  have h := run_eqVal ⟨k, n, s⟩ vl0 w
  have e : vl0 = ⟨0, 0, ⟨#[]⟩⟩ := rfl
  rw [e] at h ⊢
  simp only at h
  rw [run_eql_struct, h]
  simp only [Result.andThen]
theorem ok_none (n : Int) (s : ByteArray) : Vl.ok ⟨0, n, s⟩ = decide ((⟨0, n, s⟩ : Vl) = vl0) := by
  unfold Vl.ok vl0
  rw [if_pos rfl, Bool.eq_iff_iff]
  simp
theorem str_nil {s : ByteArray} (h : s ≠ ⟨#[]⟩) : (s.toList == (⟨#[]⟩ : ByteArray).toList) = false ∧ (s.toList == []) = false ∧ ¬ s.toList = [] := by
  have h1 : (s.toList == (⟨#[]⟩ : ByteArray).toList) = false := by rw [bytes_dec]; exact decide_eq_false h
  have h2 : (⟨#[]⟩ : ByteArray).toList = [] := by rw [ByteArray.toList_eq]
  rw [h2] at h1
  exact ⟨by rw [h2]; exact h1, h1, by simpa using h1⟩
set_option maxRecDepth 100000 in
theorem valid_any (v : Vl) (w : World) (hs : v.s.size ≤ 9223372036854775806) : Calls Tryd.prog 56 #[.agg #[.int .i64 v.k, .int .i64 v.n, .string v.s]] w fun e w' => e = .returned (.bool v.ok) ∧ Below w.heap.size w w' := by
  obtain ⟨k, n, s⟩ := v
  have hgd := guardVal
  simp only at hs
  have hB : Hid (Below w.heap.size w (w.alloc (.cells #[.int .i64 k, .int .i64 n, .string s] 47))) := hid ((Below.refl _ _).alloc (Nat.le_refl _) _)
  have kb := Blk.new w 47 #[.int .i64 k, .int .i64 n, .string s]
  have x0 := kb.cell 0
  have x1 := kb.cell 1
  have x2 := kb.cell 2
  simp only [List.getElem?_toArray, List.getElem?_cons_zero, List.getElem?_cons_succ] at x0 x1 x2
  have hs9 := hid hs
  clear kb hs
  by_cases hk0 : k = 0
  · subst hk0
    have hz := eql_zero 0 n s
    have hok := hid (ok_none n s)
    generalize decide ((⟨0, n, s⟩ : Vl) = vl0) = b at *
    go_enter Tryd.func56, Tryd.ntmps56
    go_upto_region 1 with fail
    generalize w.alloc (.cells #[.int .i64 0, .int .i64 n, .string s] 47) = w1 at *
    go_wp2_with fail
    go_ret
    exact ⟨by rw [hok.out]; rfl, hB.out⟩
  have n0 : (k == 0) = false := by simpa using hk0
  by_cases hk1 : k = 1
  · subst hk1
    by_cases he : s = ⟨#[]⟩
    · subst he
      have hok : Hid (Vl.ok ⟨1, n, ⟨#[]⟩⟩ = true) := hid rfl
      go_enter Tryd.func56, Tryd.ntmps56
      go_upto_region 1 with fail
      generalize w.alloc (.cells #[.int .i64 1, .int .i64 n, .string ⟨#[]⟩] 47) = w1 at *
      go_wp2_with fail
      go_ret
      exact ⟨by rw [hok.out]; rfl, hB.out⟩
    · have hok : Hid (Vl.ok ⟨1, n, s⟩ = false) := hid (by unfold Vl.ok; simp only; rw [if_neg (by decide)]; simp only [if_true]; exact decide_eq_false he)
      obtain ⟨e1, e2, e3⟩ := str_nil he
      go_enter Tryd.func56, Tryd.ntmps56
      go_upto_region 1 with fail
      generalize w.alloc (.cells #[.int .i64 1, .int .i64 n, .string s] 47) = w1 at *
      go_wp2_with fail
      go_ret
      exact ⟨by rw [hok.out]; rfl, hB.out⟩
  have n1 : (k == 1) = false := by simpa using hk1
  by_cases hk2 : k = 2
  · subst hk2
    have hok : Hid (Vl.ok ⟨2, n, s⟩ = (decide (n = 0) && (decide (s.size ≤ 64) && okT s))) := hid rfl
    clear hk0 hk1 n0 n1
    by_cases hn : n = 0
    · subst hn
      by_cases hz : s.size ≤ 64
      · have z1 : decide ((s.size : Int) ≤ 64) = true := decide_eq_true (by omega)
        have z2 : decide (s.size ≤ 64) = true := decide_eq_true hz
        have hpr := hid fun w => printable_any s w (by omega)
        have hf : Hid (Vl.ok ⟨2, 0, s⟩ = okT s) := hid (by rw [hok.out, z2]; simp)
        clear hz
        go_enter Tryd.func56, Tryd.ntmps56
        go_upto_region 1 with fail
        generalize w.alloc (.cells #[.int .i64 2, .int .i64 0, .string s] 47) = w1 at *
        go_wp2_with fail
        refine (hpr.out _).mono ?_
        rintro e w2 ⟨rfl, rfl⟩
        go_wp2_with fail
        go_ret
        exact ⟨by rw [hf.out]; rfl, hB.out⟩
      · have z1 : decide ((s.size : Int) ≤ 64) = false := decide_eq_false (by omega)
        have z2 : decide (s.size ≤ 64) = false := decide_eq_false hz
        have hf : Hid (Vl.ok ⟨2, 0, s⟩ = false) := hid (by rw [hok.out, z2]; simp)
        clear hz
        go_enter Tryd.func56, Tryd.ntmps56
        go_upto_region 1 with fail
        generalize w.alloc (.cells #[.int .i64 2, .int .i64 0, .string s] 47) = w1 at *
        go_wp2_with fail
        go_ret
        exact ⟨by rw [hf.out]; rfl, hB.out⟩
    · have n1 : (n == 0) = false := by simpa using hn
      have hf : Hid (Vl.ok ⟨2, n, s⟩ = false) := hid (by rw [hok.out, decide_eq_false hn]; rfl)
      clear hn
      go_enter Tryd.func56, Tryd.ntmps56
      go_upto_region 1 with fail
      generalize w.alloc (.cells #[.int .i64 2, .int .i64 n, .string s] 47) = w1 at *
      go_wp2_with fail
      go_ret
      exact ⟨by rw [hf.out]; rfl, hB.out⟩
  have n2 : (k == 2) = false := by simpa using hk2
  have hf : Hid (Vl.ok ⟨k, n, s⟩ = false) := hid (by unfold Vl.ok; simp only; rw [if_neg hk0, if_neg hk1, if_neg hk2])
  clear hk0 hk1 hk2
  go_enter Tryd.func56, Tryd.ntmps56
  go_upto_region 1 with fail
  generalize w.alloc (.cells #[.int .i64 k, .int .i64 n, .string s] 47) = w1 at *
  go_wp2_with fail
  go_ret
  exact ⟨by rw [hf.out]; rfl, hB.out⟩
end Go.Proofs.YtefigpmkiemfhaaDoor

namespace Go.Proofs.YtefigpmkiemfhaaDoor
open Go.RowKit
set_option linter.unusedVariables false
set_option linter.unusedSimpArgs false

def wr0 : Wr := ⟨⟨#[]⟩, false, vl0⟩
def wrCells (ws : List Wr) : List Value := ws.flatMap fun x => [.string x.key, .bool x.gone, .int .i64 x.v.k, .int .i64 x.v.n, .string x.v.s]
theorem wrCells_at : ∀ {L : List Wr} {i : Nat} {x : Wr}, L[i]? = some x → (wrCells L)[i * 5]? = some (.string x.key) ∧ (wrCells L)[i * 5 + 1]? = some (.bool x.gone) ∧ (wrCells L)[i * 5 + 2]? = some (.int .i64 x.v.k) ∧ (wrCells L)[i * 5 + 3]? = some (.int .i64 x.v.n) ∧ (wrCells L)[i * 5 + 4]? = some (.string x.v.s) := by
  intro L
  induction L with
  | nil => intro i x h; simp at h
  | cons y l ih =>
    intro i x h
    have e : wrCells (y :: l) = .string y.key :: .bool y.gone :: .int .i64 y.v.k :: .int .i64 y.v.n :: .string y.v.s :: wrCells l := rfl
    rw [e]
    cases i with
    | zero => simp at h; subst h; exact ⟨rfl, rfl, rfl, rfl, rfl⟩
    | succ i =>
      simp only [List.getElem?_cons_succ] at h
      obtain ⟨h1, h2, h3, h4, h5⟩ := ih h
      rw [show (i + 1) * 5 = i * 5 + 1 + 1 + 1 + 1 + 1 by omega]
      simp only [List.getElem?_cons_succ]
      exact ⟨h1, h2, h3, h4, h5⟩
/-- a row of writes, cell by cell -/
theorem rd_wr {S : Nat → Prop} {w : World} {A : Option Addr} {L : List Wr} (h : Rd S w 5 A L.length (wrCells L)) {i : Nat} (hi : i < L.length) : ∃ b o, A = some ⟨b, o, none⟩ ∧ S b ∧ b < w.heap.size ∧ w.cell? ⟨b, o + i * 5, none⟩ = some (.string (L[i]).key) ∧ w.cell? ⟨b, o + i * 5 + 1, none⟩ = some (.bool (L[i]).gone) ∧ w.cell? ⟨b, o + i * 5 + 2, none⟩ = some (.int .i64 (L[i]).v.k) ∧ w.cell? ⟨b, o + i * 5 + 3, none⟩ = some (.int .i64 (L[i]).v.n) ∧ w.cell? ⟨b, o + i * 5 + 4, none⟩ = some (.string (L[i]).v.s) := by
  obtain ⟨b, o, rfl, hS, hl, hc⟩ := h.at_ hi
  obtain ⟨h1, h2, h3, h4, h5⟩ := wrCells_at (L := L) (i := i) (x := L[i]) (by simp [hi])
  exact ⟨b, o, rfl, hS, hl, hc _ _ h1, by rw [Nat.add_assoc]; exact hc _ _ h2, by rw [Nat.add_assoc]; exact hc _ _ h3, by rw [Nat.add_assoc]; exact hc _ _ h4, by rw [Nat.add_assoc]; exact hc _ _ h5⟩
section
variable {s : St} {ws : List Wr}
theorem wrE_at {k : Nat} {x y : Wr} (hx : ws.getD k wr0 = x) (hy : ws.getD (k - 1) wr0 = y) : wrE s ws k = if validK x.key = false then 30 else if 0 < k ∧ ltB y.key x.key = false then 40 else if hasK x.key s.L = false then 41 else if x.v.ok = false then 20 else if x.gone = true ∧ x.v ≠ vl0 then 2 else 0 := by
  unfold wr0 at hx hy
  unfold wrE
  simp only [hx, hy]
theorem scan_first {f : Nat → Int} {e : Int} (he : e ≠ 0) : ∀ {n i k : Nat}, (∀ j, i ≤ j → j < k → f j = 0) → f k = e → i ≤ k → k < i + n → (scan f n i).1 = e := by
  intro n
  induction n with
  | zero => intro i k _ _ h1 h2; omega
  | succ n ih =>
    intro i k h1 h2 h3 h4
    unfold scan
    by_cases e2 : i = k
    · subst e2
      rw [if_neg (by rw [h2]; exact he)]; exact h2
    · rw [if_pos (h1 i (Nat.le_refl _) (by omega))]
      exact ih (fun j hj => h1 j (by omega)) h2 (by omega) (by omega)
theorem applyE_first {e : Int} (he : e ≠ 0) {k : Nat} (h1 : ∀ j, j < k → wrE s ws j = 0) (h2 : wrE s ws k = e) (hk : k < ws.length) : applyE s ws = e := scan_first he (fun j _ h => h1 j h) h2 (Nat.zero_le _) (by omega)
theorem applyE_zero (h1 : ∀ j, j < ws.length → wrE s ws j = 0) : applyE s ws = 0 := (scan_zero _ _ _).2 fun j _ h => h1 j (by omega)
end
section
variable {S : Nat → Prop} {w w' : World} {g : Nat} {s : St}
set_option maxRecDepth 100000 in
set_option maxHeartbeats 4000000 in
theorem may_any {Sk : Nat → Prop} {A : Option Addr} {c : Nat} (ws : List Wr) (h : PAt S w g s) (hr : Rd Sk w 5 A ws.length (wrCells ws)) (hs : ∀ x ∈ ws, x.key.size ≤ 9223372036854775806 ∧ x.v.s.size ≤ 9223372036854775806) (hn : ws.length ≤ 1000000) :
    Calls Tryd.prog 44 #[.pointer (some ⟨g, 0, none⟩), .slice A ws.length c] w fun e w' => e = .returned (.int .i64 (applyE s ws)) ∧ Below w.heap.size w w' := by
  have HH := hid h
  have HR := hid hr
  have HS := hid hs
  have hgd := guardVal
  have hN : (ws.length : Int) ≤ 1000000 := by omega
  clear h hr hs hn
  go_enter Tryd.func44, Tryd.ntmps44
  go_wp2_with fail
  go_loopw [9] (fun v wr => ∃ (k : Nat), v = .int .i64 k ∧ k ≤ ws.length ∧ Below w.heap.size w wr ∧ ∀ j, j < k → wrE s ws j = 0) (fun v _ => ws.length - (intOf v).toNat)
  case atStart => exact ⟨0, rfl, Nat.zero_le _, Below.refl _ _, fun j h => by omega⟩
  case round =>
    obtain ⟨k, rfl, hk, hB0, ha0⟩ := hrel
    have hB := hid hB0
    have ha := hid ha0
    clear hB0 ha0
    by_cases hlt : k < ws.length
    · have i1 : (k : Int) < (ws.length : Int) := by omega
      obtain ⟨b, o, rfl, _, hbl, c0, c1, c2, c3, c4⟩ := rd_wr (HR.out.below_all hB.out) hlt
      obtain ⟨hks, hvs⟩ := HS.out _ (List.getElem_mem hlt)
      obtain ⟨x, hx⟩ : ∃ x, x = ws[k] := ⟨_, rfl⟩
      rw [← hx] at c0 c1 c2 c3 c4 hks hvs
      obtain ⟨y, hy⟩ : ∃ y, ws.getD (k - 1) wr0 = y := ⟨_, rfl⟩
      have hxe : Hid (ws.getD k wr0 = x) := hid (by rw [hx]; simp [List.getD_eq_getElem?_getD, hlt])
      have hye := hid hy
      have hE := hid (wrE_at (s := s) hxe.out hy)
      clear hx hy
      go_upto_region 4 with fail
      have kB0 := Blk.new wr 67 #[.string x.key, .bool x.gone, .int .i64 x.v.k, .int .i64 x.v.n, .string x.v.s]
      have hB2 : Below wr.heap.size wr (wr.alloc (.cells #[.string x.key, .bool x.gone, .int .i64 x.v.k, .int .i64 x.v.n, .string x.v.s] 67)) := (Below.refl _ _).alloc (Nat.le_refl _) _
      have HB2 := hid (hB.out.trans (hB2.mono hB.out.size))
      generalize wr.alloc (.cells #[.string x.key, .bool x.gone, .int .i64 x.v.k, .int .i64 x.v.n, .string x.v.s] 67) = w2 at *
      have KB := hid kB0
      have Bc := hid hbl
      generalize wr.heap.size = m at *
      clear kB0 hB2 c0 c1 c2 c3 c4 hbl hB
      have x0 : w2.cell? ⟨m, 0, none⟩ = some (.string x.key) := KB.out.cell 0
      have hvk := hid (validk_any x.key w2 hks)
      go_wp2_with fail
      refine hvk.out.mono ?_
      rintro e w3 ⟨rfl, rfl⟩
      clear hvk
      cases hv0 : validK x.key with
      | false =>
        have hfin : Hid (applyE s ws = 30) := hid (applyE_first (by decide) (fun j hj => ha.out j hj) (by rw [hE.out, if_pos hv0]) hlt)
        clear hv0 hE
        go_wp2_with fail
        go_ret
        exact ⟨by rw [hfin.out]; rfl, HB2.out⟩
      | true =>
      have hv := hid hv0
      clear hv0
      have x0 : w3.cell? ⟨m, 0, none⟩ = some (.string x.key) := KB.out.cell 0
      go_upto_region 6 with fail
      by_cases hbad : 0 < k ∧ ltB y.key x.key = false
      · obtain ⟨hk0, hl0⟩ := hbad
        have hfin : Hid (applyE s ws = 40) := hid (applyE_first (by decide) (fun j hj => ha.out j hj) (by rw [hE.out, if_neg (by simp [hv.out]), if_pos ⟨hk0, hl0⟩]) hlt)
        obtain ⟨j, hjk⟩ : ∃ j, j + 1 = k := ⟨k - 1, by omega⟩
        have hj : j < ws.length := by omega
        obtain ⟨b', o', e, _, _, d0, _⟩ := rd_wr (HR.out.below_all HB2.out) hj
        injection e with e; injection e with e1 e2; subst e1; subst e2
        have hyj : ws[j] = y := by
          have := hye.out
          rw [show k - 1 = j by omega] at this
          rw [← this]; simp [List.getD_eq_getElem?_getD, hj]
        rw [hyj] at d0
        have i0 : (j : Int) < (ws.length : Int) := by omega
        have t1 : decide ((0 : Int) < (k : Int)) = true := decide_eq_true (by omega)
        have t1n : decide (0 < k) = true := decide_eq_true hk0
        have x1 : IntKind.i64.wrap ((k : Int) - 1) = (j : Int) := by rw [IntKind.wrap_i64]; omega
        have hl : Op.bytesLess y.key.toList x.key.toList = false := hl0
        clear hl0 hk0 hjk hyj hE
        go_quiet (fail)
        go_wp2_with fail
        go_ret
        exact ⟨by rw [hfin.out]; rfl, below_drewN HB2.out _⟩
      have hnr := hid hbad
      clear hbad
      go_cut [19] (fun v wx => v = .bool false ∧ ∃ q, wx = w3.drewN q)
      case first =>
        by_cases hk0 : 0 < k
        · obtain ⟨j, hjk⟩ : ∃ j, j + 1 = k := ⟨k - 1, by omega⟩
          have hj : j < ws.length := by omega
          obtain ⟨b', o', e, _, _, d0, _⟩ := rd_wr (HR.out.below_all HB2.out) hj
          injection e with e; injection e with e1 e2; subst e1; subst e2
          have hyj : ws[j] = y := by
            have := hye.out
            rw [show k - 1 = j by omega] at this
            rw [← this]; simp [List.getD_eq_getElem?_getD, hj]
          rw [hyj] at d0
          have i0 : (j : Int) < (ws.length : Int) := by omega
          have t1 : decide ((0 : Int) < (k : Int)) = true := decide_eq_true (by omega)
          have t1n : decide (0 < k) = true := decide_eq_true hk0
          have x1 : IntKind.i64.wrap ((k : Int) - 1) = (j : Int) := by rw [IntKind.wrap_i64]; omega
          have hl : Op.bytesLess y.key.toList x.key.toList = true := by
            have := hnr.out
            cases h : ltB y.key x.key with
            | true => exact h
            | false => exact absurd ⟨hk0, h⟩ this
          clear hk0 hjk hyj hE hnr
          go_quiet (fail)
          go_wp2_with fail
          go_meet
          exact ⟨rfl, _, rfl⟩
        · have t1 : decide ((0 : Int) < (k : Int)) = false := decide_eq_false (by omega)
          have t1n : decide (0 < k) = false := decide_eq_false hk0
          clear hk0 hE hnr
          go_quiet (fail)
          go_wp2_with fail
          go_meet
          exact ⟨rfl, _, rfl⟩
      case rest =>
        obtain ⟨rfl, q, hq⟩ := hcut
        have KB3 : Hid (Blk wc m 67 #[.string x.key, .bool x.gone, .int .i64 x.v.k, .int .i64 x.v.n, .string x.v.s]) := hid (by rw [hq]; exact KB.out)
        have HB3 : Hid (Below w.heap.size w wc) := hid (by rw [hq]; exact below_drewN HB2.out q)
        clear hq x0 KB HB2
        have x0 : wc.cell? ⟨m, 0, none⟩ = some (.string x.key) := KB3.out.cell 0
        have hcl := hid (claimed_b x.key (HH.out.below HB3.out) hks)
        go_wp2_with fail
        refine hcl.out.mono ?_
        rintro e w4 ⟨rfl, hb40⟩
        have KB4 := hid (KB3.out.below_all hb40)
        have HB4 := hid (HB3.out.trans (hb40.mono HB3.out.size))
        clear hb40 hcl x0 KB3 HB3
        cases hc0 : hasK x.key s.L with
        | false =>
          have hfin : Hid (applyE s ws = 41) := hid (applyE_first (by decide) (fun j hj => ha.out j hj) (by rw [hE.out, if_neg (by simp [hv.out]), if_neg hnr.out, if_pos hc0]) hlt)
          clear hE hc0
          go_wp2_with fail
          go_ret
          exact ⟨by rw [hfin.out]; rfl, HB4.out⟩
        | true =>
        have hc := hid hc0
        clear hc0
        have x2 : w4.cell? ⟨m, 2, none⟩ = some (.int .i64 x.v.k) := KB4.out.cell 2
        have x3 : w4.cell? ⟨m, 3, none⟩ = some (.int .i64 x.v.n) := KB4.out.cell 3
        have x4 : w4.cell? ⟨m, 4, none⟩ = some (.string x.v.s) := KB4.out.cell 4
        have hva := hid (valid_any x.v w4 hvs)
        go_wp2_with fail
        refine hva.out.mono ?_
        rintro e w5 ⟨rfl, hb50⟩
        have KB5 := hid (KB4.out.below_all hb50)
        have HB5 := hid (HB4.out.trans (hb50.mono HB4.out.size))
        clear hb50 hva x2 x3 x4 KB4 HB4
        cases ho0 : x.v.ok with
        | false =>
          have hfin : Hid (applyE s ws = 20) := hid (applyE_first (by decide) (fun j hj => ha.out j hj) (by rw [hE.out, if_neg (by simp [hv.out]), if_neg hnr.out, if_neg (by simp [hc.out]), if_pos ho0]) hlt)
          clear hE ho0
          go_wp2_with fail
          go_ret
          exact ⟨by rw [hfin.out]; rfl, HB5.out⟩
        | true =>
        have ho := hid ho0
        clear ho0
        have x1 : w5.cell? ⟨m, 1, none⟩ = some (.bool x.gone) := KB5.out.cell 1
        have x2 : w5.cell? ⟨m, 2, none⟩ = some (.int .i64 x.v.k) := KB5.out.cell 2
        have x3 : w5.cell? ⟨m, 3, none⟩ = some (.int .i64 x.v.n) := KB5.out.cell 3
        have x4 : w5.cell? ⟨m, 4, none⟩ = some (.string x.v.s) := KB5.out.cell 4
        have hnz0 : ∀ w', (binOp .neq 47 (.agg #[.int .i64 x.v.k, .int .i64 x.v.n, .string x.v.s]) (.agg #[.int .i64 0, .int .i64 0, .string ⟨#[]⟩])).run Tryd.prog w' = .ok (.bool (!decide (x.v = vl0))) w' := fun w' => by
          rw [run_neq_struct, show (⟨#[]⟩ : ByteArray) = vl0.s from rfl, show (Value.int .i64 0) = .int .i64 vl0.k from rfl]
          have := run_eqVal x.v vl0 w'
          rw [show (.int .i64 vl0.k : Value) = .int .i64 vl0.n from rfl] at this ⊢
          rw [this]; rfl
        cases hg0 : x.gone with
        | false =>
          have hz : Hid (wrE s ws k = 0) := hid (by rw [hE.out, if_neg (by simp [hv.out]), if_neg hnr.out, if_neg (by simp [hc.out]), if_neg (by simp [ho.out]), if_neg (by simp [hg0])])
          rw [hg0] at x1
          clear hE hnz0 hg0
          go_wp2_with fail
          go_roundw
          case rel => exact ⟨k + 1, by go_num, hlt, HB5.out, fun j hj => by
            by_cases e : j = k
            · subst e; exact hz.out
            · exact ha.out j (by omega)⟩
          case measure => simp [intOf]; omega
        | true =>
          rw [hg0] at x1
          cases hz0 : decide (x.v = vl0) with
          | true =>
            have hz : Hid (wrE s ws k = 0) := hid (by rw [hE.out, if_neg (by simp [hv.out]), if_neg hnr.out, if_neg (by simp [hc.out]), if_neg (by simp [ho.out]), if_neg (by simp [of_decide_eq_true hz0])])
            have hnz := hnz0
            rw [hz0] at hnz
            clear hE hnz0 hg0 hz0
            go_wp2_with fail
            go_roundw
            case rel => exact ⟨k + 1, by go_num, hlt, HB5.out, fun j hj => by
              by_cases e : j = k
              · subst e; exact hz.out
              · exact ha.out j (by omega)⟩
            case measure => simp [intOf]; omega
          | false =>
            have hfin : Hid (applyE s ws = 2) := hid (applyE_first (by decide) (fun j hj => ha.out j hj) (by rw [hE.out, if_neg (by simp [hv.out]), if_neg hnr.out, if_neg (by simp [hc.out]), if_neg (by simp [ho.out]), if_pos ⟨hg0, of_decide_eq_false hz0⟩]) hlt)
            have hnz := hnz0
            rw [hz0] at hnz
            clear hE hnz0 hg0 hz0
            go_wp2_with fail
            go_ret
            exact ⟨by rw [hfin.out]; rfl, HB5.out⟩
    · obtain rfl : k = ws.length := by omega
      have hfin : Hid (applyE s ws = 0) := hid (applyE_zero fun j hj => ha.out j hj)
      go_wp2_with fail
      go_ret
      exact ⟨by rw [hfin.out]; rfl, hB.out⟩
end
end Go.Proofs.YtefigpmkiemfhaaDoor

namespace Go.Proofs.YtefigpmkiemfhaaDoor
open Go.RowKit
set_option linter.unusedVariables false
set_option linter.unusedSimpArgs false

section
variable {S : Nat → Prop} {w w' : World} {g cb cc vb : Nat} {mb : Nat → Nat} {s : St}
/-- a key gets a value: the values' map at last says what the new values are -/
theorem PIn.up {k : ByteArray} {v : Vl} (h : PIn S w g s cb cc mb vb) (hU : Upd (fun j => j = vb) w w') (hk : hasK k s.L = true) (hm : MapF strE w' vb fun y => if y = k then (if v.k = 0 then none else some (.agg #[.int .i64 v.k, .int .i64 v.n, .string v.s])) else Dv s.L y) (hok : St.Ok { s with L := upK k v s.L }) :
    PIn S w' g { s with L := upK k v s.L } cb cc mb vb ∧ Upd S w w' := by
  obtain ⟨cs, h1, h2⟩ := h.row
  have hne : ∀ {b t cs}, Blk w b t cs → ¬ b = vb := fun hb e => h.vals.ne_blk hb e.symm
  refine ⟨⟨h.blk.upd hU (hne h.blk), ⟨cs, h1.upd hU (hne h1), h2⟩, fun q hq => ?_, h.inj, ?_, h.vne, h.inS, fun j hj => Nat.lt_of_lt_of_le (h.lt j hj) hU.size, hok⟩, hU.mono fun j _ hj => hj ▸ h.inS.2.2.1⟩
  · show MapF strE w' (mb q) (Dc (upK k v s.L) s.parts q)
    refine ((h.cl q hq).upd hU (h.vne q hq)).congr fun y => ?_
    unfold Dc
    rw [hasK_up]
  · refine hm.congr fun y => ?_
    show _ = Dv (upK k v s.L) y
    unfold Dv
    rw [valK_up]
    by_cases e : y = k
    · subst e; simp [hk]
    · have : ¬ k = y := fun h => e h.symm
      simp [e, this]
theorem up_ok1 (h : s.Ok) {k : ByteArray} {v : Vl} (hk : validK k = true) (hv : v.ok = true) : St.Ok { s with L := upK k v s.L } := by
  refine ⟨h.parts, h.room, up_asc h.asc, fun x hx => ?_, fun x hx => ?_, fun p hp => ?_⟩
  · rcases up_mem hx with ⟨e, _⟩ | hx
    · rw [e]; exact hk
    · exact h.key x hx
  · rcases up_mem hx with ⟨_, e⟩ | hx
    · rw [e]; exact hv
    · exact h.val x hx
  · show cntP s.parts p (upK k v s.L) ≤ s.room
    rw [cnt_up]; exact h.cnt p hp
theorem upAll_snoc {L : List Kv} (l : List Wr) (x : Wr) : upAll L (l ++ [x]) = upK x.key x.v (upAll L l) := by unfold upAll; rw [List.foldl_append]; rfl
theorem upAll_has {j : ByteArray} {L : List Kv} {ws : List Wr} : hasK j (upAll L ws) = hasK j L := has_keys upAll_keys
theorem applyS_yes {ws : List Wr} (h : applyE s ws = 0) : applyS s ws = { s with L := upAll s.L ws } := by unfold applyS; rw [if_pos h]
theorem applyS_no {ws : List Wr} (h : applyE s ws ≠ 0) : applyS s ws = s := by unfold applyS; rw [if_neg h]
set_option maxRecDepth 100000 in
set_option maxHeartbeats 4000000 in
theorem apply_any {Sk : Nat → Prop} {A : Option Addr} {c : Nat} (ws : List Wr) (h : PAt S w g s) (hr : Rd Sk w 5 A ws.length (wrCells ws)) (hd : ∀ b, Sk b → ¬ S b) (hs : ∀ x ∈ ws, x.key.size ≤ 9223372036854775806 ∧ x.v.s.size ≤ 9223372036854775806) (hn : ws.length ≤ 1000000) :
    Calls Tryd.prog 27 #[.pointer (some ⟨g, 0, none⟩), .slice A ws.length c] w fun e w' => e = .returned (.int .i64 (applyE s ws)) ∧ PAt S w' g (applyS s ws) ∧ Upd S w w' := by
  have hmay := hid (may_any (c := c) ws h hr hs hn)
  obtain ⟨cb, cc, mb, vb, h⟩ := h
  have HH := hid h
  have HR := hid hr
  have hN : (ws.length : Int) ≤ 1000000 := by omega
  clear h hr hs hn
  go_enter Tryd.func27, Tryd.ntmps27
  go_wp2_with fail
  refine hmay.out.mono ?_
  rintro e w2 ⟨rfl, hb20⟩
  have HB2 := hid hb20
  clear hmay hb20
  by_cases he0 : applyE s ws = 0
  rotate_left
  · have tt : (applyE s ws != 0) = true := by simpa using he0
    have hfin : Hid (PAt S w2 g (applyS s ws)) := hid (by rw [applyS_no he0]; exact ⟨_, _, _, _, HH.out.below HB2.out⟩)
    clear he0
    go_wp2_with fail
    go_ret
    exact ⟨rfl, hfin.out, .of_below HB2.out fun k hk h => by omega⟩
  have he := hid he0
  have HP := hid (HH.out.below HB2.out)
  have HR2 := hid (HR.out.below_all HB2.out)
  have hWS := hid HB2.out.size
  have HU : Hid (Upd S w w2) := hid (.of_below HB2.out fun k hk h => by omega)
  rw [he0]
  clear he0 HH HR HB2
  go_wp2_with fail
  go_loopw [18] (fun v wr => ∃ (k : Nat), v = .int .i64 k ∧ k ≤ ws.length ∧ PIn S wr g { s with L := upAll s.L (ws.take k) } cb cc mb vb ∧ Rd Sk wr 5 A ws.length (wrCells ws) ∧ Upd S w wr) (fun v _ => ws.length - (intOf v).toNat)
  case atStart => exact ⟨0, rfl, Nat.zero_le _, HP.out, HR2.out, HU.out⟩
  case round =>
    clear HP HR2 HU
    obtain ⟨k, rfl, hk, hp0, hr0, hu0⟩ := hrel
    have HP := hid hp0
    have HR := hid hr0
    have HU := hid hu0
    clear hp0 hr0 hu0
    by_cases hlt : k < ws.length
    · have i1 : (k : Int) < (ws.length : Int) := by omega
      obtain ⟨b, o, rfl, hSkb, hbl, c0, c1, c2, c3, c4⟩ := rd_wr HR.out hlt
      have hz := hid (apply_zero he.out _ (List.getElem_mem hlt))
      have htk := hid (take_snoc hlt)
      obtain ⟨x, hx⟩ : ∃ x, x = ws[k] := ⟨_, rfl⟩
      rw [← hx] at c0 c1 c2 c3 c4 hz htk
      clear hx
      go_upto_region 9 with fail
      have kB0 := Blk.new wr 67 #[.string x.key, .bool x.gone, .int .i64 x.v.k, .int .i64 x.v.n, .string x.v.s]
      have hB2 : Below wr.heap.size wr (wr.alloc (.cells #[.string x.key, .bool x.gone, .int .i64 x.v.k, .int .i64 x.v.n, .string x.v.s] 67)) := (Below.refl _ _).alloc (Nat.le_refl _) _
      have HP2 := hid (HP.out.below hB2)
      have HR2 := hid (HR.out.below_all hB2)
      have HU2 := hid (HU.out.trans (Upd.of_below (M := S) hB2 fun k hk h => by omega) fun _ _ h => h)
      have hvl := hid (HP.out.vals.lt)
      generalize wr.alloc (.cells #[.string x.key, .bool x.gone, .int .i64 x.v.k, .int .i64 x.v.n, .string x.v.s] 67) = w3 at *
      have KB := hid kB0
      have hvm : Hid (vb ≠ wr.heap.size) := hid (by have := hvl.out; omega)
      generalize wr.heap.size = m at *
      clear kB0 hB2 c0 c1 c2 c3 c4 hbl HP HR HU hvl
      have x0 : w3.cell? ⟨m, 0, none⟩ = some (.string x.key) := KB.out.cell 0
      have x2 : w3.cell? ⟨m, 2, none⟩ = some (.int .i64 x.v.k) := KB.out.cell 2
      have x3 : w3.cell? ⟨m, 3, none⟩ = some (.int .i64 x.v.n) := KB.out.cell 3
      have x4 : w3.cell? ⟨m, 4, none⟩ = some (.string x.v.s) := KB.out.cell 4
      have g2 : w3.cell? ⟨g, 2, none⟩ = some (.map (some vb)) := HP2.out.cells.2.2
      obtain ⟨w4, hmu0, hm40, hg40, _⟩ := (HP2.out.drewN 1).vals.update Tryd.underlying78 x.key (.agg #[.int .i64 x.v.k, .int .i64 x.v.n, .string x.v.s])
      have hmu : (Instr.mapUpdate 78 (.map (some vb)) (.string x.key) (.agg #[.int .i64 x.v.k, .int .i64 x.v.n, .string x.v.s])).run Tryd.prog w3.drew = .ok () w4 := hmu0
      have hu40 : Upd (fun j => j = vb) w3 w4 := (Upd.refl (fun j => j = vb) w3).drew.trans (upd_grown hg40 fun j hj => by injection hj with hj; exact hj.symm) fun _ _ h => h
      have hm4 := hid hm40
      have hu4 := hid hu40
      clear hm40 hg40 hu40 hmu0
      go_still_tail 8, (by kernel_rfl)
      change wpList _ _ _ _ _ w3.drew
      go_upto_region 10 with fail
      have x2 : w4.cell? ⟨m, 2, none⟩ = some (.int .i64 x.v.k) := (KB.out.upd hu4.out (Ne.symm hvm.out)).cell 2
      by_cases hz0 : x.v.k = 0
      · have tz : (x.v.k == 0) = true := by simpa using hz0
        have x0 : w4.cell? ⟨m, 0, none⟩ = some (.string x.key) := (KB.out.upd hu4.out (Ne.symm hvm.out)).cell 0
        have g2 : w4.cell? ⟨g, 2, none⟩ = some (.map (some vb)) := (HP2.out.blk.upd hu4.out fun e => HP2.out.vals.ne_blk HP2.out.blk e.symm).cell 2
        have hm4d : MapF strE w4.drew vb _ := hm4.out
        obtain ⟨w5, hdl0, hm50, hg50, _⟩ := hm4d.delete (kt := 9) Tryd.underlying78 0 x.key
        have hdl : (Builtin.delete_ #[78, 9] 0 #[.map (some vb), .string x.key]).run Tryd.prog w4.drew = .ok (.tuple #[]) w5 := hdl0
        have hu5 : Upd (fun j => j = vb) w3 w5 := hu4.out.drew.trans (upd_grown hg50 fun j hj => by injection hj with hj; exact hj.symm) fun _ _ h => h
        have hfin0 := HP2.out.up (k := x.key) (v := x.v) hu5 (by show hasK x.key (upAll s.L (ws.take k)) = true; rw [upAll_has]; exact hz.out.2.1) (hm50.congr fun y => by
          by_cases e : y = x.key
          · simp only [e, if_true, hz0]
          · simp only [e, if_false]) (up_ok1 HP2.out.ok hz.out.1 hz.out.2.2)
        have hfin := hid hfin0
        have HR5 := hid (HR2.out.upd hfin0.2 hd)
        have HU5 := hid (HU2.out.trans hfin0.2 fun _ _ h => h)
        clear hfin0 hu5 hm50 hg50 hdl0 hm4d hz0 hmu
        go_wp2_with fail
        go_still_tail 6, (by kernel_rfl)
        change wpList _ _ _ _ _ w4.drew
        go_wp2_with fail
        go_roundw
        case rel => exact ⟨k + 1, by go_num, hlt, by rw [htk.out, upAll_snoc]; exact hfin.out.1, HR5.out, HU5.out⟩
        case measure => simp [intOf]; omega
      · have tz : (x.v.k == 0) = false := by simpa using hz0
        have hfin0 := HP2.out.up (k := x.key) (v := x.v) hu4.out (by show hasK x.key (upAll s.L (ws.take k)) = true; rw [upAll_has]; exact hz.out.2.1) (hm4.out.congr fun y => by
          by_cases e : y = x.key
          · simp only [e, if_true, hz0, if_false]
          · simp only [e, if_false]) (up_ok1 HP2.out.ok hz.out.1 hz.out.2.2)
        have hfin := hid hfin0
        have HR5 := hid (HR2.out.upd hfin0.2 hd)
        have HU5 := hid (HU2.out.trans hfin0.2 fun _ _ h => h)
        clear hfin0 hz0 hmu
        go_wp2_with fail
        go_roundw
        case rel => exact ⟨k + 1, by go_num, hlt, by rw [htk.out, upAll_snoc]; exact hfin.out.1, HR5.out, HU5.out⟩
        case measure => simp [intOf]; omega
    · obtain rfl : k = ws.length := by omega
      have hfin : Hid (PAt S wr g (applyS s ws)) := hid (by
        rw [applyS_yes he.out]
        have := HP.out
        rw [List.take_length] at this
        exact ⟨_, _, _, _, this⟩)
      clear HP
      go_wp2_with fail
      go_ret
      exact ⟨by rw [he.out]; rfl, hfin.out, HU.out⟩
end
end Go.Proofs.YtefigpmkiemfhaaDoor

namespace Go.Proofs.YtefigpmkiemfhaaDoor
end Go.Proofs.YtefigpmkiemfhaaDoor

namespace Go.Proofs.YtefigpmkiemfhaaDoor
open Go.RowKit Go.Sort Go.Shelf Go.Lib
set_option linter.unusedVariables false
set_option linter.unusedSimpArgs false

instance : Inhabited Vl := ⟨vl0⟩
def encI (x : Kv) : List Value := [.string x.1, .int .i64 x.2.k, .int .i64 x.2.n, .string x.2.s]
theorem encI_len (x : Kv) : (encI x).length = 4 := rfl
theorem encI_one (x : Kv) : ∀ v ∈ encI x, v.oneCell' = true := by
  intro v hv
  simp only [encI, List.mem_cons, List.not_mem_nil, or_false] at hv
  rcases hv with rfl | rfl | rfl | rfl <;> rfl
theorem kvCells_snoc (L : List Kv) (x : Kv) : kvCells (L ++ [x]) = kvCells L ++ encI x := by unfold kvCells; simp [encI]
theorem kvCells_one (L : List Kv) : ∀ v ∈ kvCells L, v.oneCell' = true := by
  intro v hv
  obtain ⟨x, _, hx⟩ := List.mem_flatMap.1 hv
  exact encI_one x v hx
theorem flat_get {L : List Kv} {t : Nat} (ht : t < L.length * 4) : (kvCells L)[t]? = some ((flatK encI 4 L.toArray)[t]!) := by
  rw [get_flatK encI 4 L.toArray t (by simpa using ht)]
  have hi : t / 4 < L.length := by omega
  have hx : L.toArray[t / 4]! = L[t / 4] := by simp [hi]
  rw [hx]
  obtain ⟨h1, h2, h3, h4⟩ := kvCells_at (L := L) (i := t / 4) (x := L[t / 4]) (by simp [hi])
  have hr : t % 4 < 4 := Nat.mod_lt _ (by decide)
  have ht4 : t = t / 4 * 4 + t % 4 := by omega
  generalize L[t / 4] = x at *
  have hc : t % 4 = 0 ∨ t % 4 = 1 ∨ t % 4 = 2 ∨ t % 4 = 3 := by omega
  rcases hc with e | e | e | e <;> rw [e] at ht4 ⊢
  · rw [ht4]; simpa [encI] using h1
  · rw [ht4]; simpa [encI] using h2
  · rw [ht4]; simpa [encI] using h3
  · rw [ht4]; simpa [encI] using h4
theorem holds_kv {w : World} {g cap : Nat} {cur : Array Value} {e : TypeId} {L : List Kv} (hb : w.heap[g]? = some (.cells cur e (0, 0))) (ht : cur.toList.take (L.length * 4) = kvCells L) : HoldsK encI 4 w g 0 L.toArray := by
  intro j hj
  have hj' : j < L.length * 4 := by simpa using hj
  have h1 := flat_get hj'
  rw [← ht, List.getElem?_take_of_lt hj', Array.getElem?_toList] at h1
  refine ⟨?_, by simp [World.frozen?, hb]⟩
  simp only [World.cell?, hb, Nat.zero_add, Option.isSome_none, Bool.false_eq_true, if_false, id]
  exact h1
theorem heap_sortedK {w : World} {g n : Nat} {os : Array Obj} {cur : Array Value} {e : TypeId} {fr : Nat × Nat} (d : Array Kv) (hb : w.heap[g]? = some (.cells cur e fr)) :
    (sortWorldK encI 4 w g 0 n d os).heap[g]? = some (.cells (putCells id 0 (flatK encI 4 d) cur) e fr) := by
  have hg : g < w.heap.size := (Array.getElem?_eq_some_iff.1 hb).1
  unfold sortWorldK putRowK
  rw [heap_grow_old _ _ (by simpa using hg)]
  simp [putRow, mapBlock, Sort.ahead, Array.getElem?_modify, hb, onCells]
theorem grownBy_sortedK {w : World} {g n : Nat} {os : Array Obj} (d : Array Kv) : w.grownBy (sortWorldK encI 4 w g 0 n d os) (some g) := by
  unfold sortWorldK putRowK
  refine ⟨rfl, rfl, rfl, by simp, fun k hk hne => ?_⟩
  rw [heap_grow_old _ _ (by simpa using hk)]
  have : g ≠ k := fun e => hne (by rw [e])
  simp [putRow, mapBlock, Sort.ahead, Array.getElem?_modify, this]
theorem ownsRow_sortedK {w : World} {base g cap n : Nat} {e : TypeId} {os : Array Obj} {cur : Array Value} {ss ts : List Kv} (hl : ts.length = ss.length) (hbase : base ≤ g) (hb : w.heap[g]? = some (.cells cur e (0, 0)))
    (h1 : ss.length ≤ cap) (h2 : cap ≤ maxLen) (h3 : cur.size = cap * 4) :
    (sortWorldK encI 4 w g 0 n ts.toArray os).ownsRow base e 4 (.slice (some ⟨g, 0, none⟩) ss.length cap) ss.length (kvCells ts) := by
  refine ⟨by rw [kvCells_len, hl], .inr ⟨g, cap, _, rfl, hbase, heap_sortedK _ hb, h1, h2, by simp [putCells, h3], ?_⟩⟩
  apply List.ext_getElem?
  intro j
  by_cases hj : j < ts.length * 4
  · rw [List.getElem?_take_of_lt (by omega), Array.getElem?_toList, flat_get hj]
    simp [putCells, hj, show j < cur.size by omega]
  · rw [List.getElem?_take_eq_none (by omega), List.getElem?_eq_none (by rw [kvCells_len]; omega)]
/-! the order -/
def cfK (x y : Kv) : Int := Lib.compareBytes x.1.data.toList y.1.data.toList
theorem ltOf_kv (x y : Kv) : ltOf cfK x y = ltB x.1 y.1 := by
  have h := ltB_iff x.1 y.1
  rw [ByteArray.toList_eq, ByteArray.toList_eq] at h
  have hr := ord_bytes.rng x.1.data.toList y.1.data.toList
  unfold ltOf cfK
  rw [Bool.eq_iff_iff, decide_eq_true_eq, h]
  omega
theorem swo_kv : SWO (ltOf cfK) where
  irrefl x := by rw [ltOf_kv]; exact ltB_irrefl _
  trans x y z h1 h2 := by rw [ltOf_kv] at *; exact ltB_trans h1 h2
  ntrans x y z h1 h2 := by
    rw [ltOf_kv] at *
    cases h : ltB x.1 z.1 with
    | false => rfl
    | true =>
      cases h3 : ltB y.1 x.1 with
      | true => rw [ltB_trans h3 h] at h2; cases h2
      | false => rw [ltB_tri h1 h3] at h; rw [h] at h2; cases h2
theorem sorted_kv {out M : List Kv} {d' : Array Kv} (hM : Asc M) (hp : out.Perm M) (h1 : PermIn 0 out.toArray.size out.toArray d') (h2 : SortedIn (ltOf cfK) 0 out.toArray.size d') : d'.toList = M := by
  obtain ⟨hsz, _, hpe⟩ := h1
  have hsz' : d'.size = out.length := by simpa using hsz
  have e1 : (d'.extract 0 out.toArray.size).toList = d'.toList := by
    rw [show out.toArray.size = d'.size by rw [hsz]]; simp
  have e2 : (out.toArray.extract 0 out.toArray.size).toList = out := by simp
  rw [e1, e2] at hpe
  have hpm := hpe.trans hp
  refine asc_eq ?_ hM hpm
  unfold Asc
  rw [List.pairwise_iff_getElem]
  intro i j hi hj hij
  have hs := h2 i j (Nat.zero_le _) hij (by simp at hj ⊢; omega)
  rw [ltOf_kv] at hs
  have gi : d'[i]! = d'.toList[i] := by simp at hi; simp [hi]
  have gj : d'[j]! = d'.toList[j] := by simp at hj; simp [hj]
  rw [gi, gj] at hs
  cases h : ltB (d'.toList[i]).1 (d'.toList[j]).1 with
  | true => rfl
  | false =>
    have e := ltB_tri h hs
    have hn : (d'.toList.map (·.1)).Nodup := (hpm.map _).nodup_iff.2 (asc_nodup hM)
    rw [List.nodup_iff_pairwise_ne, List.pairwise_map, List.pairwise_iff_getElem] at hn
    exact absurd e (hn i j hi hj hij)
/-! what has come -/
def vlV (v : Vl) : Value := .agg #[.int .i64 v.k, .int .i64 v.n, .string v.s]
theorem vlV_inj {u v : Vl} (h : vlV u = vlV v) : u = v := by
  unfold vlV at h
  obtain ⟨a, b, c⟩ := u
  obtain ⟨a', b', c'⟩ := v
  injection h with h
  simp at h
  obtain ⟨h1, h2, h3⟩ := h
  subst h1; subst h2; subst h3; rfl
def encP (x : Kv) : Value × Value := (.string x.1, vlV x.2)
theorem dv_some {L : List Kv} {k : ByteArray} {u : Value} (ha : Asc L) (h : Dv L k = some u) : (k, valK k L) ∈ dumpL L ∧ u = vlV (valK k L) := by
  unfold Dv at h
  by_cases h0 : (valK k L).k = 0
  · rw [if_pos h0] at h; cases h
  · rw [if_neg h0] at h
    injection h with h
    have hk : hasK k L = true := by
      cases hh : hasK k L with
      | true => rfl
      | false => exact absurd (by rw [valK_none hh]; rfl) h0
    obtain ⟨x, hx, hxk⟩ := hasK_mem.1 hk
    have := valK_mem ha hx
    rw [hxk] at this
    refine ⟨List.mem_filter.2 ⟨?_, by simp [h0]⟩, h.symm⟩
    rw [this, ← hxk]; exact hx
theorem dump_mem {L : List Kv} (ha : Asc L) {x : Kv} (h : x ∈ dumpL L) : Dv L x.1 = some (vlV x.2) := by
  obtain ⟨h1, h2⟩ := List.mem_filter.1 h
  have := valK_mem ha h1
  simp at h2
  unfold Dv
  rw [this, if_neg h2]; rfl
theorem nodup_of_map {α β : Type} (f : α → β) {l : List α} (h : (l.map f).Nodup) : l.Nodup := by
  rw [List.nodup_iff_pairwise_ne, List.pairwise_map] at h
  rw [List.nodup_iff_pairwise_ne]
  exact h.imp fun h e => h (by rw [e])
theorem nodup_map {α β : Type} {f : α → β} (hf : ∀ a b, f a = f b → a = b) {l : List α} (h : l.Nodup) : (l.map f).Nodup := by
  rw [List.nodup_iff_pairwise_ne] at h
  rw [List.nodup_iff_pairwise_ne, List.pairwise_map]
  exact h.imp fun h e => h (hf _ _ e)
theorem kvp_inj : ∀ a b : Kv, ((a.1, vlV a.2) : ByteArray × Value) = (b.1, vlV b.2) → a = b := fun a b e => by
  obtain ⟨a1, a2⟩ := a; obtain ⟨b1, b2⟩ := b
  injection e with e1 e2
  simp only at e1 e2
  rw [e1, vlV_inj e2]
theorem map_perm {w : World} {b : Nat} {L : List Kv} {l : List (ByteArray × Value)} (ha : Asc L) (h : MapIs strE w b l) (hd : ∀ x, getK x l = Dv L x) : l.Perm ((dumpL L).map fun x => (x.1, vlV x.2)) := (List.perm_ext_iff_of_nodup (nodup_of_map _ h.nodup) (nodup_map kvp_inj (nodup_of_map _ (asc_nodup (dump_asc ha))))).2 fun p => by
  obtain ⟨y, u⟩ := p
  rw [← getK_mem h.nodup, hd]
  constructor
  · intro hy
    obtain ⟨h4, h5⟩ := dv_some ha hy
    exact List.mem_map.2 ⟨_, h4, by rw [h5]⟩
  · intro hy
    obtain ⟨x, hx, e⟩ := List.mem_map.1 hy
    injection e with e1 e2
    rw [← e1, ← e2]; exact dump_mem ha hx
theorem map_len {w : World} {b : Nat} {L : List Kv} {l : List (ByteArray × Value)} (ha : Asc L) (h : MapIs strE w b l) (hd : ∀ x, getK x l = Dv L x) : l.length = (dumpL L).length := by
  rw [(map_perm ha h hd).length_eq, List.length_map]
/-- what came of the values' map is what dump tells, in some order -/
theorem done_dump {w : World} {b : Nat} {L : List Kv} {l : List (ByteArray × Value)} {es : Array MapEntry} {out : List Kv} (ha : Asc L) (h : MapIs strE w b l) (hd : ∀ x, getK x l = Dv L x) (hpr : pairs es.toList = encs strE l) (ho : (pairs es.toList).Perm (out.map encP)) : out.Perm (dumpL L) := by
  have e1 : out.map encP = encs strE (out.map fun x => (x.1, vlV x.2)) := by unfold encs; rw [List.map_map]; rfl
  rw [hpr, e1] at ho
  have h4 := (encs_inj w ho).symm.trans (map_perm ha h hd)
  exact encs_inj.perm_of_map (f := fun x : Kv => (x.1, vlV x.2)) (fun a b e => kvp_inj a b e) h4
theorem done_le {κ : Type} [DecidableEq κ] {P : Program} {k : TypeId} {E : KeyEnc P k κ} {es : Array MapEntry} {seen : Array Nat} {l : List (κ × Value)} (hpr : pairs es.toList = encs E l) : (doneOf es seen).length ≤ l.length := by
  have h1 : (pairs es.toList).length = l.length := by rw [hpr]; simp [encs]
  have h2 : (doneOf es seen).length ≤ (pairs es.toList).length := by unfold doneOf pairs; simp only [List.length_map]; exact List.length_filter_le _ _
  omega
/-! how many there are -/
theorem len_parts {α : Type} (f : α → Nat) (r : Nat) : ∀ (n : Nat) (l : List α), (∀ x ∈ l, f x < n) → (∀ p, p < n → l.countP (fun x => decide (f x = p)) ≤ r) → l.length ≤ n * r := by
  intro n
  induction n with
  | zero =>
    intro l h _
    cases l with
    | nil => simp
    | cons x l => have := h x (List.mem_cons_self ..); omega
  | succ n ih =>
    intro l h hc
    have h1 := ih (l.filter fun x => !decide (f x = n)) (fun x hx => by
      have h2 := List.mem_filter.1 hx
      have := h x h2.1
      simp at h2
      omega) fun p hp => by
        refine Nat.le_trans ?_ (hc p (by omega))
        exact (List.filter_sublist).countP_le
    have h2 := hc n (by omega)
    have h3 : l.length = (l.filter fun x => decide (f x = n)).length + (l.filter fun x => !decide (f x = n)).length := by
      rw [← List.countP_eq_length_filter, ← List.countP_eq_length_filter]
      have := List.length_eq_countP_add_countP (l := l) (fun x => decide (f x = n))
      rw [this]
      congr 1
      exact List.countP_congr fun x _ => by simp
    rw [← List.countP_eq_length_filter] at h3
    rw [Nat.succ_mul]
    omega
theorem St.Ok.len {s : St} (h : s.Ok) : s.L.length ≤ 262144 := by
  have := len_parts (fun x : Kv => partK s.parts x.1) s.room s.parts s.L (fun x _ => partK_lt _ (by have := h.parts; omega)) fun p hp => h.cnt p hp
  have h1 := h.parts.2
  have h2 := h.room.2
  have : s.parts * s.room ≤ 64 * 4096 := Nat.mul_le_mul h1 h2
  omega
theorem St.Ok.dlen {s : St} (h : s.Ok) : (dumpL s.L).length ≤ 262144 := Nat.le_trans (List.length_filter_le _ _) h.len
end Go.Proofs.YtefigpmkiemfhaaDoor

namespace Go.Proofs.YtefigpmkiemfhaaDoor
open Go
set_option linter.unusedVariables false
set_option linter.unusedSimpArgs false

/-- a key's copies and bits -/
structure Ce where
  c0 : Vl
  c1 : Vl
  r : Bool
  w : Bool
  deriving DecidableEq
def bI (b : Bool) : Int := if b then 1 else 0
def ce0 : Ce := ⟨vl0, vl0, false, false⟩
def Ce.at_ (c : Ce) (b : Bool) : Vl := if b then c.c1 else c.c0
def Ce.get (c : Ce) : Vl := c.at_ c.r
/-- the copy that is written down -/
def Ce.old (c : Ce) : Vl := c.at_ (!c.w)
def Ce.put (c : Ce) (v : Vl) : Ce := if c.w then { c with c1 := v, r := true } else { c with c0 := v, r := false }
def Ce.turn (c : Ce) : Ce := { c with w := !c.r }
/-- a Zig: the store; the cells of its keys; the checkpoint that is under way -/
structure Zg where
  s : St
  f : ByteArray → Ce
  under : Bool
  mark : Int
  left : List ByteArray
  taken : List Kv
def zg0 (p r : Nat) : Zg := ⟨⟨p, r, []⟩, fun _ => ce0, false, 0, [], []⟩
/-- the cells, new keys being claimed -/
def Zg.fresh (z : Zg) : Ce := ⟨vl0, vl0, false, z.under⟩
def newF (L : List Kv) (c : Ce) (f : ByteArray → Ce) (ks : List ByteArray) : ByteArray → Ce := fun k => if hasK k L = false ∧ ks.any (fun j => decide (j = k)) = true then c else f k
def Zg.claim (z : Zg) (ks : List ByteArray) : Zg := if claimE z.s ks = 0 then { z with s := claimS z.s ks, f := newF z.s.L z.fresh z.f ks } else z
def putFz (f : ByteArray → Ce) (x : Wr) : ByteArray → Ce := fun k => if k = x.key then (f k).put x.v else f k
def putAll (f : ByteArray → Ce) (ws : List Wr) : ByteArray → Ce := ws.foldl putFz f
def Zg.apply (z : Zg) (ws : List Wr) : Zg := if applyE z.s ws = 0 then { z with s := applyS z.s ws, f := putAll z.f ws } else z
def Zg.beginE (z : Zg) (m : Int) : Int := if m < 0 then 2 else if z.under then 220 else 0
def Zg.begin (z : Zg) (m : Int) : Zg := if z.beginE m = 0 then { z with under := true, mark := m, left := z.s.L.map (·.1), taken := [], f := fun k => (z.f k).turn } else z
def Zg.stepN (z : Zg) (n : Int) : Nat := if z.under = true ∧ 1 ≤ n then min n.toNat z.left.length else 0
def Zg.step (z : Zg) (n : Int) : Zg := { z with left := z.left.drop (z.stepN n), taken := z.taken ++ (z.left.take (z.stepN n)).map fun k => (k, (z.f k).old) }
def Zg.canTake (z : Zg) : Bool := z.under && z.left.isEmpty
def Zg.take (z : Zg) : Zg := if z.canTake then { z with under := false } else z
/-- what is taken: the bytes of this store -/
def kvWr (x : Kv) : Wr := ⟨x.1, false, x.2⟩
def Zg.kept (z : Zg) : St := applyS (claimS ⟨z.s.parts, z.s.room, []⟩ (z.taken.map (·.1))) (z.taken.map kvWr)
def Zg.drop (z : Zg) : Zg := if z.under then { z with under := false, left := [] } else z
def Zg.get (z : Zg) (k : ByteArray) : Vl := if hasK k z.s.L = true then (z.f k).get else vl0
/-- what always holds -/
structure Zg.Ok (z : Zg) : Prop where
  s : z.s.Ok
  get : ∀ k, hasK k z.s.L = true → (z.f k).get = valK k z.s.L
  left : ∀ k ∈ z.left, hasK k z.s.L = true
  mark : z.under = true → 0 ≤ z.mark
  cnt : z.taken.length + z.left.length ≤ 262144
  cok : ∀ k, hasK k z.s.L = true → (z.f k).c0.ok = true ∧ (z.f k).c1.ok = true
  tk : ∀ x ∈ z.taken, hasK x.1 z.s.L = true ∧ x.2.ok = true
theorem Ce.get_put (c : Ce) (v : Vl) : (c.put v).get = v := by unfold Ce.put Ce.get Ce.at_; cases c.w <;> rfl
theorem Ce.get_turn (c : Ce) : c.turn.get = c.get := rfl
theorem Ce.old_put (c : Ce) (v : Vl) : (c.put v).old = c.old := by
  obtain ⟨c0, c1, r, w⟩ := c
  cases w <;> rfl
theorem Ce.old_turn (c : Ce) : c.turn.old = c.get := by
  obtain ⟨c0, c1, r, w⟩ := c
  cases r <;> rfl
theorem Ce.w_put (c : Ce) (v : Vl) : (c.put v).w = c.w := by
  obtain ⟨c0, c1, r, w⟩ := c
  cases w <;> rfl
theorem Zg.get_eq {z : Zg} (h : z.Ok) (k : ByteArray) : z.get k = valK k z.s.L := by
  unfold Zg.get
  split
  · exact h.get k (by assumption)
  · exact (valK_none (by simpa using ‹¬ hasK k z.s.L = true›)).symm
theorem zg0_ok {p r : Nat} (h1 : 1 ≤ p ∧ p ≤ 64) (h2 : 1 ≤ r ∧ r ≤ 4096) (h : St.Ok ⟨p, r, []⟩) : (zg0 p r).Ok := ⟨h, fun k hk => (by cases hk), fun k hk => (by cases hk), fun h => (by cases h), by simp [zg0], fun k hk => (by cases hk), fun x hx => (by cases hx)⟩
theorem claim_hasK {s : St} {ks : List ByteArray} {k : ByteArray} (h : claimE s ks = 0) : hasK k (claimS s ks).L = (ks.any (fun j => decide (j = k)) || hasK k s.L) := by
  unfold claimS; rw [if_pos h]; exact insAll_has
theorem any_eq_mem {ks : List ByteArray} {k : ByteArray} : ks.any (fun j => decide (j = k)) = true ↔ k ∈ ks := by
  rw [List.any_eq_true]
  constructor
  · rintro ⟨j, hj, e⟩; rw [← of_decide_eq_true e]; exact hj
  · intro h; exact ⟨k, h, by simp⟩
theorem Zg.claim_ok {z : Zg} (h : z.Ok) (ks : List ByteArray) : (z.claim ks).Ok := by
  unfold Zg.claim
  split
  · rename_i he
    refine ⟨Go.Proofs.YtefigpmkiemfhaaDoor.claim_ok h.s ks, fun k hk => ?_, fun k hk => ?_, h.mark, h.cnt, fun k hk => ?_, fun x hx => ⟨?_, (h.tk x hx).2⟩⟩
    · show (newF z.s.L z.fresh z.f ks k).get = valK k (claimS z.s ks).L
      have e : (claimS z.s ks).L = insAll z.s.L ks := by unfold claimS; rw [if_pos he]
      rw [e, insAll_val h.s.asc]
      unfold newF
      split
      · rename_i hh
        rw [valK_none hh.1]; rfl
      · rename_i hh
        refine h.get k ?_
        rw [claim_hasK he] at hk
        cases hz : hasK k z.s.L with
        | true => rfl
        | false =>
          rw [hz, Bool.or_false] at hk
          exact absurd ⟨hz, hk⟩ hh
    · show hasK k (claimS z.s ks).L = true
      rw [claim_hasK he, h.left k hk, Bool.or_true]
    · show (newF z.s.L z.fresh z.f ks k).c0.ok = true ∧ (newF z.s.L z.fresh z.f ks k).c1.ok = true
      unfold newF
      split
      · exact ⟨rfl, rfl⟩
      · rename_i hh
        refine h.cok k ?_
        have hk : hasK k (claimS z.s ks).L = true := hk
        rw [claim_hasK he] at hk
        cases hz : hasK k z.s.L with
        | true => rfl
        | false =>
          rw [hz, Bool.or_false] at hk
          exact absurd ⟨hz, hk⟩ hh
    · show hasK x.1 (claimS z.s ks).L = true
      rw [claim_hasK he, (h.tk x hx).1, Bool.or_true]
  · exact h
theorem putAll_out : ∀ {ws : List Wr} {f : ByteArray → Ce} {k : ByteArray}, (∀ x ∈ ws, x.key ≠ k) → putAll f ws k = f k
  | [], _, _, _ => rfl
  | x :: ws, f, k, h => by
    show putAll (putFz f x) ws k = f k
    rw [putAll_out fun y hy => h y (List.mem_cons_of_mem _ hy)]
    unfold putFz
    rw [if_neg fun e => h x (List.mem_cons_self ..) e.symm]
/-- a write's part in a key's cell: its value, else nothing -/
theorem putAll_get : ∀ {ws : List Wr} {f : ByteArray → Ce} {L : List Kv} {k : ByteArray}, (f k).get = valK k L → hasK k L = true → (putAll f ws k).get = valK k (upAll L ws)
  | [], _, _, _, h, _ => h
  | x :: ws, f, L, k, h, hk => by
    show (putAll (putFz f x) ws k).get = valK k (upAll (upK x.key x.v L) ws)
    refine putAll_get ?_ (by rw [hasK_up]; exact hk)
    rw [valK_up]
    unfold putFz
    by_cases e : k = x.key
    · rw [if_pos e, Ce.get_put, if_pos ⟨e.symm, by rw [← e]; exact hk⟩]
    · rw [if_neg e, if_neg fun h => e h.1.symm]; exact h
theorem apply_vals {s : St} {ws : List Wr} (h : applyE s ws = 0) : ∀ x ∈ ws, x.v.ok = true := by
  have hz : ∀ j, j < ws.length → wrE s ws j = 0 := fun j hj => (scan_zero _ _ _).1 h j (Nat.zero_le _) (by omega)
  intro x hx
  obtain ⟨j, hj, e⟩ := List.mem_iff_getElem.1 hx
  have h1 := hz j hj
  rw [wrE_at (x := x) (y := ws.getD (j - 1) wr0) (by simp [List.getD_eq_getElem?_getD, hj, e]) rfl] at h1
  split at h1
  · cases h1
  · split at h1
    · cases h1
    · split at h1
      · cases h1
      · split at h1
        · cases h1
        · rename_i g4
          cases hv : x.v.ok with
          | true => rfl
          | false => exact absurd hv g4
theorem putAll_ok : ∀ {ws : List Wr} {f : ByteArray → Ce} {k : ByteArray}, (∀ x ∈ ws, x.v.ok = true) → ((f k).c0.ok = true ∧ (f k).c1.ok = true) → (putAll f ws k).c0.ok = true ∧ (putAll f ws k).c1.ok = true
  | [], _, _, _, h => h
  | x :: ws, f, k, hv, h => by
    show (putAll (putFz f x) ws k).c0.ok = true ∧ _
    refine putAll_ok (fun y hy => hv y (List.mem_cons_of_mem _ hy)) ?_
    unfold putFz
    split
    · have := hv x (List.mem_cons_self ..)
      unfold Ce.put
      split
      · exact ⟨h.1, this⟩
      · exact ⟨this, h.2⟩
    · exact h
theorem Zg.apply_ok {z : Zg} (h : z.Ok) (ws : List Wr) : (z.apply ws).Ok := by
  unfold Zg.apply
  split
  · rename_i he
    have e : (applyS z.s ws).L = upAll z.s.L ws := by unfold applyS; rw [if_pos he]
    refine ⟨Go.Proofs.YtefigpmkiemfhaaDoor.apply_ok h.s ws, fun k hk => ?_, fun k hk => ?_, h.mark, h.cnt, fun k hk => ?_, fun x hx => ⟨?_, (h.tk x hx).2⟩⟩
    · show (putAll z.f ws k).get = valK k (applyS z.s ws).L
      have hk2 : hasK k (applyS z.s ws).L = true := hk
      rw [e, upAll_has] at hk2
      rw [e]
      exact putAll_get (h.get k hk2) hk2
    · show hasK k (applyS z.s ws).L = true
      rw [e, upAll_has]; exact h.left k hk
    · have hk2 : hasK k (applyS z.s ws).L = true := hk
      rw [e, upAll_has] at hk2
      exact putAll_ok (apply_vals he) (h.cok k hk2)
    · show hasK x.1 (applyS z.s ws).L = true
      rw [e, upAll_has]; exact (h.tk x hx).1
  · exact h
theorem Zg.begin_ok {z : Zg} (h : z.Ok) (m : Int) : (z.begin m).Ok := by
  unfold Zg.begin
  split
  · rename_i he
    refine ⟨h.s, fun k hk => (h.get k hk), fun k hk => ?_, fun _ => ?_, ?_, fun k hk => h.cok k hk, fun x hx => (by cases hx)⟩
    · obtain ⟨x, hx, rfl⟩ := List.mem_map.1 hk
      exact hasK_mem.2 ⟨x, hx, rfl⟩
    · unfold Zg.beginE at he
      split at he
      · cases he
      · show 0 ≤ m; omega
    · show ([] : List Kv).length + (z.s.L.map (·.1)).length ≤ 262144
      rw [List.length_map]
      have := h.s.len
      simpa using this
  · exact h
theorem Zg.step_ok {z : Zg} (h : z.Ok) (n : Int) : (z.step n).Ok := ⟨h.s, h.get, fun k hk => h.left k (List.mem_of_mem_drop hk), h.mark, by
  have := h.cnt
  show (z.taken ++ _).length + (z.left.drop _).length ≤ 262144
  rw [List.length_append, List.length_map, List.length_take, List.length_drop]
  omega, h.cok, fun x hx => by
  rcases List.mem_append.1 hx with hx | hx
  · exact h.tk x hx
  · obtain ⟨k, hk, rfl⟩ := List.mem_map.1 hx
    have hk := h.left k (List.mem_of_mem_take hk)
    refine ⟨hk, ?_⟩
    show (z.f k).old.ok = true
    unfold Ce.old Ce.at_
    have := h.cok k hk
    split
    · exact this.2
    · exact this.1⟩
theorem Zg.take_ok {z : Zg} (h : z.Ok) : z.take.Ok := by
  unfold Zg.take
  split
  · exact ⟨h.s, h.get, h.left, fun h => (by cases h), h.cnt, h.cok, h.tk⟩
  · exact h
theorem Zg.drop_ok {z : Zg} (h : z.Ok) : z.drop.Ok := by
  unfold Zg.drop
  split
  · exact ⟨h.s, h.get, fun k hk => (by cases hk), fun h => (by cases h), by
      have := h.cnt
      show z.taken.length + ([] : List ByteArray).length ≤ 262144
      simp
      omega, h.cok, h.tk⟩
  · exact h
end Go.Proofs.YtefigpmkiemfhaaDoor

namespace Go.Proofs.YtefigpmkiemfhaaDoor
open Go.RowKit
set_option linter.unusedVariables false
set_option linter.unusedSimpArgs false

/-- partition p's keys; those of the partitions below i -/
def keysP (n p : Nat) (L : List Kv) : List ByteArray := (L.filter fun x => decide (partK n x.1 = p)).map (·.1)
def keysTo (n i : Nat) (L : List Kv) : List ByteArray := (L.filter fun x => decide (partK n x.1 < i)).map (·.1)
def encK (k : ByteArray) : Value × Value := (.string k, .int .i64 1)
theorem keysTo_zero (n : Nat) (L : List Kv) : keysTo n 0 L = [] := by simp [keysTo]
theorem keysTo_all {n : Nat} (hn : 0 < n) (L : List Kv) : keysTo n n L = L.map (·.1) := by
  unfold keysTo
  congr 1
  exact List.filter_eq_self.2 fun x _ => by simpa using partK_lt x.1 hn
theorem filter_step {α : Type} (f : α → Nat) (i : Nat) : ∀ L : List α, ((L.filter fun x => decide (f x < i)) ++ (L.filter fun x => decide (f x = i))).Perm (L.filter fun x => decide (f x < i + 1))
  | [] => List.Perm.refl _
  | a :: L => by
    have ih := filter_step f i L
    by_cases h1 : f a < i
    · rw [List.filter_cons_of_pos (by simpa using h1), List.filter_cons_of_neg (by simp; omega), List.filter_cons_of_pos (by simp; omega)]
      exact ih.cons _
    · by_cases h2 : f a = i
      · rw [List.filter_cons_of_neg (by simpa using h1), List.filter_cons_of_pos (by simpa using h2), List.filter_cons_of_pos (by simp; omega)]
        exact List.perm_middle.trans (ih.cons _)
      · rw [List.filter_cons_of_neg (by simpa using h1), List.filter_cons_of_neg (by simpa using h2), List.filter_cons_of_neg (by simp; omega)]
        exact ih
theorem keysTo_step (n i : Nat) (L : List Kv) : (keysTo n i L ++ keysP n i L).Perm (keysTo n (i + 1) L) := by
  unfold keysTo keysP
  rw [← List.map_append]
  exact (filter_step (fun x : Kv => partK n x.1) i L).map _
theorem keysP_mem {n p : Nat} {L : List Kv} {k : ByteArray} : k ∈ keysP n p L ↔ hasK k L = true ∧ partK n k = p := by
  unfold keysP
  rw [hasK_mem]
  constructor
  · intro h
    obtain ⟨x, hx, rfl⟩ := List.mem_map.1 h
    obtain ⟨h1, h2⟩ := List.mem_filter.1 hx
    exact ⟨⟨x, h1, rfl⟩, by simpa using h2⟩
  · rintro ⟨⟨x, hx, rfl⟩, h2⟩
    exact List.mem_map.2 ⟨x, List.mem_filter.2 ⟨hx, by simpa using h2⟩, rfl⟩
theorem keysP_nodup {n p : Nat} {L : List Kv} (ha : Asc L) : (keysP n p L).Nodup := (List.filter_sublist.map _).nodup (asc_nodup ha)
theorem kp1_inj : ∀ a b : ByteArray, ((a, Value.int .i64 1) : ByteArray × Value) = (b, Value.int .i64 1) → a = b := fun a b e => by injection e
theorem claims_perm {w : World} {b n p : Nat} {L : List Kv} {l : List (ByteArray × Value)} (ha : Asc L) (h : MapIs strE w b l) (hd : ∀ x, getK x l = Dc L n p x) : l.Perm ((keysP n p L).map fun k => (k, Value.int .i64 1)) :=
  (List.perm_ext_iff_of_nodup (nodup_of_map _ h.nodup) (nodup_map kp1_inj (keysP_nodup ha))).2 fun q => by
    obtain ⟨y, u⟩ := q
    rw [← getK_mem h.nodup, hd]
    unfold Dc
    constructor
    · intro hy
      by_cases hc : hasK y L = true ∧ partK n y = p
      · rw [if_pos hc] at hy
        injection hy with hy
        exact List.mem_map.2 ⟨y, keysP_mem.2 hc, by rw [hy]⟩
      · rw [if_neg hc] at hy; cases hy
    · intro hy
      obtain ⟨k, hk, e⟩ := List.mem_map.1 hy
      injection e with e1 e2
      subst e1
      rw [if_pos (keysP_mem.1 hk), e2]
theorem claims_len {w : World} {b n p : Nat} {L : List Kv} {l : List (ByteArray × Value)} (ha : Asc L) (h : MapIs strE w b l) (hd : ∀ x, getK x l = Dc L n p x) : l.length = (keysP n p L).length := by
  rw [(claims_perm ha h hd).length_eq, List.length_map]
theorem done_claims {w : World} {b n p : Nat} {L : List Kv} {l : List (ByteArray × Value)} {es : Array MapEntry} {out : List ByteArray} (ha : Asc L) (h : MapIs strE w b l) (hd : ∀ x, getK x l = Dc L n p x) (hpr : pairs es.toList = encs strE l) (ho : (pairs es.toList).Perm (out.map encK)) : out.Perm (keysP n p L) := by
  have e1 : out.map encK = encs strE (out.map fun k => (k, Value.int .i64 1)) := by unfold encs; rw [List.map_map]; rfl
  rw [hpr, e1] at ho
  have h4 := (encs_inj w ho).symm.trans (claims_perm ha h hd)
  exact encs_inj.perm_of_map (f := fun k : ByteArray => (k, Value.int .i64 1)) (fun a b e => kp1_inj a b e) h4
theorem bl_lt : ∀ a b : List UInt8, Op.bytesLess a b = decide (a < b)
  | _, [] => by simp [Op.bytesLess]
  | [], _ :: _ => by simp [Op.bytesLess]
  | a :: x, b :: y => by
    have ih := bl_lt x y
    unfold Op.bytesLess
    rw [ih]
    by_cases h1 : a < b
    · simp [h1, List.cons_lt_cons_iff]
    · by_cases h2 : a = b
      · subst h2; simp [List.cons_lt_cons_iff]
      · simp [h1, h2, List.cons_lt_cons_iff]
/-- slices.Sort on the keys, in whatever order they come -/
theorem sort_keys {L : List Kv} {out : List ByteArray} (ha : Asc L) (hp : out.Perm (L.map (·.1))) : (out.map ByteArray.toList).mergeSort (fun x y => decide (x ≤ y)) = L.map fun x => x.1.toList := by
  have h1 : ((out.map ByteArray.toList).mergeSort (fun x y => decide (x ≤ y))).Perm (L.map fun x => x.1.toList) := by
    refine (List.mergeSort_perm _ _).trans ?_
    have := hp.map ByteArray.toList
    rw [List.map_map] at this
    exact this
  have h2 := List.pairwise_mergeSort (le := fun x y : List UInt8 => decide (x ≤ y)) (fun a b c h1 h2 => by simp only [decide_eq_true_eq] at *; exact List.le_trans h1 h2) (fun a b => by simp only [Bool.or_eq_true, decide_eq_true_eq]; exact List.le_total a b) (out.map ByteArray.toList)
  have h3 : (L.map fun x => x.1.toList).Pairwise fun a b => decide (a ≤ b) = true := by
    rw [List.pairwise_map]
    refine ha.imp fun {a b} h => ?_
    unfold ltB at h
    rw [bl_lt] at h
    simp only [decide_eq_true_eq] at *
    exact List.le_of_lt h
  exact List.Perm.eq_of_pairwise (fun a b _ _ h1 h2 => by simp only [decide_eq_true_eq] at *; exact List.le_antisymm h1 h2) h2 h3 h1
end Go.Proofs.YtefigpmkiemfhaaDoor

namespace Go.Proofs.YtefigpmkiemfhaaDoor
open Go.Shelf
def lays190_ren : Go.Shelf.Ren := ⟨fun | 190 => 43 | 125 => 55 | 258 => 54 | 128 => 70 | 129 => 71 | 302 => 61 | 303 => 62 | 304 => 63 | 305 => 64 | 306 => 65 | 307 => 66 | 308 => 67 | 309 => 68 | 310 => 69 | 333 => 78 | 329 => 79 | 330 => 80 | 334 => 81 | 335 => 82 | 336 => 83 | 344 => 90 | n => n, fun | 31 => 26 | 9 => 9 | 3 => 3 | 46 => 107 | 0 => 0 | 51 => 122 | 53 => 103 | 4 => 4 | 183 => 115 | 182 => 114 | 131 => 110 | 5 => 5 | 218 => 125 | 222 => 129 | 228 => 137 | 229 => 59 | n => n, fun | n => n⟩
theorem lays190 : Go.Proofs.Lays.n190 Tryd.prog lays190_ren := {
  mixed := by kernel_rfl
  f125 := Tryd.func55.trans (congrArg some (by kernel_rfl))
  f128 := Tryd.func70.trans (congrArg some (by kernel_rfl))
  f129 := Tryd.func71.trans (congrArg some (by kernel_rfl))
  f190 := Tryd.func43.trans (congrArg some (by kernel_rfl))
  f258 := Tryd.func54.trans (congrArg some (by kernel_rfl))
  f302 := Tryd.func61.trans (congrArg some (by kernel_rfl))
  f303 := Tryd.func62.trans (congrArg some (by kernel_rfl))
  f304 := Tryd.func63.trans (congrArg some (by kernel_rfl))
  f305 := Tryd.func64.trans (congrArg some (by kernel_rfl))
  f306 := Tryd.func65.trans (congrArg some (by kernel_rfl))
  f307 := Tryd.func66.trans (congrArg some (by kernel_rfl))
  f308 := Tryd.func67.trans (congrArg some (by kernel_rfl))
  f309 := Tryd.func68.trans (congrArg some (by kernel_rfl))
  f310 := Tryd.func69.trans (congrArg some (by kernel_rfl))
  f329 := Tryd.func79.trans (congrArg some (by kernel_rfl))
  f330 := Tryd.func80.trans (congrArg some (by kernel_rfl))
  f333 := Tryd.func78.trans (congrArg some (by kernel_rfl))
  f334 := Tryd.func81.trans (congrArg some (by kernel_rfl))
  f335 := Tryd.func82.trans (congrArg some (by kernel_rfl))
  f336 := Tryd.func83.trans (congrArg some (by kernel_rfl))
  f344 := Tryd.func90.trans (congrArg some (by kernel_rfl))
  t0 := Tryd.underlying0
  a0 := Tryd.isAgg0
  z0 := Tryd.sizeOf0
  v0 := Tryd.zeroValue0
  t3 := Tryd.underlying3
  a3 := Tryd.isAgg3
  z3 := Tryd.sizeOf3
  v3 := Tryd.zeroValue3
  t4 := Tryd.underlying4
  a4 := Tryd.isAgg4
  z4 := Tryd.sizeOf4
  v4 := Tryd.zeroValue4
  t5 := Tryd.underlying5
  a5 := Tryd.isAgg5
  z5 := Tryd.sizeOf5
  v5 := Tryd.zeroValue5
  t9 := Tryd.underlying9
  a9 := Tryd.isAgg9
  z9 := Tryd.sizeOf9
  v9 := Tryd.zeroValue9
  t31 := Tryd.underlying26
  a31 := Tryd.isAgg26
  z31 := Tryd.sizeOf26
  v31 := Tryd.zeroValue26
  t46 := Tryd.underlying107
  a46 := Tryd.isAgg107
  z46 := Tryd.sizeOf107
  v46 := Tryd.zeroValue107
  t51 := Tryd.underlying122
  a51 := Tryd.isAgg122
  z51 := Tryd.sizeOf122
  v51 := Tryd.zeroValue122
  t53 := Tryd.underlying103
  a53 := Tryd.isAgg103
  z53 := Tryd.sizeOf103
  v53 := Tryd.zeroValue103
  t131 := Tryd.underlying110
  a131 := Tryd.isAgg110
  z131 := Tryd.sizeOf110
  v131 := Tryd.zeroValue110
  t182 := Tryd.underlying114
  a182 := Tryd.isAgg114
  z182 := Tryd.sizeOf114
  v182 := Tryd.zeroValue114
  t183 := Tryd.underlying115
  a183 := Tryd.isAgg115
  z183 := Tryd.sizeOf115
  v183 := Tryd.zeroValue115
  t218 := Tryd.underlying125
  a218 := Tryd.isAgg125
  z218 := Tryd.sizeOf125
  v218 := Tryd.zeroValue125
  t222 := Tryd.underlying129
  a222 := Tryd.isAgg129
  z222 := Tryd.sizeOf129
  v222 := Tryd.zeroValue129
  t228 := Tryd.underlying137
  a228 := Tryd.isAgg137
  z228 := Tryd.sizeOf137
  v228 := Tryd.zeroValue137
  t229 := Tryd.underlying59
  a229 := Tryd.isAgg59
  z229 := Tryd.sizeOf59
  v229 := Tryd.zeroValue59 }
open Go.Sort Go.RowKit in
theorem slices_Sort_string (blk off cap : Nat) (ss : List (List UInt8)) (w : World) (hH : Holds encStr w blk off ss.toArray) (hblk : blk < w.heap.size) (hsz : ss.length < 4611686018427387904) :
    Calls Tryd.prog 43 #[.slice (some ⟨blk, off, none⟩) ss.length cap] w fun e w' =>
      e = .returned (.tuple #[]) ∧ ∃ n os, w' = grow (putRow encStr (Sort.ahead w n) blk off (ss.mergeSort fun x y => decide (x ≤ y)).toArray) os := Any.slices_Sort_string lays190 blk off cap ss w hH hblk hsz
open Go.RowKit Go.Sort in
/-- .. and plain. (LAID: no walk: one application.) -/
theorem slices_Sort_string_none (p : Option Addr) (cap : Nat) (w : World) :
    Calls Tryd.prog 43 #[.slice p 0 cap] w fun e w' => e = .returned (.tuple #[]) ∧ w' = w := Any.slices_Sort_string_none lays190 p cap w
end Go.Proofs.YtefigpmkiemfhaaDoor

namespace Go.Proofs.YtefigpmkiemfhaaDoor
open Go.RowKit Go.Sort Go.Shelf
set_option linter.unusedVariables false
set_option linter.unusedSimpArgs false

theorem enc_of (k : ByteArray) : encStr k.toList = .string k := by
  rw [ByteArray.toList_eq]
theorem strs_get {l : List ByteArray} {j : Nat} (hj : j < l.length) : (strs l)[j]? = some (encStr ((l.map ByteArray.toList).toArray[j]!)) := by
  have h1 : (l.map ByteArray.toList).toArray[j]! = l[j].toList := by simp [hj]
  rw [h1, enc_of]
  simp [strs, hj]
theorem holds_strs {w : World} {g : Nat} {cur : Array Value} {e : TypeId} {l : List ByteArray} (hb : w.heap[g]? = some (.cells cur e (0, 0))) (ht : cur.toList.take (l.length * 1) = strs l) : Holds encStr w g 0 (l.map ByteArray.toList).toArray := by
  intro j hj
  have hj' : j < l.length := by simpa using hj
  have h1 := strs_get hj'
  rw [← ht, List.getElem?_take_of_lt (by omega), Array.getElem?_toList] at h1
  refine ⟨?_, by simp [World.frozen?, hb]⟩
  simp only [World.cell?, hb, Nat.zero_add, Option.isSome_none, Bool.false_eq_true, if_false]
  exact h1
theorem heap_sortedS {w : World} {g n : Nat} {os : Array Obj} {cur : Array Value} {e : TypeId} {fr : Nat × Nat} (d : Array (List UInt8)) (hb : w.heap[g]? = some (.cells cur e fr)) :
    (grow (putRow encStr (Sort.ahead w n) g 0 d) os).heap[g]? = some (.cells (putCells encStr 0 d cur) e fr) := by
  have hg : g < w.heap.size := (Array.getElem?_eq_some_iff.1 hb).1
  rw [heap_grow_old _ _ (by simpa using hg)]
  simp [putRow, mapBlock, Sort.ahead, Array.getElem?_modify, hb, onCells]
theorem grownBy_sortedS {w : World} {g n : Nat} {os : Array Obj} (d : Array (List UInt8)) : w.grownBy (grow (putRow encStr (Sort.ahead w n) g 0 d) os) (some g) := by
  refine ⟨rfl, rfl, rfl, by simp, fun k hk hne => ?_⟩
  rw [heap_grow_old _ _ (by simpa using hk)]
  have : g ≠ k := fun e => hne (by rw [e])
  simp [putRow, mapBlock, Sort.ahead, Array.getElem?_modify, this]
theorem ownsRow_sortedS {w : World} {base g cap n : Nat} {e : TypeId} {os : Array Obj} {cur : Array Value} {ss ts : List ByteArray} (hl : ts.length = ss.length) (hbase : base ≤ g) (hb : w.heap[g]? = some (.cells cur e (0, 0)))
    (h1 : ss.length ≤ cap) (h2 : cap ≤ maxLen) (h3 : cur.size = cap * 1) :
    (grow (putRow encStr (Sort.ahead w n) g 0 (ts.map ByteArray.toList).toArray) os).ownsRow base e 1 (.slice (some ⟨g, 0, none⟩) ss.length cap) ss.length (strs ts) := by
  refine ⟨by simp [strs, hl], .inr ⟨g, cap, _, rfl, hbase, heap_sortedS _ hb, h1, h2, by simp [putCells, h3], ?_⟩⟩
  apply List.ext_getElem?
  intro j
  by_cases hj : j < ts.length
  · rw [List.getElem?_take_of_lt (by omega), Array.getElem?_toList, strs_get hj]
    simp [putCells, hj, show j < cur.size by omega]
  · rw [List.getElem?_take_eq_none (by omega), List.getElem?_eq_none (by simp [strs]; omega)]
theorem sortk_any {base : Nat} {A : Option Addr} {c : Nat} (out : List ByteArray) (L : List Kv) (w : World) (ha : Asc L) (hp : out.Perm (L.map (·.1))) (hn : out.length ≤ 262144) (hown : w.ownsRow base 9 1 (.slice A out.length c) out.length (strs out)) :
    Calls Tryd.prog 43 #[.slice A out.length c] w fun e w' => e = .returned (.tuple #[]) ∧ w'.ownsRow base 9 1 (.slice A out.length c) out.length (strs (L.map (·.1))) ∧ w.grownBy w' (Value.slice A out.length c).ownBlock := by
  have hlen := hp.length_eq
  rcases hown.2 with ⟨hnil, h0⟩ | ⟨g, cap, cur, hv, hbase, hb, h1, h2, h3, h4⟩
  · rw [h0] at hown ⊢
    refine (slices_Sort_string_none A c w).mono ?_
    rintro e w' ⟨rfl, rfl⟩
    obtain rfl := List.eq_nil_of_length_eq_zero h0
    have : L.map (·.1) = [] := List.eq_nil_of_length_eq_zero hlen.symm
    rw [this]
    exact ⟨rfl, hown, World.grownBy.refl _ _⟩
  · injection hv with hA hn2 hc
    subst hA
    have hlt : g < w.heap.size := (Array.getElem?_eq_some_iff.1 hb).1
    have hcon := slices_Sort_string g 0 c (out.map ByteArray.toList) w (holds_strs hb h4) hlt (by simp; omega)
    rw [sort_keys ha hp, List.length_map] at hcon
    refine hcon.mono ?_
    rintro e w' ⟨rfl, n, os, rfl⟩
    refine ⟨rfl, ?_, grownBy_sortedS _⟩
    have := ownsRow_sortedS (n := n) (os := os) (ss := out) (ts := L.map (·.1)) hlen.symm hbase hb h1 h2 h3
    rw [hc]
    rw [List.map_map] at this
    exact this
end Go.Proofs.YtefigpmkiemfhaaDoor

namespace Go.Proofs.YtefigpmkiemfhaaDoor
open Go.RowKit Go.Sort Go.Shelf Go.Lib
set_option linter.unusedVariables false
set_option linter.unusedSimpArgs false

theorem info_item : (Tryd.prog.info? 77).map (fun i => (i.zero, i.size, i.bytes)) = some (some (.agg #[.string ⟨#[]⟩, .int .i64 0, .int .i64 0, .string ⟨#[]⟩]), 4, 48) := by kernel_rfl
section
variable {s : St} {w : World} {vb : Nat}
end
end Go.Proofs.YtefigpmkiemfhaaDoor

namespace Go.Proofs.YtefigpmkiemfhaaDoor
open Go.RowKit
set_option linter.unusedVariables false
set_option linter.unusedSimpArgs false

theorem info_map : (Tryd.prog.info? 82).map (fun i => (i.zero, i.size, i.bytes)) = some (some (.map none), 1, 8) := by kernel_rfl
theorem st_ok {p r : Nat} (hp : 1 ≤ p ∧ p ≤ 64) (hr : 1 ≤ r ∧ r ≤ 4096) : St.Ok ⟨p, r, []⟩ := ⟨hp, hr, by simp [Asc], by simp, by simp, fun q _ => by simp [cntP]⟩
def goodPR (p r : Int) : Bool := decide (1 ≤ p) && decide (p ≤ 64) && decide (1 ≤ r) && decide (r ≤ 4096)
theorem new_bad (p r : Int) (w : World) (h : goodPR p r = false) : Calls Tryd.prog 20 #[.int .i64 p, .int .i64 r] w fun e w' => e = .returned (.tuple #[.pointer none, .int .i64 2]) ∧ w' = w := by
  have hc : p < 1 ∨ (1 ≤ p ∧ 64 < p) ∨ (1 ≤ p ∧ p ≤ 64 ∧ r < 1) ∨ (1 ≤ p ∧ p ≤ 64 ∧ 1 ≤ r ∧ 4096 < r) := by
    unfold goodPR at h
    simp at h
    omega
  clear h
  rcases hc with h | ⟨h1, h⟩ | ⟨h1, h2, h⟩ | ⟨h1, h2, h3, h⟩
  · have t1 : decide (p < 1) = true := decide_eq_true h
    clear h
    go_enter Tryd.func20, Tryd.ntmps20
    go_wp2_with fail
    go_ret2
    exact ⟨rfl, rfl⟩
  · have t1 : decide (p < 1) = false := decide_eq_false (by omega)
    have t2 : decide (64 < p) = true := decide_eq_true h
    clear h h1
    go_enter Tryd.func20, Tryd.ntmps20
    go_wp2_with fail
    go_ret2
    exact ⟨rfl, rfl⟩
  · have t1 : decide (p < 1) = false := decide_eq_false (by omega)
    have t2 : decide (64 < p) = false := decide_eq_false (by omega)
    have t3 : decide (r < 1) = true := decide_eq_true h
    clear h h1 h2
    go_enter Tryd.func20, Tryd.ntmps20
    go_wp2_with fail
    go_ret2
    exact ⟨rfl, rfl⟩
  · have t1 : decide (p < 1) = false := decide_eq_false (by omega)
    have t2 : decide (64 < p) = false := decide_eq_false (by omega)
    have t3 : decide (r < 1) = false := decide_eq_false (by omega)
    have t4 : decide (4096 < r) = true := decide_eq_true h
    clear h h1 h2 h3
    go_enter Tryd.func20, Tryd.ntmps20
    go_wp2_with fail
    go_ret2
    exact ⟨rfl, rfl⟩
/-- under way: k maps are made -/
structure NewRel (w wr : World) (r k : Nat) (A : Option Addr) (c : Nat) (mb : Nat → Nat) : Prop where
  blk : Blk wr (w.heap.size + 1) 81 #[.int .i64 r, .slice A k c, .map (some w.heap.size)]
  own : wr.ownsRow (w.heap.size + 2) 82 1 (.slice A k c) k ((List.range k).map fun i => .map (some (mb i)))
  mp : ∀ i, i < k → MapF strE wr (mb i) (fun _ => none) ∧ w.heap.size + 2 ≤ mb i
  inj : ∀ i j, i < k → j < k → mb i = mb j → i = j
  vals : MapF strE wr w.heap.size fun _ => none
  bel : Below w.heap.size w wr
theorem NewRel.fin {w wr : World} {r k : Nat} {A : Option Addr} {c : Nat} {mb : Nat → Nat} (h : NewRel w wr r k A c mb) (hk : 1 ≤ k ∧ k ≤ 64) (hr : 1 ≤ r ∧ r ≤ 4096) : PAt (fun j => w.heap.size ≤ j ∧ j < wr.heap.size) wr (w.heap.size + 1) ⟨k, r, []⟩ := by
  rcases h.own.2 with ⟨_, h0⟩ | ⟨g, cap, cur, hv, hbase, hb, h1, h2, h3, h4⟩
  · omega
  · injection hv with hA _ _
    subst hA
    have hgl : g < wr.heap.size := (Array.getElem?_eq_some_iff.1 hb).1
    refine ⟨g, c, mb, w.heap.size, h.blk, ⟨cur, hb, fun p hp => ?_⟩, fun p hp => ?_, fun p q hp hq => h.inj p q hp hq, ?_, fun p hp => ?_, ⟨⟨by omega, h.blk.lt⟩, ⟨by omega, hgl⟩, ⟨Nat.le_refl _, h.vals.lt⟩, fun p hp => ⟨by have := (h.mp p hp).2; omega, (h.mp p hp).1.lt⟩⟩, fun j hj => hj.2, st_ok hk hr⟩
    · have hp' : p < k := hp
      have := congrArg (fun l => l[p]?) h4
      simp only [Nat.mul_one] at this
      rw [List.getElem?_take_of_lt hp', Array.getElem?_toList] at this
      rw [this, List.getElem?_map, List.getElem?_range hp']; rfl
    · refine (h.mp p hp).1.congr fun y => ?_
      simp [Dc, hasK]
    · refine h.vals.congr fun y => ?_
      simp [Dv, valK, vl0]
    · have := (h.mp p hp).2; omega
set_option maxRecDepth 100000 in
set_option maxHeartbeats 4000000 in
theorem new_ok (p r : Nat) (w : World) (hp : 1 ≤ p ∧ p ≤ 64) (hr : 1 ≤ r ∧ r ≤ 4096) : Calls Tryd.prog 20 #[.int .i64 p, .int .i64 r] w fun e w' => ∃ S g, e = .returned (.tuple #[.pointer (some ⟨g, 0, none⟩), .int .i64 0]) ∧ PAt S w' g ⟨p, r, []⟩ ∧ (∀ j, S j → w.heap.size ≤ j) ∧ Below w.heap.size w w' := by
  have t1 : decide ((p : Int) < 1) = false := decide_eq_false (by omega)
  have t2 : decide (64 < (p : Int)) = false := decide_eq_false (by omega)
  have t3 : decide ((r : Int) < 1) = false := decide_eq_false (by omega)
  have t4 : decide (4096 < (r : Int)) = false := decide_eq_false (by omega)
  have t2n : decide (64 < p) = false := decide_eq_false (by omega)
  have t4n : decide (4096 < r) = false := decide_eq_false (by omega)
  have hmm := @run_makeMap Tryd.prog
  obtain ⟨ip, hip, hp0, hp1, hp2⟩ := info_parts info_map
  have hpp := hid hp
  have hrr := hid hr
  have hP : (p : Int) ≤ 64 := by omega
  clear hp hr
  go_enter Tryd.func20, Tryd.ntmps20
  go_upto_region 4 with fail
  have hb0 : Below w.heap.size w ((w.alloc (.map #[] 0)).alloc (.cells #[.int .i64 r, .slice none 0 0, .map (some w.heap.size)] 81)) := below_two _ _
  have R0 : NewRel w ((w.alloc (.map #[] 0)).alloc (.cells #[.int .i64 r, .slice none 0 0, .map (some w.heap.size)] 81)) r 0 none 0 (fun _ => 0) :=
    ⟨Blk.new' _ _ _ (by simp), World.ownsRow_nil _ _ _ _, fun i hi => by omega, fun i j hi => by omega, (MapF.new w).keep (Below.heap_alloc _ _ _ (by simp)), hb0⟩
  have R0 := hid R0
  generalize (w.alloc (.map #[] 0)).alloc (.cells #[.int .i64 r, .slice none 0 0, .map (some w.heap.size)] 81) = W1 at *
  clear hb0
  go_wp2_with fail
  go_loopw [26] (fun v wr => ∃ (k : Nat) (A : Option Addr) (c : Nat) (mb : Nat → Nat), v = .int .i64 k ∧ k ≤ p ∧ NewRel w wr r k A c mb) (fun v _ => p - (intOf v).toNat)
  case atStart => exact ⟨0, none, 0, _, rfl, Nat.zero_le _, R0.out⟩
  case round =>
    clear R0
    obtain ⟨k, A, c, mb, rfl, hk, R⟩ := hrel
    have R := hid R
    have c1 : wr.cell? ⟨w.heap.size + 1, 1, none⟩ = some (.slice A k c) := R.out.blk.cell 1
    by_cases hlt : k < p
    · have i1 : (k : Int) < (p : Int) := by omega
      have hsz := R.out.bel.size
      have c1a : ((wr.alloc (.map #[] 0)).alloc (.cells #[.map (some wr.heap.size)] 82)).cell? ⟨w.heap.size + 1, 1, none⟩ = some (.slice A k c) := ((R.out.blk.alloc _).alloc _).cell 1
      have hgl := hid R.out.blk.lt
      have hownA := hid ((R.out.own.alloc (.map #[] 0)).alloc (.cells #[.map (some wr.heap.size)] 82))
      have hsz' := hid hsz
      have hPk := hid (show k ≤ 64 by omega)
      clear hsz c1a
      go_wp2_with (
        at_builtin
        refine wpList_append_rd _ rfl (.tmp 32) (.tmp 34) 79 rfl (w.heap.size + 2) 82 ip _ 1 8 Tryd.underlying79 hip hp0 hp1 hp2 rfl (by omega) (.slice A k c) k _ rfl hownA.out (fun b => b = wr.heap.size + 1) (some ⟨wr.heap.size + 1, 0, none⟩) 1 1 [.map (some wr.heap.size)] rfl (Rd.new _ 82 1 1 #[.map (some wr.heap.size)] _ (by simp) rfl) (by simp [Value.oneCell']) (by have := hPk.out; simp only [maxLen]; omega) (by have := hPk.out; omega) (by have := hgl.out; simp; omega) ?_
        intro v3 w3 hown3 hg3 hat3
        obtain ⟨A3, c3, rfl, hc3, _⟩ := own_form hown3
        have hgn : some (w.heap.size + 1) ≠ (Value.slice A k c).ownBlock := fun e => by have := (R.out.own.lt _ e.symm).1; omega
        have b3 : Blk w3 (w.heap.size + 1) 81 #[.int .i64 r, .slice A k c, .map (some w.heap.size)] := ((R.out.blk.alloc _).alloc _).grown hg3 hgn
        have x1 : w3.cell? ⟨w.heap.size + 1, 1, none⟩ = some (.slice A k c) := b3.cell 1
        have xf := b3.frozen
        have hb3 := hid b3
        have hgg := hid hg3
        have hoo := hid hown3
        clear b3 hg3 hown3 hgn)
      have hu3 : Upd (fun j => (Value.slice A k c).ownBlock = some j) wr w3 := (((Upd.refl _ wr).alloc _).alloc _).grown hgg.out fun q hq _ => hq
      have hu4 : Upd (fun j => (Value.slice A k c).ownBlock = some j ∨ j = w.heap.size + 1) wr (w3.setCell ⟨w.heap.size + 1, 1, none⟩ (.slice A3 (k + 1) c3)) := (hu3.mono fun j _ h => .inl h).setCell (p := ⟨w.heap.size + 1, 1, none⟩) (fun _ => .inr rfl) _
      have hnm : ∀ {b D}, MapF strE wr b D → ¬ ((Value.slice A k c).ownBlock = some b ∨ b = w.heap.size + 1) := fun {b D} hm h => by
        rcases h with h | h
        · rcases R.out.own.2 with ⟨hn, _⟩ | ⟨gr, cap, cur, hv, _, hbb, _⟩
          · rw [hn] at h; cases h
          · rw [hv] at h
            injection h with h
            exact hm.ne_blk hbb h.symm
        · exact hm.ne_blk R.out.blk h
      go_roundw
      case rel =>
        have hwl : w.heap.size + 1 < wr.heap.size := hgl.out
        refine ⟨k + 1, A3, c3, fun j => if j = k then wr.heap.size else mb j, by go_num, hlt, ⟨?_, ?_, fun i hi => ?_, fun i j hi hj e => ?_, (R.out.vals.upd hu4 (hnm R.out.vals)), ?_⟩⟩
        · exact hb3.out.set_ 1 _
        · have h1 : (w3.setCell ⟨w.heap.size + 1, 1, none⟩ (.slice A3 (k + 1) c3)).ownsRow (w.heap.size + 2) 82 1 (.slice A3 (k + 1) c3) (k + 1) ((List.range k).map (fun i => .map (some (mb i))) ++ [.map (some wr.heap.size)]) := own_updB hoo.out ((Upd.refl (fun j => j = w.heap.size + 1) w3).setCell (p := ⟨w.heap.size + 1, 1, none⟩) (fun _ => rfl) _) fun q hq _ e => by omega
          rw [List.range_succ, List.map_append]
          have e : (List.range k).map (fun i => Value.map (some (if i = k then wr.heap.size else mb i))) = (List.range k).map (fun i => Value.map (some (mb i))) := List.map_congr_left fun i hi => by rw [if_neg (by have := List.mem_range.1 hi; omega)]
          rw [e]
          simpa using h1
        · by_cases e : i = k
          · subst e
            rw [if_pos rfl]
            refine ⟨?_, by omega⟩
            have h0 : MapF strE (wr.alloc (.map #[] 0)) wr.heap.size fun _ => none := MapF.new wr
            have h1 : w3.heap[wr.heap.size]? = (wr.alloc (.map #[] 0)).heap[wr.heap.size]? := (hgg.out.block _ (by simp; omega) fun e => by
              have := (R.out.own.lt _ e.symm).2
              omega).trans (Below.heap_alloc _ _ _ (by simp))
            exact (h0.keep h1).keep (Below.heap_setCell _ _ _ _ (by simp only; omega))
          · rw [if_neg e]
            have := R.out.mp i (by omega)
            exact ⟨this.1.upd hu4 (hnm this.1), this.2⟩
        · have hml : ∀ i, i < k → mb i < wr.heap.size := fun i hi => (R.out.mp i hi).1.lt
          by_cases e1 : i = k
          · by_cases e2 : j = k
            · omega
            · rw [if_pos e1, if_neg e2] at e
              have := hml j (by omega); omega
          · by_cases e2 : j = k
            · rw [if_neg e1, if_pos e2] at e
              have := hml i (by omega); omega
            · rw [if_neg e1, if_neg e2] at e
              exact R.out.inj i j (by omega) (by omega) e
        · exact R.out.bel.trans ((hu4.below (B := w.heap.size) (by omega) fun j hj h => by
            rcases h with h | h
            · have := (R.out.own.lt _ h).1; omega
            · omega))
      case measure => simp [intOf]; omega
    · obtain rfl : k = p := by omega
      have hfin := hid (R.out.fin hpp.out hrr.out)
      have hB := hid R.out.bel
      clear R
      go_wp2_with fail
      go_ret2
      exact ⟨_, _, rfl, hfin.out, fun j hj => hj.1, hB.out⟩
end Go.Proofs.YtefigpmkiemfhaaDoor

namespace Go.Proofs.YtefigpmkiemfhaaDoor
open Go.RowKit
set_option linter.unusedVariables false
set_option linter.unusedSimpArgs false

section
variable {S : Nat → Prop} {w w' : World} {g vb : Nat} {L : List Kv}
end
theorem valK_zero {s : St} (h : s.Ok) {k : ByteArray} (h0 : (valK k s.L).k = 0) : valK k s.L = vl0 := by
  cases hh : hasK k s.L with
  | false => exact valK_none hh
  | true =>
    obtain ⟨x, hx, hk⟩ := hasK_mem.1 hh
    have h1 := valK_mem h.asc hx
    rw [hk] at h1
    have h2 := h.val x hx
    rw [← h1] at h2
    unfold Vl.ok at h2
    rw [if_pos h0] at h2
    simp at h2
    have e : valK k s.L = ⟨(valK k s.L).k, (valK k s.L).n, (valK k s.L).s⟩ := rfl
    rw [e, h0, h2.1, h2.2]; rfl
theorem dv_get {s : St} (h : s.Ok) (k : ByteArray) : (Dv s.L k).getD (.agg #[.int .i64 0, .int .i64 0, .string ⟨#[]⟩]) = .agg #[.int .i64 (valK k s.L).k, .int .i64 (valK k s.L).n, .string (valK k s.L).s] := by
  unfold Dv
  by_cases h0 : (valK k s.L).k = 0
  · rw [if_pos h0, valK_zero h h0]; rfl
  · rw [if_neg h0]; rfl
theorem zero_val (w : World) : (zeroValue 47).run Tryd.prog w = .ok (.agg #[.int .i64 0, .int .i64 0, .string ⟨#[]⟩]) w := by kernel_rfl
section
variable {S : Nat → Prop} {w w' : World} {g : Nat} {s : St}
end
end Go.Proofs.YtefigpmkiemfhaaDoor

