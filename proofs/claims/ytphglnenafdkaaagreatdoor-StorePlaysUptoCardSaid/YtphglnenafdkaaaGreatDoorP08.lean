/- Texts of the proof, joined: SPlR, SVR, SActs, SStory, Dr, SPlC, SRDump, SHeldE. -/
import Derived.Test.YtphglnenafdkaaaGreatDoorP05
import Derived.Test.YtphglnenafdkaaaGreatDoorP07
import Derived.Lib.ItoaLen
import Derived.Test.YtphglnenafdkaaaGreatDoorP01
import Derived.Deep.RegionHeld3
import Derived.Test.YtphglnenafdkaaaGreatDoorRows
namespace Go.Proofs.YtphglnenafdkaaaGreatDoor
open Go.RowKit
set_option linter.unusedVariables false
set_option linter.unusedSimpArgs false

/-- how many keys have a partition: any number -/
def cntI (n : Nat) (p : Int) (L : List Kv) : Nat := L.countP fun x => decide (((partK n x.1 : Nat) : Int) = p)
theorem cntI_nat (n p : Nat) (L : List Kv) : cntI n p L = cntP n p L := by
  unfold cntI cntP
  congr 1
  funext x
  exact decide_eq_decide.2 (by omega)
theorem cntI_out {n : Nat} {p : Int} (L : List Kv) (h0 : 0 < n) (h : p < 0 ∨ (n : Int) ≤ p) : cntI n p L = 0 := by
  unfold cntI
  apply List.countP_eq_zero.2
  intro x _
  have := partK_lt x.1 h0
  simp
  omega
theorem cntI_snoc (n : Nat) (p : Int) (L : List Kv) (x : Kv) : cntI n p (L ++ [x]) = cntI n p L + if ((partK n x.1 : Nat) : Int) = p then 1 else 0 := by
  unfold cntI
  rw [List.countP_append]
  by_cases h : ((partK n x.1 : Nat) : Int) = p <;> simp [h]
theorem cntI_le (n : Nat) (p : Int) (L : List Kv) : cntI n p L ≤ L.length := List.countP_le_length
section
variable {S : Nat → Prop} {w w' : World} {r g : Nat} {s : St}
set_option maxRecDepth 100000 in
set_option maxHeartbeats 4000000 in
theorem rclaims_any (h : RAt S w r s) (p : Int) : Calls Tryz.prog 54 #[.pointer (some ⟨r, 0, none⟩), .int .i64 p] w fun e w' => e = .returned (.int .i64 (cntI s.parts p s.L : Nat)) ∧ Below w.heap.size w w' := by
  obtain ⟨A, c, h⟩ := h
  have HH := hid h
  have hlen := hid h.ok.len
  clear h
  go_enter Tryz.func54, Tryz.ntmps54
  go_wp2_with fail
  go_loopw [5, 6] (fun u v wr => ∃ k : Nat, u = .int .i64 (cntI s.parts p (s.L.take k) : Nat) ∧ v = .int .i64 k ∧ k ≤ s.L.length ∧ Below w.heap.size w wr) (fun u v _ => s.L.length - (intOf v).toNat)
  case atStart => exact ⟨0, rfl, rfl, Nat.zero_le _, Below.refl _ _⟩
  case round =>
    obtain ⟨k, rfl, rfl, hk, hB0⟩ := hrel
    have hB := hid hB0
    clear hB0
    have hP := HH.out.below hB.out
    have d0 := hP.cells.1
    have d2 := hP.cells.2.2
    by_cases hlt : k < s.L.length
    · have i1 : (k : Int) < (s.L.length : Int) := by omega
      obtain ⟨b, o, rfl, _, _, x0, -⟩ := rd_kv hP.rd hlt
      have hks := HH.out.ok.key _ (List.getElem_mem hlt)
      have hsz : (s.L[k]).1.size ≤ 9223372036854775806 := by
        unfold validK at hks
        simp at hks
        omega
      have hpa := hid fun q => rpart_any (s.L[k]).1 s.parts (wr.drewN q) hsz HH.out.ok.parts.1 HH.out.ok.parts.2
      have htk := hid (take_snoc hlt)
      have hst := hid (cntI_snoc s.parts p (s.L.take k) s.L[k])
      have hle : ((cntI s.parts p (s.L.take k) : Nat) : Int) ≤ 262144 := by
        have h1 := cntI_le s.parts p (s.L.take k)
        have h2 : (s.L.take k).length ≤ s.L.length := by simp; omega
        have := hlen.out
        omega
      rw [← htk.out] at hst
      obtain ⟨n, hn⟩ : ∃ n, n = cntI s.parts p (s.L.take k) := ⟨_, rfl⟩
      rw [← hn] at hst hle ⊢
      have hl9 := hid (show (s.L.length : Int) ≤ 262144 by have := hlen.out; omega)
      obtain ⟨q, hq⟩ : ∃ q, q = partK s.parts (s.L[k]).1 := ⟨_, rfl⟩
      rw [← hq] at hst hpa
      generalize (s.L[k]).1 = y at *
      have hkk : IntKind.i64.wrap ((k : Int) + 1) = (k : Int) + 1 := by rw [IntKind.wrap_i64]; have := hl9.out; omega
      have hn1 : IntKind.i64.wrap ((n : Int) + 1) = (n : Int) + 1 := by rw [IntKind.wrap_i64]; omega
      have hlt9 := hid hlt
      clear hP hn hq htk hks hsz hle hlt
      by_cases e : ((q : Nat) : Int) = p
      · have t0 : (((q : Nat) : Int) == p) = true := by simp [e]
        have hst : Hid (cntI s.parts p (s.L.take (k + 1)) = n + 1) := hid (by rw [hst.out, if_pos e])
        clear e
        go_wp2_with fail
        go_quiet ((go_at_call 47; exact Calls.quiet_of_same (hpa.out _)))
        go_wp2_with fail
        go_roundw
        case rel => exact ⟨k + 1, by rw [hst.out]; go_num, by go_num, hlt9.out, below_drewN hB.out _⟩
        case measure => simp [intOf]; have := hlt9.out; omega
      · have t0 : (((q : Nat) : Int) == p) = false := by simp [e]
        have hst : Hid (cntI s.parts p (s.L.take (k + 1)) = n) := hid (by rw [hst.out, if_neg e]; rfl)
        clear e
        go_wp2_with fail
        go_quiet ((go_at_call 47; exact Calls.quiet_of_same (hpa.out _)))
        go_wp2_with fail
        go_roundw
        case rel => exact ⟨k + 1, by rw [hst.out], by go_num, hlt9.out, below_drewN hB.out _⟩
        case measure => simp [intOf]; have := hlt9.out; omega
    · obtain rfl : k = s.L.length := by omega
      rw [List.take_length]
      clear hP
      go_wp2_with fail
      go_ret
      exact ⟨rfl, hB.out⟩
set_option maxRecDepth 100000 in
set_option maxHeartbeats 4000000 in
theorem rget_any (k : ByteArray) (h : RAt S w r s) : Calls Tryz.prog 23 #[.pointer (some ⟨r, 0, none⟩), .string k] w fun e w' => e = .returned (.agg #[.int .i64 (valK k s.L).k, .int .i64 (valK k s.L).n, .string (valK k s.L).s]) ∧ Below w.heap.size w w' := by
  have hB0 : Below w.heap.size w (w.alloc (.cells #[.int .i64 0, .int .i64 0, .string ⟨#[]⟩] 38)) := (Below.refl _ _).alloc (Nat.le_refl _) _
  have h1 := h.below hB0
  have ha := hid (at_any k h1)
  have HH := hid h1
  have hB1 := hid hB0
  have k0 := hid (Blk.new w 38 #[.int .i64 0, .int .i64 0, .string ⟨#[]⟩])
  clear h h1 hB0
  go_enter Tryz.func23, Tryz.ntmps23
  go_upto_region 1 with fail
  generalize w.alloc (.cells #[.int .i64 0, .int .i64 0, .string ⟨#[]⟩] 38) = w1 at *
  go_wp2_with fail
  refine ha.out.mono ?_
  rintro e w2 ⟨rfl, hb2⟩
  have k2 := hid (k0.out.below_all hb2)
  have h2 := HH.out.below hb2
  have hB2 := hid (hB1.out.trans (hb2.mono hB1.out.size))
  clear hb2 ha k0
  have z0 := k2.out.cell 0
  have z1 := k2.out.cell 1
  have z2 := k2.out.cell 2
  simp only [List.getElem?_toArray, List.getElem?_cons_zero, List.getElem?_cons_succ] at z0 z1 z2
  have fz := fun q => k2.out.frozen q
  obtain ⟨A, c, h2⟩ := h2
  cases hh : hasK k s.L with
  | false =>
    have hv := hid (valK_none hh)
    clear h2 hh HH
    go_wp2_with fail
    refine bodyPost_ret (v := .agg #[.int .i64 0, .int .i64 0, .string ⟨#[]⟩]) ?_ rfl ⟨by rw [hv.out]; rfl, ?_⟩
    · exact results_cell_row (P := Tryz.prog) rfl _ _ w.heap.size 38 _ (0, 0) _ rfl (show Blk _ _ _ #[.int .i64 0, .int .i64 0, .string ⟨#[]⟩] from by simpa using ((k2.out.set_ 0 _).set_ 1 _).set_ 2 _) Tryz.underlying38 rfl (by kernel_rfl)
    · exact ((hB2.out.setCell (p := ⟨w.heap.size, 0, none⟩) (Nat.le_refl _) _).setCell (p := ⟨w.heap.size, 1, none⟩) (Nat.le_refl _) _).setCell (p := ⟨w.heap.size, 2, none⟩) (Nat.le_refl _) _
  | true =>
    obtain ⟨x, hx1, hx2, hx3⟩ := pos_get h2.ok.asc hh
    obtain ⟨hlt, hx1⟩ := List.getElem?_eq_some_iff.1 hx1
    have i1 : ((posK k s.L : Nat) : Int) < (s.L.length : Int) := by omega
    have hl9 : (s.L.length : Int) ≤ 262144 := by have := h2.ok.len; omega
    have d2 := h2.cells.2.2
    obtain ⟨b, o, rfl, _, _, y0, y1, y2, y3⟩ := rd_kv h2.rd hlt
    rw [hx1] at y1 y2 y3
    have hval := hid hx3
    clear hx1 hx2 hx3 y0 hh h2 HH
    generalize posK k s.L = i at *
    generalize x.2 = v at *
    go_wp2_with fail
    refine bodyPost_ret (v := .agg #[.int .i64 v.k, .int .i64 v.n, .string v.s]) ?_ rfl ⟨by rw [← hval.out], ?_⟩
    · exact results_cell_row (P := Tryz.prog) rfl _ _ w.heap.size 38 _ (0, 0) _ rfl (show Blk _ _ _ #[.int .i64 v.k, .int .i64 v.n, .string v.s] from by simpa using ((k2.out.set_ 0 _).set_ 1 _).set_ 2 _) Tryz.underlying38 rfl (by kernel_rfl)
    · exact ((hB2.out.setCell (p := ⟨w.heap.size, 0, none⟩) (Nat.le_refl _) _).setCell (p := ⟨w.heap.size, 1, none⟩) (Nat.le_refl _) _).setCell (p := ⟨w.heap.size, 2, none⟩) (Nat.le_refl _) _
set_option maxRecDepth 100000 in
theorem sroom_any (h : PAt S w g s) : Calls Tryz.prog 50 #[.pointer (some ⟨g, 0, none⟩)] w fun e w' => e = .returned (.int .i64 s.room) ∧ w' = w := by
  obtain ⟨cb, cc, mb, vb, h⟩ := h
  have c1 := h.cells.1
  clear h
  go_enter Tryz.func50, Tryz.ntmps50
  go_wp2_with fail
  go_ret
  exact ⟨rfl, rfl⟩
set_option maxRecDepth 100000 in
theorem claims_out (h : PAt S w g s) (p : Int) (hp : p < 0 ∨ (s.parts : Int) ≤ p) : Calls Tryz.prog 53 #[.pointer (some ⟨g, 0, none⟩), .int .i64 p] w fun e w' => e = .returned (.int .i64 0) ∧ w' = w := by
  have hpt := hid (parts_any h)
  clear h
  by_cases h0 : p < 0
  · have t1 : decide (p < 0) = true := decide_eq_true h0
    clear h0 hp
    go_enter Tryz.func53, Tryz.ntmps53
    go_wp2_with fail
    go_ret
    exact ⟨rfl, rfl⟩
  · have t1 : decide (p < 0) = false := decide_eq_false h0
    have t2 : decide ((s.parts : Int) ≤ p) = true := decide_eq_true (by omega)
    clear h0 hp
    go_enter Tryz.func53, Tryz.ntmps53
    go_wp2_with fail
    refine hpt.out.mono ?_
    rintro e wq ⟨rfl, hwq⟩
    obtain rfl := hwq.symm
    go_wp2_with fail
    go_ret
    exact ⟨rfl, rfl⟩
theorem claimsI_any (h : PAt S w g s) (p : Int) : Calls Tryz.prog 53 #[.pointer (some ⟨g, 0, none⟩), .int .i64 p] w fun e w' => e = .returned (.int .i64 (cntI s.parts p s.L : Nat)) ∧ w' = w := by
  by_cases h0 : p < 0 ∨ (s.parts : Int) ≤ p
  · rw [cntI_out s.L (by have := h.ok.parts; omega) h0]
    exact claims_out h p h0
  · obtain ⟨q, rfl⟩ : ∃ q : Nat, p = q := ⟨p.toNat, by omega⟩
    rw [cntI_nat]
    exact claims_any h q (by omega)
set_option maxRecDepth 100000 in
theorem vdump_any (h : VAt S w g s.L) (hok : s.Ok) : Calls Tryz.prog 27 #[.pointer (some ⟨g, 0, none⟩)] w fun e w' => ∃ A c, e = .returned (.slice A (dumpL s.L).length c) ∧ w'.ownsRow (w.heap.size + 1) 70 4 (.slice A (dumpL s.L).length c) (dumpL s.L).length (kvCells (dumpL s.L)) ∧ Below w.heap.size w w' := by
  obtain ⟨vb, h⟩ := h
  have c2 : w.cell? ⟨g, 0, none⟩ = some (.map (some vb)) := h.blk.cell 0
  have hd := hid (dump_any h.vals hok)
  clear h
  go_enter Tryz.func27, Tryz.ntmps27
  go_wp2_with fail
  refine hd.out.mono ?_
  rintro e w2 ⟨A, c, rfl, h1, h2⟩
  have h1 := hid h1
  have h2 := hid h2
  go_wp2_with fail
  go_ret
  exact ⟨A, c, rfl, h1.out, h2.out⟩
end
end Go.Proofs.YtphglnenafdkaaaGreatDoor

namespace Go.Proofs.YtphglnenafdkaaaGreatDoor
open Go.RowKit
set_option linter.unusedVariables false
set_option linter.unusedSimpArgs false

theorem enc_dig (d : Nat) (h : d < 10) : Utf8.encode (48 + (d : Int)) = ⟨#[UInt8.ofNat (48 + d)]⟩ := by
  have hv : Utf8.valid (48 + (d : Int)) = true := by unfold Utf8.valid; simp; omega
  unfold Utf8.encode
  rw [if_pos hv, if_pos (by omega)]
  congr 2
theorem conv_dig (d : Nat) (h : d < 10) (w : World) : (convert 21 9 (.int .i32 (48 + (d : Int)))).run Tryz.prog w = .ok (.string ⟨#[UInt8.ofNat (48 + d)]⟩) w := by
  rw [run_convert_int_string w _ _ .i32 _ (by rw [Tryz.underlying21]; rfl) Tryz.underlying9, enc_dig d h]
def pre (n : Nat) : List UInt8 := if n < 10 then [] else Lib.decDigits (n / 10)
theorem dec_pre (n : Nat) : Lib.decDigits n = pre n ++ [UInt8.ofNat (48 + n % 10)] := by
  rw [Lib.decDigits]
  unfold pre
  by_cases h : n < 10
  · rw [dif_pos h, if_pos h, Nat.mod_eq_of_lt h]; rfl
  · rw [dif_neg h, if_neg h]
theorem pre_step {n : Nat} (h : ¬ n < 10) (out : List UInt8) : pre n ++ out = pre (n / 10) ++ (UInt8.ofNat (48 + n / 10 % 10) :: out) := by
  have e := dec_pre (n / 10)
  conv => lhs; unfold pre
  rw [if_neg h, e, List.append_assoc]
  rfl
set_option maxRecDepth 100000 in
set_option maxHeartbeats 4000000 in
theorem rdigits_any (N : Nat) (hN : N < 18446744073709551616) (w : World) :
    Calls Tryz.prog 93 #[.int .u64 (N : Nat)] w fun e w' => e = .returned (.string ⟨(Lib.decDigits N).toArray⟩) ∧ w' = w := by
  have hlen : Hid ((Lib.decDigits N).length ≤ 20) := hid (by rw [Lib.decDigits_length]; exact Lib.nDigits_le20 N hN)
  have hNN := hid hN
  obtain ⟨D, hD⟩ : ∃ D, D = N % 10 := ⟨_, rfl⟩
  have hst : Hid (pre N ++ [UInt8.ofNat (48 + D)] = Lib.decDigits N) := hid (by rw [hD]; exact (dec_pre N).symm)
  have hD9 : (D : Int) ≤ 9 := by omega
  have hD0 : (0 : Int) ≤ (D : Int) := by omega
  have g1 : Int.tmod (N : Int) 10 = (D : Int) := by rw [Int.tmod_eq_emod_of_nonneg (by omega)]; omega
  have g2 : (N : Int) % 10 = (D : Int) := by omega
  have hcv := conv_dig D (by omega)
  have hec := enc_dig D (by omega)
  obtain ⟨c, hc⟩ : ∃ c : UInt8, c = UInt8.ofNat (48 + D) := ⟨_, rfl⟩
  rw [← hc] at hst hec
  simp only [← hc] at hcv
  clear hN hD hc
  go_enter Tryz.func93, Tryz.ntmps93
  go_wp2_with fail
  go_loopw [0, 3] (fun v0 v3 wr => ∃ (n : Nat) (t : ByteArray), v0 = .int .u64 (n : Nat) ∧ v3 = .string t ∧ n < 18446744073709551616 ∧ wr = w ∧ pre n ++ t.data.toList = Lib.decDigits N) (fun v0 _ _ => (intOf v0).toNat)
  case atStart => exact ⟨N, ⟨#[c]⟩, rfl, rfl, hNN.out, rfl, hst.out⟩
  case round =>
    clear g1 g2 hcv hD9 hD0 hst hec
    obtain ⟨n, t, rfl, rfl, hn0, rfl, ho0⟩ := hrel
    have hn := hid hn0; have ho := hid ho0
    have hol : (t.size : Int) ≤ 20 := by
      have h1 := hlen.out
      have h3 : t.data.toList.length = t.size := by rw [Array.length_toList]; rfl
      rw [← ho0, List.length_append, h3] at h1
      omega
    by_cases hge : n < 10
    · have i1 : ¬ ((10 : Int) ≤ (n : Int)) := by omega
      have hfin : Hid (t.data.toList = Lib.decDigits N) := hid (by have := ho0; unfold pre at this; rw [if_pos hge] at this; exact this)
      clear hn0 ho0 hge
      go_wp2_with fail
      go_ret
      exact ⟨by rw [← hfin.out]; rfl, by first | rfl | trivial⟩
    · have i1 : (10 : Int) ≤ (n : Int) := by omega
      obtain ⟨q, hq⟩ : ∃ q, q = n / 10 := ⟨_, rfl⟩
      obtain ⟨D, hD⟩ : ∃ D, D = q % 10 := ⟨_, rfl⟩
      have hD9 : (D : Int) ≤ 9 := by omega
      have hD0 : (0 : Int) ≤ (D : Int) := by omega
      have g0 : (n : Int) / 10 = (q : Int) := by omega
      have g1 : Int.tmod (q : Int) 10 = (D : Int) := by rw [Int.tmod_eq_emod_of_nonneg (by omega)]; omega
      have g2 : (q : Int) % 10 = (D : Int) := by omega
      have hcv := conv_dig D (by omega)
      have hec := enc_dig D (by omega)
      have hq1 := hid (show q < n by omega)
      have hq9 : (q : Int) ≤ 18446744073709551615 := by omega
      have w1 : IntKind.u64.wrap (q : Int) = q := by simp [IntKind.wrap, IntKind.bits, IntKind.signed]; omega
      have ho2 : Hid (pre q ++ (UInt8.ofNat (48 + D) :: t.data.toList) = Lib.decDigits N) := hid (by rw [← ho0, pre_step hge, hD, hq])
      have hcs : ((Utf8.encode (48 + (D : Int))).size : Int) = 1 := by rw [hec]; rfl
      have ho3 : Hid (pre q ++ (Utf8.encode (48 + (D : Int)) ++ t).data.toList = Lib.decDigits N) := hid (by rw [ByteArray.data_append, Array.toList_append, hec]; exact ho2.out)
      clear hn0 ho0 hge hq hD ho2 hec hcv
      go_wp2_with fail
      refine ⟨⟨q, Utf8.encode (48 + (D : Int)) ++ t, by first | rfl | simp, by first | rfl | simp, by have := hn.out; have := hq1.out; omega, by first | rfl | trivial, ho3.out⟩, ?_⟩
      simp [intOf]
      exact hq1.out
set_option maxRecDepth 100000 in
set_option maxHeartbeats 1000000 in
theorem rDigits_any (n : Int) (h0 : -9223372036854775808 ≤ n) (h1 : n ≤ 9223372036854775807) (w : World) :
    Calls Tryz.prog 73 #[.int .i64 n] w fun e w' => e = .returned (.string ⟨(Lib.itoa n).toArray⟩) ∧ w' = w := by
  by_cases hn : 0 ≤ n
  · obtain ⟨m, rfl⟩ : ∃ m : Nat, n = (m : Int) := ⟨n.toNat, by omega⟩
    have hk := hid (rdigits_any m (by omega) w)
    have hfin : Hid ((⟨(Lib.itoa (m : Int)).toArray⟩ : ByteArray) = ⟨(Lib.decDigits m).toArray⟩) := hid (by unfold Lib.itoa; rw [if_neg (by omega)]; rfl)
    have w1 : IntKind.u64.wrap (m : Int) = m := by simp [IntKind.wrap, IntKind.bits, IntKind.signed]; omega
    have i0 : (0 : Int) ≤ (m : Int) := hn
    clear hn h0 h1
    go_enter Tryz.func73, Tryz.ntmps73
    go_wp2_with fail
    refine hk.out.mono ?_
    rintro e w2 ⟨rfl, hwq⟩
    obtain rfl := hwq.symm
    go_wp2_with fail
    go_ret
    exact ⟨by rw [hfin.out]; rfl, by first | rfl | trivial⟩
  · obtain ⟨P, rfl⟩ : ∃ P : Nat, n = -(P : Int) - 1 := ⟨(-n - 1).toNat, by omega⟩
    obtain ⟨m, hm⟩ : ∃ m : Nat, m = P + 1 := ⟨_, rfl⟩
    have hk := hid (rdigits_any m (by omega) w)
    obtain ⟨t, ht⟩ : ∃ t : ByteArray, t = ⟨(Lib.decDigits m).toArray⟩ := ⟨_, rfl⟩
    have hfin : Hid ((⟨(Lib.itoa (-(P : Int) - 1)).toArray⟩ : ByteArray) = (⟨#[45]⟩ : ByteArray) ++ t) := hid (by
      unfold Lib.itoa
      rw [if_pos (by omega), show (-(P : Int) - 1).natAbs = m by omega, ht]
      apply ByteArray.ext
      rw [ByteArray.data_append]
      simp)
    have hts : (t.size : Int) ≤ 20 := by
      have e1 : t.size = (Lib.decDigits m).length := by rw [ht]; simp [ByteArray.size]
      have e2 := Lib.nDigits_le20 m (by omega)
      rw [← Lib.decDigits_length] at e2
      omega
    rw [← ht] at hk
    have i0 : ¬ ((0 : Int) ≤ -(P : Int) - 1) := by omega
    have hP : (P : Int) ≤ 9223372036854775807 := by omega
    have w1 : wrap64 (-(P : Int) - 1 + 1) = -(P : Int) := by unfold wrap64; omega
    have w1' : wrap64 (-(P : Int)) = -(P : Int) := by unfold wrap64; omega
    have w2 : wrap64 (P : Int) = (P : Int) := by unfold wrap64; omega
    have w3 : IntKind.u64.wrap (P : Int) = (P : Int) := by simp [IntKind.wrap, IntKind.bits, IntKind.signed]; omega
    have w4 : IntKind.u64.wrap ((P : Int) + 1) = (m : Int) := by simp [IntKind.wrap, IntKind.bits, IntKind.signed]; omega
    clear hn h0 h1 ht hm
    go_enter Tryz.func73, Tryz.ntmps73
    go_wp2_with fail
    refine hk.out.mono ?_
    rintro e w2 ⟨rfl, hwq⟩
    obtain rfl := hwq.symm
    go_wp2_with fail
    go_ret
    exact ⟨by rw [hfin.out]; rfl, by first | rfl | trivial⟩
theorem ext_one {s : ByteArray} {j : Nat} (h : j < s.size) : (s.extract j (j + 1)).data.toList = [s.data[j]'h] := by
  have h' : j < s.data.toList.length := by rw [Array.length_toList]; exact h
  rw [ByteArray.data_extract, Array.toList_extract, List.extract_eq_take_drop, List.drop_eq_getElem_cons h', Array.getElem_toList]
  simp
theorem lst_app (a b : ByteArray) : (a ++ b).data.toList = a.data.toList ++ b.data.toList := by rw [ByteArray.data_append, Array.toList_append]
theorem lst_len (a : ByteArray) : a.data.toList.length = a.size := by rw [Array.length_toList]; rfl

set_option maxRecDepth 100000 in
set_option maxHeartbeats 4000000 in
theorem rprint_any (v : Vl) (w : World) (hs : v.s.size ≤ 140737488351232) (hr : v.rng) : Calls Tryz.prog 74 #[.agg #[.int .i64 v.k, .int .i64 v.n, .string v.s]] w (PrOut v w) := by
  obtain ⟨W, hW⟩ : ∃ W, W = w.alloc (.cells #[.int .i64 v.k, .int .i64 v.n, .string v.s] 38) := ⟨_, rfl⟩
  have hB0 : Hid (Below w.heap.size w W) := hid (by subst hW; exact (Below.refl _ _).alloc (Nat.le_refl _) _)
  have kb0 : Hid (Blk W w.heap.size 38 #[.int .i64 v.k, .int .i64 v.n, .string v.s]) := hid (by subst hW; exact Blk.new w _ _)
  have hva := hid (rvalid_any v W (by omega))
  have hx0 : W.cell? ⟨w.heap.size, 0, none⟩ = some (.int .i64 v.k) := kb0.out.cell 0
  have hx1 : W.cell? ⟨w.heap.size, 1, none⟩ = some (.int .i64 v.n) := kb0.out.cell 1
  have hx2 : W.cell? ⟨w.heap.size, 2, none⟩ = some (.string v.s) := kb0.out.cell 2
  have hfz := fun q => kb0.out.frozen q
  have hlz := kb0.out.lt
  cases hok : v.ok with
  | false =>
    have hfin : Hid (printL v = [] ∧ printE v = 20) := hid (by unfold printL printE; rw [hok]; exact ⟨rfl, rfl⟩)
    rw [hok] at hva
    clear hok hs hr
    go_enter Tryz.func74, Tryz.ntmps74
    go_upto_region 1 with fail
    rw [← hW]
    clear hW
    go_wp2_with fail
    refine hva.out.mono ?_
    rintro e w2 ⟨rfl, hb20⟩
    have kb2 := hid (kb0.out.below_all hb20)
    have hB2 := hid (hB0.out.trans (hb20.mono hB0.out.size))
    have hbb2 := hid hb20
    clear hb20 hva hx0 hx1 hx2 hfz hlz kb0 hB0
    have x0 := kb2.out.cell 0
    have x1 := kb2.out.cell 1
    have x2 := kb2.out.cell 2
    simp only [List.getElem?_toArray, List.getElem?_cons_zero, List.getElem?_cons_succ] at x0 x1 x2
    have fz := fun q => kb2.out.frozen q
    have hlt := kb2.out.lt
    go_wp2_with fail
    refine bodyPost_ret (v := .tuple #[.string ⟨#[]⟩, .int .i64 20]) (by simp [results, Tryz.results74, go_sem]) rfl ⟨?_, hB2.out⟩
    rw [hfin.out.1, hfin.out.2]
  | true =>
    have hpe : Hid (printE v = 0) := hid (by unfold printE; rw [hok]; rfl)
    have hpl : printL v = litL v := by unfold printL; rw [hok]; rfl
    rw [hok] at hva
    rcases ok_forms hok with hv | ⟨h1, h2⟩ | ⟨h1, h2, h3, h4⟩
    · have e0 : v.k = 0 := by rw [hv]; rfl
      have hfin : Hid (printL v = noneT) := hid (by rw [hpl]; unfold litL; rw [e0]; rfl)
      have f1 : (v.k == 0) = true := by rw [e0]; rfl
      clear hok hs hr hv hpl e0
      go_enter Tryz.func74, Tryz.ntmps74
      go_upto_region 1 with fail
      rw [← hW]
      clear hW
      go_wp2_with fail
      refine hva.out.mono ?_
      rintro e w2 ⟨rfl, hb20⟩
      have kb2 := hid (kb0.out.below_all hb20)
      have hB2 := hid (hB0.out.trans (hb20.mono hB0.out.size))
      have hbb2 := hid hb20
      clear hb20 hva hx0 hx1 hx2 hfz hlz kb0 hB0
      have x0 := kb2.out.cell 0
      have x1 := kb2.out.cell 1
      have x2 := kb2.out.cell 2
      simp only [List.getElem?_toArray, List.getElem?_cons_zero, List.getElem?_cons_succ] at x0 x1 x2
      have fz := fun q => kb2.out.frozen q
      have hlt := kb2.out.lt
      go_wp2_with fail
      refine bodyPost_ret (v := .tuple #[.string ⟨#[110, 111, 110, 101]⟩, .int .i64 0]) (by simp [results, Tryz.results74, go_sem]) rfl ⟨?_, hB2.out⟩
      rw [hfin.out, hpe.out]; rfl
    · have hfin : Hid (printL v = Lib.itoa v.n) := hid (by rw [hpl]; unfold litL; rw [h1]; rfl)
      have f0 : (v.k == 1) = true := by rw [h1]; rfl
      have f1 : (v.k == 0) = false := by rw [h1]; rfl
      have hrr := hid hr
      clear hok hs hr hpl h1 h2
      go_enter Tryz.func74, Tryz.ntmps74
      go_upto_region 1 with fail
      rw [← hW]
      clear hW
      go_wp2_with fail
      refine hva.out.mono ?_
      rintro e w2 ⟨rfl, hb20⟩
      have kb2 := hid (kb0.out.below_all hb20)
      have hB2 := hid (hB0.out.trans (hb20.mono hB0.out.size))
      have hbb2 := hid hb20
      clear hb20 hva hx0 hx1 hx2 hfz hlz kb0 hB0
      have x0 := kb2.out.cell 0
      have x1 := kb2.out.cell 1
      have x2 := kb2.out.cell 2
      simp only [List.getElem?_toArray, List.getElem?_cons_zero, List.getElem?_cons_succ] at x0 x1 x2
      have fz := fun q => kb2.out.frozen q
      have hlt := kb2.out.lt
      go_wp2_with fail
      refine (rDigits_any v.n hrr.out.1 hrr.out.2 w2).mono ?_
      rintro e w3 ⟨rfl, hwq⟩
      obtain rfl := hwq.symm
      clear x0 x1 x2 fz hlt
      go_wp2_with fail
      refine bodyPost_ret (v := .tuple #[.string ⟨(Lib.itoa v.n).toArray⟩, .int .i64 0]) (by simp [results, Tryz.results74, go_sem]) rfl ⟨?_, hB2.out⟩
      rw [hfin.out, hpe.out]
    · have hfin : Hid (printL v = 34 :: (escL v.s.data.toList ++ [34])) := hid (lit_text hok h1)
      have hs64 := hid h3
      have hs9 : (v.s.size : Int) ≤ 64 := by omega
      have f0 : (v.k == 1) = false := by rw [h1]; rfl
      have f1 : (v.k == 0) = false := by rw [h1]; rfl
      clear hok hs hr hpl h3 h4 h1 h2
      go_enter Tryz.func74, Tryz.ntmps74
      go_upto_region 1 with fail
      rw [← hW]
      clear hW
      go_wp2_with fail
      refine hva.out.mono ?_
      rintro e w2 ⟨rfl, hb20⟩
      have kb2 := hid (kb0.out.below_all hb20)
      have hB2 := hid (hB0.out.trans (hb20.mono hB0.out.size))
      have hbb2 := hid hb20
      clear hb20 hva hx0 hx1 hx2 hfz hlz kb0 hB0
      have x0 := kb2.out.cell 0
      have x1 := kb2.out.cell 1
      have x2 := kb2.out.cell 2
      simp only [List.getElem?_toArray, List.getElem?_cons_zero, List.getElem?_cons_succ] at x0 x1 x2
      have fz := fun q => kb2.out.frozen q
      have hlt := kb2.out.lt
      go_wp2_with fail
      go_loopw [4, 5] (fun v4 v5 wr => ∃ (k : Nat) (t : ByteArray), v4 = .string t ∧ v5 = .int .i64 k ∧ k ≤ v.s.size ∧ t.size ≤ 1 + 2 * k ∧ wr = w2 ∧ t.data.toList = 34 :: escL (v.s.data.toList.take k)) (fun _ v5 _ => v.s.size - (intOf v5).toNat)
      case atStart => exact ⟨0, ⟨#[34]⟩, rfl, rfl, Nat.zero_le _, by decide, rfl, rfl⟩
      case round =>
        obtain ⟨k, t, rfl, rfl, hks, hL0, hwr, hR0⟩ := hrel
        obtain rfl := hwr.symm
        have hL := hid hL0; have hR := hid hR0
        have hL9 : (t.size : Int) ≤ 200 := by have := hs64.out; omega
        clear hL0 hR0
        by_cases hlt2 : k < v.s.size
        · have i1 : (k : Int) < (v.s.size : Int) := by omega
          have hst := esc_step hlt2
          have hx := ext_one hlt2
          have hxs : ((v.s.extract k (k + 1)).size : Int) = 1 := by rw [← lst_len, hx]; rfl
          by_cases hq : v.s.data[k]'hlt2 = 34 ∨ v.s.data[k]'hlt2 = 92
          · rw [if_pos hq] at hst
            have hR2 : Hid ((t ++ ⟨#[92]⟩ ++ v.s.extract k (k + 1)).data.toList = 34 :: escL (v.s.data.toList.take (k + 1))) := hid (by
              rw [hst, lst_app, lst_app, hx, hR.out]; simp)
            have hz2 : Hid ((t ++ ⟨#[92]⟩ ++ v.s.extract k (k + 1)).size ≤ 1 + 2 * (k + 1)) := hid (by
              rw [← lst_len, lst_app, lst_app, hx]; simp [lst_len]; have := hL.out; omega)
            have hcase : Hid (((v.s[k]'hlt2).toNat = 34) ∨ ((v.s[k]'hlt2).toNat ≠ 34 ∧ (v.s[k]'hlt2).toNat = 92)) := hid (by
              by_cases h34 : v.s.data[k]'hlt2 = 34
              · exact .inl (byte_eq (hk := hlt2) h34)
              · exact .inr ⟨byte_ne (hk := hlt2) h34, byte_eq (hk := hlt2) (hq.resolve_left h34)⟩)
            clear hq hst hx
            rcases hcase.out with hc | ⟨hc0, hc⟩
            · have b1 : (((v.s[k]'hlt2).toNat : Int) == 34) = true := by rw [hc]; rfl
              have b2 : (((v.s[k]'hlt2).toNat : Int) == 92) = false := by rw [hc]; rfl
              skip
              go_wp2_with fail
              refine ⟨⟨k + 1, t ++ ⟨#[92]⟩ ++ v.s.extract k (k + 1), by first | rfl | simp, by first | rfl | simp, by omega, hz2.out, by first | rfl | trivial, hR2.out⟩, ?_⟩
              simp [intOf]
              omega
            · have b1 : (((v.s[k]'hlt2).toNat : Int) == 34) = false := by rw [hc]; rfl
              have b2 : (((v.s[k]'hlt2).toNat : Int) == 92) = true := by rw [hc]; rfl
              clear hc0
              go_wp2_with fail
              refine ⟨⟨k + 1, t ++ ⟨#[92]⟩ ++ v.s.extract k (k + 1), by first | rfl | simp, by first | rfl | simp, by omega, hz2.out, by first | rfl | trivial, hR2.out⟩, ?_⟩
              simp [intOf]
              omega
          · rw [if_neg hq] at hst
            have c34 : (v.s[k]'hlt2).toNat ≠ 34 := byte_ne (hk := hlt2) fun e => hq (.inl e)
            have c92 : (v.s[k]'hlt2).toNat ≠ 92 := byte_ne (hk := hlt2) fun e => hq (.inr e)
            have b1 : (((v.s[k]'hlt2).toNat : Int) == 34) = false := by simp; omega
            have b2 : (((v.s[k]'hlt2).toNat : Int) == 92) = false := by simp; omega
            have hR2 : Hid ((t ++ v.s.extract k (k + 1)).data.toList = 34 :: escL (v.s.data.toList.take (k + 1))) := hid (by
              rw [hst, lst_app, hx, hR.out]; simp)
            have hz2 : Hid ((t ++ v.s.extract k (k + 1)).size ≤ 1 + 2 * (k + 1)) := hid (by
              rw [← lst_len, lst_app, hx]; simp [lst_len]; have := hL.out; omega)
            clear hst hq c34 c92 hx
            go_wp2_with fail
            refine ⟨⟨k + 1, t ++ v.s.extract k (k + 1), by first | rfl | simp, by first | rfl | simp, by omega, hz2.out, by first | rfl | trivial, hR2.out⟩, ?_⟩
            simp [intOf]
            omega
        · have i1 : ¬ ((k : Int) < (v.s.size : Int)) := by omega
          have hR2 : Hid ((t ++ (⟨#[34]⟩ : ByteArray)) = ⟨(printL v).toArray⟩) := hid (by
            apply ByteArray.ext
            apply Array.ext'
            rw [lst_app, hfin.out, hR.out, take_all (by omega)]; rfl)
          clear hlt2
          go_wp2_with fail
          refine bodyPost_ret (v := .tuple #[.string (t ++ (⟨#[34]⟩ : ByteArray)), .int .i64 0]) (by simp [results, Tryz.results74, go_sem]) rfl ⟨?_, hB2.out⟩
          rw [hR2.out, hpe.out]

end Go.Proofs.YtphglnenafdkaaaGreatDoor

namespace Go.Proofs.YtphglnenafdkaaaGreatDoor
open Go.RowKit
set_option linter.unusedVariables false
set_option linter.unusedSimpArgs false

/-- an act -/
structure SA where
  kind : Int
  ks : List ByteArray
  ws : List Wr
  A1 : Option Addr
  c1 : Nat
  A2 : Option Addr
  c2 : Nat
def scells (a : SA) : List Value := [.int .i64 a.kind, .slice a.A1 a.ks.length a.c1, .slice a.A2 a.ws.length a.c2]
def SA.ok (S : Nat → Prop) (w : World) (a : SA) : Prop := Rd S w 1 a.A1 a.ks.length (strs a.ks) ∧ Rd S w 5 a.A2 a.ws.length (wrCells a.ws)
structure SActs (S : Nat → Prop) (w : World) (A : Option Addr) (us : List SA) : Prop where
  row : Rd S w 3 A us.length (us.flatMap scells)
  ok : ∀ a ∈ us, a.ok S w
theorem SActs.keep {S : Nat → Prop} {w w' : World} {A : Option Addr} {us : List SA} (h : SActs S w A us) (hk : ∀ b, S b → b < w.heap.size → w'.heap[b]? = w.heap[b]?) : SActs S w' A us := ⟨h.row.keep hk, fun a ha => ⟨(h.ok a ha).1.keep hk, (h.ok a ha).2.keep hk⟩⟩
theorem SActs.below {S : Nat → Prop} {w w' : World} {A : Option Addr} {us : List SA} (h : SActs S w A us) (hb : Below w.heap.size w w') : SActs S w' A us := h.keep fun b _ hl => hb.block b hl
theorem aflat_at {α : Type} (f : α → List Value) (sz : Nat) (hf : ∀ a, (f a).length = sz) (l : List α) (k j : Nat) (h : k < l.length) (hj : j < sz) : (l.flatMap f)[k * sz + j]? = (f l[k])[j]? := by
  induction l generalizing k with
  | nil => simp at h
  | cons x l ih =>
    rw [List.flatMap_cons]
    cases k with
    | zero => rw [List.getElem?_append_left (by rw [hf]; omega)]; simp
    | succ k =>
      rw [List.getElem?_append_right (by rw [hf, Nat.succ_mul]; omega), hf, show (k + 1) * sz + j - sz = k * sz + j by rw [Nat.succ_mul]; omega, ih k (by simpa using h)]
      simp
theorem SActs.at_ {S : Nat → Prop} {w : World} {A : Option Addr} {us : List SA} {k : Nat} (h : SActs S w A us) (hk : k < us.length) : ∃ b o, A = some ⟨b, o, none⟩ ∧ S b ∧ b < w.heap.size ∧ us[k].ok S w ∧
    w.cell? ⟨b, o + k * 3, none⟩ = some (.int .i64 us[k].kind) ∧ w.cell? ⟨b, o + k * 3 + 1, none⟩ = some (.slice us[k].A1 us[k].ks.length us[k].c1) ∧ w.cell? ⟨b, o + k * 3 + 2, none⟩ = some (.slice us[k].A2 us[k].ws.length us[k].c2) := by
  obtain ⟨b, o, e, hS, hl, hc⟩ := h.row.at_ hk
  have g := fun j (hj : j < 3) u (hu : (scells us[k])[j]? = some u) => hc (k * 3 + j) u (by rw [aflat_at scells 3 (fun _ => rfl) us k j hk hj]; exact hu)
  simp only [← Nat.add_assoc] at g
  exact ⟨b, o, e, hS, hl, h.ok _ (List.getElem_mem hk), g 0 (by omega) _ rfl, g 1 (by omega) _ rfl, g 2 (by omega) _ rfl⟩
def partA (a : SA) : Nat := a.ks.length + a.ws.length
def partsA (us : List SA) : Nat := (us.map partA).sum
theorem partsA_take (us : List SA) (k : Nat) (h : k < us.length) : partsA (us.take (k + 1)) = partsA (us.take k) + partA us[k] := by
  unfold partsA
  rw [List.take_succ_eq_append_getElem h, List.map_append, List.sum_append, List.map_cons, List.map_nil, List.sum_cons, List.sum_nil]
  omega
theorem sum_take_le (l : List Nat) (k : Nat) : (l.take k).sum ≤ l.sum := by
  induction l generalizing k with
  | nil => simp
  | cons a l ih =>
    cases k with
    | zero => simp
    | succ k => have := ih k; simp; omega
theorem partsA_le (us : List SA) (k : Nat) : partsA (us.take k) ≤ partsA us := by
  unfold partsA
  have := sum_take_le (us.map partA) k
  rwa [← List.map_take] at this
theorem partsA_mem {us : List SA} {a : SA} (h : a ∈ us) : partA a ≤ partsA us := by
  unfold partsA
  induction us with
  | nil => cases h
  | cons x l ih =>
    rw [List.map_cons, List.sum_cons]
    rcases List.mem_cons.1 h with rfl | h
    · omega
    · have := ih h; omega
def longB (us : List SA) : Bool := decide (200 < us.length) || decide (6000 < partsA us)
set_option maxRecDepth 100000 in
set_option maxHeartbeats 1000000 in
theorem long_any {S : Nat → Prop} (p r : Int) {A : Option Addr} {c : Nat} {us : List SA} {w : World} (h : SActs S w A us) (hn : us.length ≤ 1048576) (hp : partsA us ≤ 1048576) : Calls Tryz.prog 7 #[.agg #[.int .i64 p, .int .i64 r, .slice A us.length c]] w fun e w' => e = .returned (.bool (longB us)) ∧ Below w.heap.size w w' := by
  have hB0 : Below w.heap.size w (w.alloc (.cells #[.int .i64 p, .int .i64 r, .slice A us.length c] 24)) := (Below.refl _ _).alloc (Nat.le_refl _) _
  have kb := hid (Blk.new w 24 #[.int .i64 p, .int .i64 r, .slice A us.length c])
  have hs := hid (h.below hB0)
  have hB := hid hB0
  have hN : (us.length : Int) ≤ 1048576 := by omega
  have hP := hid hp
  clear h hB0 hn hp
  go_enter Tryz.func7, Tryz.ntmps7
  go_upto_region 1 with fail
  generalize w.alloc (.cells #[.int .i64 p, .int .i64 r, .slice A us.length c] 24) = w1 at *
  generalize hm : w.heap.size = m at *
  go_wp2_with fail
  go_loopw [3, 4] (fun u v wr => ∃ k : Nat, u = .int .i64 (partsA (us.take k) : Nat) ∧ v = .int .i64 k ∧ k ≤ us.length ∧ Below w1.heap.size w1 wr) (fun u v _ => us.length - (intOf v).toNat)
  case atStart => exact ⟨0, rfl, rfl, Nat.zero_le _, Below.refl _ _⟩
  case round =>
    obtain ⟨k, rfl, rfl, hk, hb0⟩ := hrel
    have hb := hid hb0
    have kw := kb.out.below_all hb0
    have x2 : wr.cell? ⟨m, 2, none⟩ = some (.slice A us.length c) := kw.cell 2
    clear hb0 kw
    by_cases hlt : k < us.length
    · have i1 : (k : Int) < (us.length : Int) := by omega
      obtain ⟨b, o, rfl, _, _, _, _, y1, y2⟩ := (hs.out.below hb.out).at_ hlt
      have htk := partsA_take us k hlt
      have hle := partsA_le us (k + 1)
      have hP9 := hP.out
      obtain ⟨q, hq⟩ : ∃ q, q = partsA (us.take k) := ⟨_, rfl⟩
      have hpa : partA us[k] = us[k].ks.length + us[k].ws.length := rfl
      obtain ⟨n1, hn1⟩ : ∃ n, n = us[k].ks.length := ⟨_, rfl⟩
      obtain ⟨n2, hn2⟩ : ∃ n, n = us[k].ws.length := ⟨_, rfl⟩
      rw [← hn1] at y1 hpa
      rw [← hn2] at y2 hpa
      rw [← hq] at htk ⊢
      have z1 : IntKind.i64.wrap ((q : Int) + (n1 : Int)) = (q : Int) + (n1 : Int) := by rw [IntKind.wrap_i64]; omega
      have z2 : IntKind.i64.wrap ((q : Int) + (n1 : Int) + (n2 : Int)) = (q : Int) + (n1 : Int) + (n2 : Int) := by rw [IntKind.wrap_i64]; omega
      have hfin : Hid (((partsA (us.take (k + 1)) : Nat) : Int) = (q : Int) + (n1 : Int) + (n2 : Int)) := hid (by omega)
      clear htk hle hP9 hq hpa hn1 hn2
      go_wp2_with fail
      go_quiet (fail)
      go_wp2_with fail
      go_roundw
      case rel => exact ⟨k + 1, by rw [hfin.out], by go_num, hlt, below_drewN hb.out _⟩
      case measure => simp [intOf]; omega
    · obtain rfl : k = us.length := by omega
      rw [List.take_length]
      have hfb : Hid (Below w.heap.size w wr) := hid (by rw [hm]; exact hB.out.trans (hb.out.mono (by have := hB.out.size; omega)))
      obtain ⟨n, hn⟩ : ∃ n, n = us.length := ⟨_, rfl⟩
      obtain ⟨q, hq⟩ : ∃ q, q = partsA us := ⟨_, rfl⟩
      rw [← hn] at x2
      rw [← hn, ← hq]
      have hfin : Hid (longB us = (decide (200 < n) || decide (6000 < q))) := hid (by rw [hn, hq]; rfl)
      have hq9 : Hid (q ≤ 1048576) := hid (by rw [hq]; exact hP.out)
      clear hq hn hlt
      by_cases h1 : 200 < n
      · have t1 : decide ((200 : Int) < (n : Int)) = true := decide_eq_true (by omega)
        have t1n : decide (200 < n) = true := decide_eq_true h1
        have hf : Hid (longB us = true) := hid (by rw [hfin.out, t1n]; rfl)
        clear h1
        go_wp2_with fail
        go_ret
        exact ⟨by rw [hf.out]; rfl, hfb.out⟩
      · have t1 : decide ((200 : Int) < (n : Int)) = false := decide_eq_false (by omega)
        have t1n : decide (200 < n) = false := decide_eq_false h1
        have hf : Hid (longB us = decide ((6000 : Int) < (q : Int))) := hid (by rw [hfin.out, t1n, Bool.false_or]; exact decide_eq_decide.2 (by omega))
        clear h1
        go_wp2_with fail
        go_ret
        exact ⟨by rw [hf.out]; first | rfl | simp, hfb.out⟩
end Go.Proofs.YtphglnenafdkaaaGreatDoor

namespace Go.Proofs.YtphglnenafdkaaaGreatDoor
open Go.RowKit
set_option linter.unusedVariables false

theorem SActs.all {S : Nat → Prop} {w : World} {A : Option Addr} {us : List SA} (h : SActs S w A us) : SActs (fun b => b < w.heap.size) w A us := ⟨h.row.all, fun a ha => ⟨(h.ok a ha).1.all, (h.ok a ha).2.all⟩⟩
def okKs (ks : List ByteArray) : Prop := ∀ k ∈ ks, k.size ≤ 9223372036854775806
def okWs (ws : List Wr) : Prop := ∀ x ∈ ws, x.key.size ≤ 9223372036854775806 ∧ x.v.s.size ≤ 9223372036854775806
section
variable {w w' : World} {B : Nat}
theorem cell_bel {b o : Nat} {v : Value} (h : Below B w w') (hb : b < B) (hc : w.cell? ⟨b, o, none⟩ = some v) : w'.cell? ⟨b, o, none⟩ = some v := (Upd.of_below (M := fun j => B ≤ j) h fun _ _ h => h).cell hc (by omega)
end
end Go.Proofs.YtphglnenafdkaaaGreatDoor

namespace Go.Proofs.YtphglnenafdkaaaGreatDoor
open Go.RowKit
set_option linter.unusedVariables false

theorem wpAnyH_more {P : Program} {md : Region.Mode} {ops : Array Oper} {Q : Exit → Act → World → Prop} {S S' : World → Prop} (h : ∀ w, S' w → S w) :
    ∀ (fuel : Nat) (listed : Array Bool) (a : Act) (w : World), wpAnyH P md ops Q S' fuel listed a w → wpAnyH P md ops Q S fuel listed a w
  | 0, _, _, _, hx => hx
  | n + 1, listed, a, w, hx => ⟨hx.1, fun i hi => wpOp_mono (fun a' w' h3 => ⟨h _ h3.1, wpAnyH_more h n _ _ _ h3.2⟩) (hx.2 i hi)⟩
end Go.Proofs.YtphglnenafdkaaaGreatDoor

namespace Go.Proofs.YtphglnenafdkaaaGreatDoor
open Go.RowKit
set_option linter.unusedVariables false
set_option linter.unusedSimpArgs false

theorem kv_oneC (L : List Kv) : ∀ v ∈ kvCells L, v.oneCell' = true := by
  intro v hv
  unfold kvCells at hv
  obtain ⟨x, _, hx⟩ := List.mem_flatMap.1 hv
  simp at hx
  rcases hx with rfl | rfl | rfl | rfl <;> rfl
section
variable {S : Nat → Prop} {w w' : World} {r : Nat} {s : St}
set_option maxRecDepth 100000 in
set_option maxHeartbeats 4000000 in
theorem rcopy_any (h : RAt S w r s) : Calls Tryz.prog 20 #[.pointer (some ⟨r, 0, none⟩)] w fun e w' => ∃ S' q, e = .returned (.pointer (some ⟨q, 0, none⟩)) ∧ RAt S' w' q s ∧ (∀ j, S' j → w.heap.size ≤ j) ∧ Below w.heap.size w w' := by
  obtain ⟨A, c, h⟩ := h
  have hlen := hid h.ok.len
  have hok := hid h.ok
  have hrd0 := h.rd.all
  obtain ⟨ip, hip, hp0, hp1, hp2⟩ := info_parts info_item
  have hX0 := fun W (hW : Below w.heap.size w W) => (h.below hW).cells
  go_enter Tryz.func20, Tryz.ntmps20
  go_upto_region 1 with fail
  have hX := hid hX0
  have hrd := hid hrd0
  clear hX0 hrd0 h
  refine wp_region_held_drew (S := fun w' => Below w.heap.size w w') (by kernel_rfl) ?_ (fun hHeld => ?_)
  · exact (Below.refl _ _).drew
  have hB1 := hid ((Below.refl w.heap.size w).drew)
  generalize World.drew w = w1 at *
  refine wpAnyH_take (i := 0) (v := ?v1) rfl (by kernel_rfl) (by kernel_rfl) (by kernel_rfl) (fun _ _ _ h => h) (Or.inl ⟨by rfl, ?hy1⟩) (by assumption) ?rest1
  case hy1 => intro w' hSw; obtain ⟨q0, q1, q2⟩ := hX.out w' hSw; (try dsimp only at hSw); go_simp; try with_reducible rfl
  (try simp only [Act.put, List.setIfInBounds_toArray, List.set_cons_zero, List.set_cons_succ, List.getElem_toArray, List.getElem_cons_zero, List.getElem_cons_succ])
  refine wpAnyH_take (i := 1) (v := ?v2) rfl (by kernel_rfl) (by kernel_rfl) (by kernel_rfl) (fun _ _ _ h => h) (Or.inl ⟨by rfl, ?hy2⟩) (by assumption) ?rest2
  case hy2 => intro w' hSw; obtain ⟨q0, q1, q2⟩ := hX.out w' hSw; (try dsimp only at hSw); go_simp; try with_reducible rfl
  (try simp only [Act.put, List.setIfInBounds_toArray, List.set_cons_zero, List.set_cons_succ, List.getElem_toArray, List.getElem_cons_zero, List.getElem_cons_succ])
  refine wpAnyH_take (i := 2) (v := ?v3) rfl (by kernel_rfl) (by kernel_rfl) (by kernel_rfl) (fun _ _ _ h => h) (Or.inl ⟨by rfl, ?hy3⟩) (by assumption) ?rest3
  case hy3 => intro w' hSw; obtain ⟨q0, q1, q2⟩ := hX.out w' hSw; (try dsimp only at hSw); go_simp; try with_reducible rfl
  (try simp only [Act.put, List.setIfInBounds_toArray, List.set_cons_zero, List.set_cons_succ, List.getElem_toArray, List.getElem_cons_zero, List.getElem_cons_succ])
  refine wpAnyH_take (i := 3) (v := ?v4) rfl (by kernel_rfl) (by kernel_rfl) (by kernel_rfl) (fun _ _ _ h => h) (Or.inl ⟨by rfl, ?hy4⟩) (by assumption) ?rest4
  case hy4 => intro w' hSw; obtain ⟨q0, q1, q2⟩ := hX.out w' hSw; (try dsimp only at hSw); go_simp; try with_reducible rfl
  (try simp only [Act.put, List.setIfInBounds_toArray, List.set_cons_zero, List.set_cons_succ, List.getElem_toArray, List.getElem_cons_zero, List.getElem_cons_succ])
  refine wpAnyH_take (i := 4) (v := ?v5) rfl (by kernel_rfl) (by kernel_rfl) (by kernel_rfl) (fun _ _ _ h => h) (Or.inl ⟨by rfl, ?hy5⟩) (by assumption) ?rest5
  case hy5 => intro w' hSw; obtain ⟨q0, q1, q2⟩ := hX.out w' hSw; (try dsimp only at hSw); go_simp; try with_reducible rfl
  (try simp only [Act.put, List.setIfInBounds_toArray, List.set_cons_zero, List.set_cons_succ, List.getElem_toArray, List.getElem_cons_zero, List.getElem_cons_succ])
  refine wpAnyH_take (i := 5) (v := ?v6) rfl (by kernel_rfl) (by kernel_rfl) (by kernel_rfl) (fun _ _ _ h => h) (Or.inl ⟨by rfl, ?hy6⟩) (by assumption) ?rest6
  case hy6 => intro w' hSw; obtain ⟨q0, q1, q2⟩ := hX.out w' hSw; (try dsimp only at hSw); go_simp; try with_reducible rfl
  (try simp only [Act.put, List.setIfInBounds_toArray, List.set_cons_zero, List.set_cons_succ, List.getElem_toArray, List.getElem_cons_zero, List.getElem_cons_succ])
  refine wpAnyH_take (i := 6) (v := ?v7) rfl (by kernel_rfl) (by kernel_rfl) (by kernel_rfl) (fun _ _ _ h => h) (Or.inl ⟨by rfl, ?hy7⟩) (by assumption) ?rest7
  case hy7 => intro w' hSw; obtain ⟨q0, q1, q2⟩ := hX.out w' hSw; (try dsimp only at hSw); go_simp; try with_reducible rfl
  (try simp only [Act.put, List.setIfInBounds_toArray, List.set_cons_zero, List.set_cons_succ, List.getElem_toArray, List.getElem_cons_zero, List.getElem_cons_succ])
  refine wpAnyH_take (i := 7) (v := ?v8) rfl (by kernel_rfl) (by kernel_rfl) (by kernel_rfl) (fun _ _ _ h => h) (Or.inl ⟨by rfl, ?hy8⟩) (by assumption) ?rest8
  case hy8 => intro w' hSw; obtain ⟨q0, q1, q2⟩ := hX.out w' hSw; (try dsimp only at hSw); go_simp; try with_reducible rfl
  (try simp only [Act.put, List.setIfInBounds_toArray, List.set_cons_zero, List.set_cons_succ, List.getElem_toArray, List.getElem_cons_zero, List.getElem_cons_succ])
  refine wpAnyH_take (i := 9) (v := ?v9) rfl (by kernel_rfl) (by kernel_rfl) (by kernel_rfl) (fun _ _ _ h => h) (Or.inl ⟨by rfl, ?hy9⟩) (by assumption) ?rest9
  case hy9 => intro w' hSw; obtain ⟨q0, q1, q2⟩ := hX.out w' hSw; (try dsimp only at hSw); go_simp; try with_reducible rfl
  (try simp only [Act.put, List.setIfInBounds_toArray, List.set_cons_zero, List.set_cons_succ, List.getElem_toArray, List.getElem_cons_zero, List.getElem_cons_succ])
  refine wpAnyH_take (i := 10) (v := ?v10) rfl (by kernel_rfl) (by kernel_rfl) (by kernel_rfl) (fun _ _ _ h => h) (Or.inl ⟨by rfl, ?hy10⟩) (by assumption) ?rest10
  case hy10 => intro w' hSw; obtain ⟨q0, q1, q2⟩ := hX.out w' hSw; (try dsimp only at hSw); go_simp; try with_reducible rfl
  (try simp only [Act.put, List.setIfInBounds_toArray, List.set_cons_zero, List.set_cons_succ, List.getElem_toArray, List.getElem_cons_zero, List.getElem_cons_succ])
  refine wpAnyH_take (i := 11) (v := ?v11) rfl (by kernel_rfl) (by kernel_rfl) (by kernel_rfl) (fun _ _ _ h => h) (Or.inl ⟨by rfl, ?hy11⟩) (by assumption) ?rest11
  case hy11 => intro w' hSw; obtain ⟨q0, q1, q2⟩ := hX.out w' hSw; (try dsimp only at hSw); go_simp; try with_reducible rfl
  (try simp only [Act.put, List.setIfInBounds_toArray, List.set_cons_zero, List.set_cons_succ, List.getElem_toArray, List.getElem_cons_zero, List.getElem_cons_succ])
  refine wpAnyH_take (i := 12) (v := ?v12) rfl (by kernel_rfl) (by kernel_rfl) (by kernel_rfl) (fun _ _ _ h => h) (Or.inl ⟨by rfl, ?hy12⟩) (by assumption) ?rest12
  case hy12 => intro w' hSw; obtain ⟨q0, q1, q2⟩ := hX.out w' hSw; (try dsimp only at hSw); go_simp; try with_reducible rfl
  (try simp only [Act.put, List.setIfInBounds_toArray, List.set_cons_zero, List.set_cons_succ, List.getElem_toArray, List.getElem_cons_zero, List.getElem_cons_succ])
  refine wpAnyH_ready (rs := [8]) (by kernel_rfl) (by simp) ?_
  refine AllReadyH.cons rfl (fun K hK => ?_) AllReadyH.nil
  go_simp
  refine hK.out _ _ ?_ (fun hHeld => ?_)
  · exact hB1.out.alloc hB1.out.size _
  clear hK K
  (try simp only [Act.put, List.setIfInBounds_toArray, List.set_cons_zero, List.set_cons_succ, List.getElem_toArray, List.getElem_cons_zero, List.getElem_cons_succ])
  refine wpAnyH_ready (rs := [13]) (by kernel_rfl) (by simp) ?_
  refine AllReadyH.cons rfl (fun K hK => ?_) AllReadyH.nil
  refine step_append_rd _ rfl (.tmp 11) (.tmp 15) 62 rfl w1.heap.size 70 ip _ 4 48 Tryz.underlying62 hip hp0 hp1 hp2 rfl (by omega) (.slice (some ⟨w1.heap.size, 0, none⟩) 0 0) 0 [] rfl (own_empty w1 70 4) (fun b => b < w.heap.size) A s.L.length c (kvCells s.L) rfl ((hrd.out.below_all hB1.out).alloc _) (kv_oneC s.L) (by have := hlen.out; simp only [maxLen]; omega) (by have := hlen.out; omega) (by simp) s.L.length (Nat.zero_add _) (kvCells s.L) rfl ?_
  intro A2 c2 w2 hown0 hg0 hat0
  have hown := hid hown0
  have hB2 := hid (below_of_copy hg0)
  clear hown0 hg0 hat0
  refine hK.out _ _ ?_ (fun hHeld => ?_)
  · exact hB1.out.trans (hB2.out.mono hB1.out.size)
  clear hK K
  (try simp only [Act.put, List.setIfInBounds_toArray, List.set_cons_zero, List.set_cons_succ, List.getElem_toArray, List.getElem_cons_zero, List.getElem_cons_succ])
  refine wpAnyH_take (i := 14) (v := ?v13) rfl (by kernel_rfl) (by kernel_rfl) (by kernel_rfl) (fun _ _ _ h => h) (Or.inl ⟨by rfl, ?hy13⟩) (by assumption) ?rest13
  case hy13 => intro w' hSw; (try dsimp only at hSw); go_simp; try with_reducible rfl
  (try simp only [Act.put, List.setIfInBounds_toArray, List.set_cons_zero, List.set_cons_succ, List.getElem_toArray, List.getElem_cons_zero, List.getElem_cons_succ])
  refine wpAnyH_ready (rs := [15]) (by kernel_rfl) (by simp) ?_
  refine AllReadyH.cons rfl (fun K hK => ?_) AllReadyH.nil
  go_simp
  have k3 := hid (Blk.new w2 94 #[.int .i64 s.parts, .int .i64 s.room, .slice A2 s.L.length c2])
  have hB3 := hid (hB2.out.alloc hB2.out.size (.cells #[.int .i64 s.parts, .int .i64 s.room, .slice A2 s.L.length c2] 94))
  have hs2 := hid hB2.out.size
  have hown3 := hid (own_below hown.out ((Below.refl w2.heap.size w2).alloc (Nat.le_refl _) (.cells #[.int .i64 s.parts, .int .i64 s.room, .slice A2 s.L.length c2] 94)))
  have hs3 := hid (show (w2.alloc (.cells #[.int .i64 s.parts, .int .i64 s.room, .slice A2 s.L.length c2] 94)).heap.size = w2.heap.size + 1 by simp)
  have hl2 := hid (hown.out.lt)
  refine hK.out _ _ ?_ (fun hHeld => ?_)
  · exact hB1.out.trans (hB3.out.mono hB1.out.size)
  clear hK K
  (try simp only [Act.put, List.setIfInBounds_toArray, List.set_cons_zero, List.set_cons_succ, List.getElem_toArray, List.getElem_cons_zero, List.getElem_cons_succ])
  refine wpAnyH_take (i := 16) (v := ?v14) rfl (by kernel_rfl) (by kernel_rfl) (by kernel_rfl) (fun _ _ _ h => h) (Or.inl ⟨by rfl, ?hy14⟩) (by assumption) ?rest14
  case hy14 => intro w' hSw; (try dsimp only at hSw); go_simp; try with_reducible rfl
  (try simp only [Act.put, List.setIfInBounds_toArray, List.set_cons_zero, List.set_cons_succ, List.getElem_toArray, List.getElem_cons_zero, List.getElem_cons_succ])
  refine wpAnyH_done (by kernel_rfl) ?_ _
  go_wp2_with fail
  go_ret
  have hs1 := hB1.out.size
  have hz2 := hs2.out
  have hz3 := hs3.out
  refine ⟨fun j => w1.heap.size ≤ j ∧ j < w2.heap.size + 1, w2.heap.size, rfl, ⟨A2, c2, k3.out, ?_, ?_, ⟨hz2, by omega⟩, fun j hj => by rw [hz3]; exact hj.2, hok.out⟩, fun j hj => Nat.le_trans hs1 hj.1, hB1.out.trans (hB3.out.mono hs1)⟩
  · have hl := hl2.out
    exact (Rd.of_own hown3.out).more fun b hb _ => by have := hl b hb.symm; exact ⟨⟨this.1, by omega⟩, by omega⟩
  · obtain ⟨A3, c3, e, f1, f2⟩ := own_form hown3.out
    injection e with e1 e2 e3
    subst e1 e3
    rcases hown3.out.2 with ⟨e, h0⟩ | ⟨q, cap, cur, e, _⟩
    · injection e with e1 e2 e3
      subst e1 e3
      exact .inl ⟨rfl, h0, rfl⟩
    · injection e with e1 e2 e3
      exact .inr ⟨⟨q, 0, e1⟩, f1, f2⟩
set_option maxRecDepth 100000 in
set_option maxHeartbeats 4000000 in
theorem rbytes_any (h : RAt S w r s) (hr : ∀ x ∈ s.L, x.2.rng) : Calls Tryz.prog 52 #[.pointer (some ⟨r, 0, none⟩)] w fun e w' => e = .returned (.string ⟨(bytesS s).toArray⟩) ∧ Below w.heap.size w w' := by
  obtain ⟨A, c, h⟩ := h
  have HH := hid h
  have HR := hid hr
  have hlen := hid h.ok.len
  have hpr := hid (show (0 : Int) ≤ s.parts ∧ (s.parts : Int) ≤ 64 by have := h.ok.parts; omega)
  have hrr := hid (show (0 : Int) ≤ s.room ∧ (s.room : Int) ≤ 4096 by have := h.ok.room; omega)
  have z1 : (dg s.parts).size ≤ 21 := dg_size (by omega) (by have := hpr.out; omega)
  have z2 : (dg s.room).size ≤ 21 := dg_size (by omega) (by have := hrr.out; omega)
  have z3 : ByteArray.size ⟨#[10]⟩ = 1 := rfl
  have hs1 : ∀ W, (Op.stringOp .add (dg s.parts) ⟨#[10]⟩).run Tryz.prog W = .ok (.string (dg s.parts ++ ⟨#[10]⟩)) W := fun W => run_string_add_sum W _ _ (by omega)
  have hs2 : ∀ W, (Op.stringOp .add (dg s.parts ++ ⟨#[10]⟩) (dg s.room)).run Tryz.prog W = .ok (.string (dg s.parts ++ ⟨#[10]⟩ ++ dg s.room)) W := fun W => run_string_add_sum W _ _ (by simp only [ByteArray.size_append]; omega)
  have hs3 : ∀ W, (Op.stringOp .add (dg s.parts ++ ⟨#[10]⟩ ++ dg s.room) ⟨#[10]⟩).run Tryz.prog W = .ok (.string (dg s.parts ++ ⟨#[10]⟩ ++ dg s.room ++ ⟨#[10]⟩)) W := fun W => run_string_add_sum W _ _ (by simp only [ByteArray.size_append]; omega)
  have hX := hid (fun W (hW : Below w.heap.size w W) => (h.below hW).cells)
  have hht := hid (head_text s)
  have hln := hid (bytesTo_len (s := s) (fun x hx => line_len (HH.out.ok.key x hx) (HH.out.ok.val x hx) (HR.out x hx)) (head_len (by have := hpr.out; omega) (by have := hrr.out; omega)) hlen.out)
  clear h hr z1 z2 z3
  go_enter Tryz.func52, Tryz.ntmps52
  go_upto_region 1 with fail
  refine wp_region_held_drew (S := fun w' => Below w.heap.size w w') (by kernel_rfl) ?_ (fun hHeld => ?_)
  · exact (Below.refl _ _).drew
  have hbd := hid ((Below.refl w.heap.size w).drew)
  generalize World.drew w = w1 at *
  refine wpAnyH_take (i := 0) (v := ?v15) rfl (by kernel_rfl) (by kernel_rfl) (by kernel_rfl) (fun _ _ _ h => h) (Or.inl ⟨by rfl, ?hy15⟩) (by assumption) ?rest15
  case hy15 => intro w' hSw; obtain ⟨q0, q1, q2⟩ := hX.out w' hSw; (try dsimp only at hSw); go_simp; try with_reducible rfl
  (try simp only [Act.put, List.setIfInBounds_toArray, List.set_cons_zero, List.set_cons_succ, List.getElem_toArray, List.getElem_cons_zero, List.getElem_cons_succ])
  refine wpAnyH_take (i := 1) (v := ?v16) rfl (by kernel_rfl) (by kernel_rfl) (by kernel_rfl) (fun _ _ _ h => h) (Or.inl ⟨by rfl, ?hy16⟩) (by assumption) ?rest16
  case hy16 => intro w' hSw; obtain ⟨q0, q1, q2⟩ := hX.out w' hSw; (try dsimp only at hSw); go_simp; try with_reducible rfl
  (try simp only [Act.put, List.setIfInBounds_toArray, List.set_cons_zero, List.set_cons_succ, List.getElem_toArray, List.getElem_cons_zero, List.getElem_cons_succ])
  refine wpAnyH_take (i := 2) (v := ?v17) rfl (by kernel_rfl) (by kernel_rfl) (by kernel_rfl) (fun _ _ _ h => h) (Or.inl ⟨by rfl, ?hy17⟩) (by assumption) ?rest17
  case hy17 => intro w' hSw; obtain ⟨q0, q1, q2⟩ := hX.out w' hSw; (try dsimp only at hSw); go_simp; try with_reducible rfl
  (try simp only [Act.put, List.setIfInBounds_toArray, List.set_cons_zero, List.set_cons_succ, List.getElem_toArray, List.getElem_cons_zero, List.getElem_cons_succ])
  refine wpAnyH_take (i := 3) (v := ?v18) rfl (by kernel_rfl) (by kernel_rfl) (by kernel_rfl) (fun _ _ _ h => h) (Or.inl ⟨by rfl, ?hy18⟩) (by assumption) ?rest18
  case hy18 => intro w' hSw; obtain ⟨q0, q1, q2⟩ := hX.out w' hSw; (try dsimp only at hSw); go_simp; try with_reducible rfl
  (try simp only [Act.put, List.setIfInBounds_toArray, List.set_cons_zero, List.set_cons_succ, List.getElem_toArray, List.getElem_cons_zero, List.getElem_cons_succ])
  refine wpAnyH_take (i := 6) (v := ?v19) rfl (by kernel_rfl) (by kernel_rfl) (by kernel_rfl) (fun _ _ _ h => h) (Or.inl ⟨by rfl, ?hy19⟩) (by assumption) ?rest19
  case hy19 => intro w' hSw; obtain ⟨q0, q1, q2⟩ := hX.out w' hSw; (try dsimp only at hSw); go_simp; try with_reducible rfl
  (try simp only [Act.put, List.setIfInBounds_toArray, List.set_cons_zero, List.set_cons_succ, List.getElem_toArray, List.getElem_cons_zero, List.getElem_cons_succ])
  refine wpAnyH_take (i := 7) (v := ?v20) rfl (by kernel_rfl) (by kernel_rfl) (by kernel_rfl) (fun _ _ _ h => h) (Or.inl ⟨by rfl, ?hy20⟩) (by assumption) ?rest20
  case hy20 => intro w' hSw; obtain ⟨q0, q1, q2⟩ := hX.out w' hSw; (try dsimp only at hSw); go_simp; try with_reducible rfl
  (try simp only [Act.put, List.setIfInBounds_toArray, List.set_cons_zero, List.set_cons_succ, List.getElem_toArray, List.getElem_cons_zero, List.getElem_cons_succ])
  refine wpAnyH_take (i := 8) (v := ?v21) rfl (by kernel_rfl) (by kernel_rfl) (by kernel_rfl) (fun _ _ _ h => h) (Or.inl ⟨by rfl, ?hy21⟩) (by assumption) ?rest21
  case hy21 => intro w' hSw; obtain ⟨q0, q1, q2⟩ := hX.out w' hSw; (try dsimp only at hSw); go_simp; try with_reducible rfl
  (try simp only [Act.put, List.setIfInBounds_toArray, List.set_cons_zero, List.set_cons_succ, List.getElem_toArray, List.getElem_cons_zero, List.getElem_cons_succ])
  refine wpAnyH_take (i := 9) (v := ?v22) rfl (by kernel_rfl) (by kernel_rfl) (by kernel_rfl) (fun _ _ _ h => h) (Or.inl ⟨by rfl, ?hy22⟩) (by assumption) ?rest22
  case hy22 => intro w' hSw; obtain ⟨q0, q1, q2⟩ := hX.out w' hSw; (try dsimp only at hSw); go_simp; try with_reducible rfl
  (try simp only [Act.put, List.setIfInBounds_toArray, List.set_cons_zero, List.set_cons_succ, List.getElem_toArray, List.getElem_cons_zero, List.getElem_cons_succ])
  refine wpAnyH_ready (rs := [4]) (by kernel_rfl) (by simp) ?_
  refine AllReadyH.cons rfl (fun K hK => ?_) AllReadyH.nil
  go_simp
  refine (rDigits_any _ (by have := hpr.out; omega) (by have := hpr.out; omega) _).mono ?_
  rintro e wq ⟨rfl, hwq⟩
  obtain rfl := hwq.symm
  rw [show (⟨(Lib.itoa (s.parts : Int)).toArray⟩ : ByteArray) = dg s.parts from rfl]
  refine hK.out _ _ ?_ (fun hHeld => ?_)
  · exact hbd.out
  clear hK K
  (try simp only [Act.put, List.setIfInBounds_toArray, List.set_cons_zero, List.set_cons_succ, List.getElem_toArray, List.getElem_cons_zero, List.getElem_cons_succ])
  refine wpAnyH_take (i := 5) (v := ?v23) rfl (by kernel_rfl) (by kernel_rfl) (by kernel_rfl) (fun _ _ _ h => h) (Or.inl ⟨by rfl, ?hy23⟩) (by assumption) ?rest23
  case hy23 => intro w' hSw; have q := hs1; (try dsimp only at hSw); go_simp; try with_reducible rfl
  (try simp only [Act.put, List.setIfInBounds_toArray, List.set_cons_zero, List.set_cons_succ, List.getElem_toArray, List.getElem_cons_zero, List.getElem_cons_succ])
  refine wpAnyH_ready (rs := [10]) (by kernel_rfl) (by simp) ?_
  refine AllReadyH.cons rfl (fun K hK => ?_) AllReadyH.nil
  go_simp
  refine (rDigits_any _ (by have := hrr.out; omega) (by have := hrr.out; omega) _).mono ?_
  rintro e wq ⟨rfl, hwq⟩
  obtain rfl := hwq.symm
  rw [show (⟨(Lib.itoa (s.room : Int)).toArray⟩ : ByteArray) = dg s.room from rfl]
  refine hK.out _ _ ?_ (fun hHeld => ?_)
  · exact hbd.out
  clear hK K
  (try simp only [Act.put, List.setIfInBounds_toArray, List.set_cons_zero, List.set_cons_succ, List.getElem_toArray, List.getElem_cons_zero, List.getElem_cons_succ])
  refine wpAnyH_take (i := 11) (v := ?v24) rfl (by kernel_rfl) (by kernel_rfl) (by kernel_rfl) (fun _ _ _ h => h) (Or.inl ⟨by rfl, ?hy24⟩) (by assumption) ?rest24
  case hy24 => intro w' hSw; have q := hs2; (try dsimp only at hSw); go_simp; try with_reducible rfl
  (try simp only [Act.put, List.setIfInBounds_toArray, List.set_cons_zero, List.set_cons_succ, List.getElem_toArray, List.getElem_cons_zero, List.getElem_cons_succ])
  refine wpAnyH_take (i := 12) (v := ?v25) rfl (by kernel_rfl) (by kernel_rfl) (by kernel_rfl) (fun _ _ _ h => h) (Or.inl ⟨by rfl, ?hy25⟩) (by assumption) ?rest25
  case hy25 => intro w' hSw; have q := hs3; (try dsimp only at hSw); go_simp; try with_reducible rfl
  (try simp only [Act.put, List.setIfInBounds_toArray, List.set_cons_zero, List.set_cons_succ, List.getElem_toArray, List.getElem_cons_zero, List.getElem_cons_succ])
  refine wpAnyH_take (i := 13) (v := ?v26) rfl (by kernel_rfl) (by kernel_rfl) (by kernel_rfl) (fun _ _ _ h => h) (Or.inl ⟨by rfl, ?hy26⟩) (by assumption) ?rest26
  case hy26 => intro w' hSw; (try dsimp only at hSw); go_simp; try with_reducible rfl
  (try simp only [Act.put, List.setIfInBounds_toArray, List.set_cons_zero, List.set_cons_succ, List.getElem_toArray, List.getElem_cons_zero, List.getElem_cons_succ])
  refine wpAnyH_done (by kernel_rfl) ?_ _
  go_wp2_with fail
  clear hs1 hs2 hs3
  obtain ⟨t0, ht0⟩ : ∃ t0, t0 = dg s.parts ++ ⟨#[10]⟩ ++ dg s.room ++ ⟨#[10]⟩ := ⟨_, rfl⟩
  have ht0' := hid (show t0.data.toList = bytesTo s 0 by rw [ht0, hht.out, bytesTo_zero])
  rw [← ht0]
  clear ht0 hX hHeld
  go_loopw [3, 4] (fun u v wr => ∃ (t : ByteArray) (i : Nat), u = .string t ∧ v = .int .i64 i ∧ i ≤ s.L.length ∧ t.data.toList = bytesTo s i ∧ Below w.heap.size w wr) (fun u v _ => s.L.length - (intOf v).toNat)
  case atStart => exact ⟨t0, 0, rfl, rfl, Nat.zero_le _, ht0'.out, hbd.out⟩
  case round =>
    clear ht0' hht hbd
    obtain ⟨t, i, rfl, rfl, hi, ht, hB0⟩ := hrel
    have ht := hid ht
    have hB := hid hB0
    clear hB0
    have hP := HH.out.below hB.out
    have d2 := hP.cells.2.2
    have hnn : (s.L.length : Int) ≤ 262144 := by have := hlen.out; omega
    by_cases hlt : i < s.L.length
    · have i1 : (i : Int) < (s.L.length : Int) := by omega
      obtain ⟨b, o, rfl, _, hbl, x0, x1, x2, x3⟩ := rd_kv hP.rd hlt
      obtain ⟨x, hx⟩ : ∃ x, x = s.L[i] := ⟨_, rfl⟩
      have hmem : x ∈ s.L := by rw [hx]; exact List.getElem_mem hlt
      rw [← hx] at x0 x1 x2 x3
      have hvk := hid (HH.out.ok.key x hmem)
      have hvo := hid (HH.out.ok.val x hmem)
      have hvr := hid (HR.out x hmem)
      have hstep := hid (bytesTo_step s hlt)
      rw [← hx] at hstep
      have hX := hid (fun W (hW : Below wr.heap.size wr W) => (show W.cell? ⟨r, 2, none⟩ = some (.slice (some ⟨b, o, none⟩) s.L.length c) ∧ W.cell? ⟨b, o + i * 4, none⟩ = some (.string x.1) from ⟨(hP.below hW).cells.2.2, cell_bel hW hbl x0⟩))
      have hpr9 := hid (rprint_any x.2 wr (by
        rcases ok_forms hvo.out with e | ⟨_, e⟩ | ⟨_, _, e, _⟩
        · rw [e]; decide
        · rw [e]; decide
        · omega) hvr.out)
      have hlt9 := hid hlt
      have hi9 : IntKind.i64.wrap ((i : Int) + 1) = (i : Int) + 1 := by rw [IntKind.wrap_i64]; omega
      clear hx hmem hP hlt hbl
      go_wp2_with fail
      refine hpr9.out.mono ?_
      rintro e wq ⟨rfl, hbq⟩
      rw [show (⟨(printL x.2).toArray⟩ : ByteArray) = pt x.2 from rfl]
      obtain ⟨d2, x0⟩ := hX.out _ hbq
      have hBq := hid (hB.out.trans (hbq.mono hB.out.size))
      have z1 : x.1.size ≤ 32 := by have := hvk.out; unfold validK at this; simp at this; omega
      have z2 : (pt x.2).size ≤ 200 := pt_size hvo.out hvr.out
      have z3 : ByteArray.size ⟨#[10]⟩ = 1 := rfl
      have z4 : ByteArray.size ⟨#[32]⟩ = 1 := rfl
      have z5 : t.size ≤ 100000000 := by
        have h1 : t.size = t.data.toList.length := by rw [Array.length_toList]; rfl
        rw [h1, ht.out]; exact hln.out i
      have hs1 : ∀ W, (Op.stringOp .add t x.1).run Tryz.prog W = .ok (.string (t ++ x.1)) W := fun W => run_string_add_sum W _ _ (by omega)
      have hs2 : ∀ W, (Op.stringOp .add (t ++ x.1) ⟨#[32]⟩).run Tryz.prog W = .ok (.string (t ++ x.1 ++ ⟨#[32]⟩)) W := fun W => run_string_add_sum W _ _ (by simp only [ByteArray.size_append]; omega)
      have hs3 : ∀ W, (Op.stringOp .add (t ++ x.1 ++ ⟨#[32]⟩) (pt x.2)).run Tryz.prog W = .ok (.string (t ++ x.1 ++ ⟨#[32]⟩ ++ pt x.2)) W := fun W => run_string_add_sum W _ _ (by simp only [ByteArray.size_append]; omega)
      have hs4 : ∀ W, (Op.stringOp .add (t ++ x.1 ++ ⟨#[32]⟩ ++ pt x.2) ⟨#[10]⟩).run Tryz.prog W = .ok (.string (t ++ x.1 ++ ⟨#[32]⟩ ++ pt x.2 ++ ⟨#[10]⟩)) W := fun W => run_string_add_sum W _ _ (by simp only [ByteArray.size_append]; omega)
      have hfin : Hid ((t ++ x.1 ++ ⟨#[32]⟩ ++ pt x.2 ++ ⟨#[10]⟩ : ByteArray).data.toList = bytesTo s (i + 1)) := hid (by
        rw [hstep.out, ← ht.out, ← line_text x]
        simp only [ByteArray.data_append, Array.toList_append, List.append_assoc])
      clear hbq z1 z2 z3 z4 z5 hpr9 hX x1 x2 x3
      go_wp2_with fail
      generalize t ++ x.1 ++ ⟨#[32]⟩ ++ pt x.2 ++ ⟨#[10]⟩ = t2 at *
      clear hs1 hs2 hs3 hs4
      go_roundw
      case rel => exact ⟨t2, i + 1, rfl, by go_num, hlt9.out, hfin.out, hBq.out⟩
      case measure => simp [intOf]; have := hlt9.out; omega
    · obtain rfl : i = s.L.length := by omega
      have hfin : Hid (t = ⟨(bytesS s).toArray⟩) := hid (by
        apply ByteArray.ext
        apply Array.toList_inj.1
        rw [ht.out, bytesTo_all])
      clear hP
      go_wp2_with fail
      go_ret
      exact ⟨by rw [hfin.out]; rfl, hB.out⟩
end
end Go.Proofs.YtphglnenafdkaaaGreatDoor

namespace Go.Proofs.YtphglnenafdkaaaGreatDoor
open Go.RowKit
set_option linter.unusedVariables false
set_option linter.unusedSimpArgs false

theorem dumpL_snoc (L : List Kv) (x : Kv) : dumpL (L ++ [x]) = dumpL L ++ (if x.2.k = 0 then [] else [x]) := by
  unfold dumpL
  rw [List.filter_append]
  by_cases h : x.2.k = 0 <;> simp [h]
section
variable {S : Nat → Prop} {w w' : World} {r : Nat} {s : St}
set_option maxRecDepth 100000 in
set_option maxHeartbeats 4000000 in
theorem rdump_any (h : RAt S w r s) : Calls Tryz.prog 28 #[.pointer (some ⟨r, 0, none⟩)] w fun e w' => ∃ A c, e = .returned (.slice A (dumpL s.L).length c) ∧ w'.ownsRow w.heap.size 70 4 (.slice A (dumpL s.L).length c) (dumpL s.L).length (kvCells (dumpL s.L)) ∧ Below w.heap.size w w' := by
  obtain ⟨B, d, h⟩ := h
  have HH := hid h
  have hlen := hid h.ok.len
  obtain ⟨ip, hip, hp0, hp1, hp2⟩ := info_parts info_item
  clear h
  go_enter Tryz.func28, Tryz.ntmps28
  go_wp2_with fail
  go_loopw [3, 4] (fun u v wr => ∃ (k : Nat) (out : List Kv) (A : Option Addr) (c : Nat), u = .slice A out.length c ∧ v = .int .i64 k ∧ k ≤ s.L.length ∧ out = dumpL (s.L.take k) ∧ wr.ownsRow w.heap.size 70 4 (.slice A out.length c) out.length (kvCells out) ∧ Below w.heap.size w wr) (fun u v _ => s.L.length - (intOf v).toNat)
  case atStart => exact ⟨0, [], none, 0, rfl, rfl, Nat.zero_le _, rfl, World.ownsRow_nil _ _ _ _, Below.refl _ _⟩
  case round =>
    obtain ⟨k, out, A, c, rfl, rfl, hk, ho0, hown0, hB0⟩ := hrel
    have ho := hid ho0
    have hown := hid hown0
    have hB := hid hB0
    clear ho0 hown0 hB0
    have hP := HH.out.below hB.out
    have d2 : wr.cell? ⟨r, 2, none⟩ = some (.slice B s.L.length d) := hP.cells.2.2
    by_cases hlt : k < s.L.length
    · have i1 : (k : Int) < (s.L.length : Int) := by omega
      have hl9 : (s.L.length : Int) ≤ 262144 := by have := hlen.out; omega
      obtain ⟨b, o, rfl, _, _, x0, x1, x2, x3⟩ := rd_kv hP.rd hlt
      have htk := hid (take_snoc hlt)
      obtain ⟨x, hx⟩ : ∃ x, x = s.L[k] := ⟨_, rfl⟩
      rw [← hx] at x0 x1 x2 x3 htk
      have hol : Hid (out.length ≤ 262144) := hid (by
        have h1 : out.length ≤ (s.L.take k).length := by rw [ho.out]; exact List.length_filter_le _ _
        have := hlen.out
        simp at h1; omega)
      clear hP hx
      by_cases hz : x.2.k = 0
      · have tz : (x.2.k != 0) = false := by simp [hz]
        have hn : Hid (out = dumpL (s.L.take (k + 1))) := hid (by rw [htk.out, dumpL_snoc, if_pos hz, ho.out]; simp)
        clear hz
        go_wp2_with fail
        go_roundw
        case rel => exact ⟨k + 1, out, A, c, rfl, by go_num, hlt, hn.out, hown.out, hB.out⟩
        case measure => simp [intOf]; omega
      · have tz : (x.2.k != 0) = true := by simp [hz]
        have hn : Hid (out ++ [x] = dumpL (s.L.take (k + 1))) := hid (by rw [htk.out, dumpL_snoc, if_neg hz, ho.out])
        clear hz
        go_wp2_with (
          at_builtin
          refine wpList_append_rd _ rfl (.tmp 24) (.tmp 32) 62 rfl w.heap.size 70 ip _ 4 48 Tryz.underlying62 hip hp0 hp1 hp2 rfl (by omega) (.slice A out.length c) out.length (kvCells out) rfl (hown.out.alloc _) (fun b => b = wr.heap.size) (some ⟨wr.heap.size, 0, none⟩) 1 1 (encI x) rfl (Rd.new _ 70 4 1 (encI x).toArray _ rfl rfl) (encI_one _) (by have := hol.out; simp only [maxLen]; omega) (by have := hol.out; omega) (by have h1 := hB.out.size; simp; omega) ?_
          intro v3 w3 hown3 hg3 hat3
          obtain ⟨A3, c3, rfl, hc3, _⟩ := own_form hown3)
        go_roundw
        case rel => exact ⟨k + 1, out ++ [x], A3, c3, by simp, by go_num, hlt, hn.out, by rw [kvCells_snoc, List.length_append]; exact hown3, (hB.out.alloc hB.out.size _).grown hg3 (by have := hB.out.size; simp; omega) fun q hq => (hown.out.lt q hq).1⟩
        case measure => simp [intOf]; omega
    · obtain rfl : k = s.L.length := by omega
      have hn : Hid (out = dumpL s.L) := hid (by rw [ho.out, List.take_length])
      clear hP
      go_wp2_with fail
      go_ret
      rw [← hn.out]
      exact ⟨A, c, rfl, hown.out, hB.out⟩
end
end Go.Proofs.YtphglnenafdkaaaGreatDoor

namespace Go.Proofs.YtphglnenafdkaaaGreatDoor
open Go
set_option linter.unusedVariables false

section
variable {P : Program} {ops : Array Oper} {Q : Exit → Act → World → Prop} {md : Region.Mode} {S : World → Prop}
/-- whatever order is picked, S holds behind every operation but number z -/
def wpAnyE (P : Program) (md : Region.Mode) (ops : Array Oper) (Q : Exit → Act → World → Prop) (S : World → Prop) (z : Nat) : Nat → Array Bool → Act → World → Prop
  | 0, listed, a, w => Region.ready md ops listed = [] ∧ Q .normal a w
  | fuel + 1, listed, a, w =>
    (Region.ready md ops listed = [] → Q .normal a w) ∧
    ∀ i ∈ Region.ready md ops listed, wpOp P ops Q i (fun a' w' => (i ≠ z → S w') ∧ wpAnyE P md ops Q S z fuel (listed.setIfInBounds i true) a' w') a w
theorem wpAny_of_E {z : Nat} : ∀ (fuel : Nat) (listed : Array Bool) (a : Act) (w : World), wpAnyE P md ops Q S z fuel listed a w → wpAny P md ops Q fuel listed a w
  | 0, _, _, _, h => h
  | fuel + 1, _, _, _, h => ⟨h.1, fun i hi => wpOp_mono (fun a' w' h' => wpAny_of_E fuel _ a' w' h'.2) (h.2 i hi)⟩
/-- each of C waits for i or for another of C -/
def waitB (md : Region.Mode) (ops : Array Oper) (i : Nat) (C : List Nat) : Bool := C.all fun c => match ops[c]? with | some oc => oc.after.any (fun e => Region.binds md e && (e.on == i || C.contains e.on)) | none => false
def unB (listed : Array Bool) (C : List Nat) : Bool := C.all fun c => listed.getD c true == false
theorem wait_not {i : Nat} {C : List Nat} {listed : Array Bool} (hw : waitB md ops i C = true) (hu : unB listed C = true) (hi : listed.getD i true = false) {c : Nat} (hc : c ∈ C) : c ∉ Region.ready md ops listed := by
  intro hr
  obtain ⟨_, oj, hoj, hall⟩ := mem_ready.1 hr
  unfold waitB at hw
  rw [List.all_eq_true] at hw
  have h1 := hw c hc
  rw [hoj] at h1
  simp only at h1
  obtain ⟨e, he, h2⟩ := Array.any_eq_true'.1 h1
  rw [Bool.and_eq_true, Bool.or_eq_true] at h2
  have h3 := hall e he h2.1
  have h0 : listed.getD e.on true = false := by
    rcases h2.2 with h4 | h4
    · rw [beq_iff_eq.1 h4]; exact hi
    · unfold unB at hu
      rw [List.all_eq_true] at hu
      have := hu e.on (by simpa using h4)
      simpa using this
  rcases Nat.lt_or_ge e.on listed.size with h' | h'
  · simp [h'] at h0 h3; rw [h0] at h3; cases h3
  · simp [Array.getElem?_eq_none h'] at h3
theorem wpAnyE_first {z i : Nat} {oi : Oper} {v : Value} {C : List Nat} (hi : ops[i]? = some oi) (hsel : ∀ (j : Nat) (o : Oper) cs b, ops[j]? = some o → o.op ≠ .select cs b)
    (hQ : ∀ c a w, Q (.panic c) (a.put oi.dst v) w → Q (.panic c) a w) (hzC : z ∈ C) (hw : waitB md ops i C = true) :
    ∀ (fuel : Nat) (listed : Array Bool) (a : Act) (w : World),
      (∀ j oj, ops[j]? = some oj → j ≠ i → listed.getD j true = false → (∀ e ∈ oj.after, Region.binds md e = true → e.on ≠ i) → oi.apart ops oj = true) →
      i ∈ Region.ready md ops listed → unB listed C = true → YieldsIf P ops S oi v a → S w →
      wpAnyE P md ops Q S z fuel (listed.setIfInBounds i true) (a.put oi.dst v) w → wpAnyE P md ops Q S z (fuel + 1) listed a w := by
  intro fuel
  induction fuel with
  | zero =>
    intro listed a w _ hr hu hy hS H
    refine ⟨fun h => (by rw [h] at hr; cases hr), fun j hj => ?_⟩
    by_cases hji : j = i
    · subst hji; exact hy.wpOp hi hS ⟨fun _ => hS, H⟩
    · have := ready_mono hj hji
      rw [H.1] at this
      cases this
  | succ fuel ih =>
    intro listed a w hfree hr hu hy hS H
    refine ⟨fun h => (by rw [h] at hr; cases hr), fun j hj => ?_⟩
    by_cases hji : j = i
    · subst hji; exact hy.wpOp hi hS ⟨fun _ => hS, H⟩
    · have h1 := H.2 j (ready_mono hj hji)
      obtain ⟨hjun, oj, hoj, hall⟩ := mem_ready.1 hj
      have hnot : ∀ e ∈ oj.after, Region.binds md e = true → e.on ≠ i := fun e he hb heq => by
        have h1 := hall e he hb
        have h0 := (mem_ready.1 hr).1
        rw [heq] at h1
        rcases Nat.lt_or_ge i listed.size with h' | h'
        · simp [h'] at h0 h1; rw [h0] at h1; cases h1
        · simp [Array.getElem?_eq_none h'] at h1
      have hjC : j ∉ C := fun hjC => wait_not hw hu (mem_ready.1 hr).1 hjC hj
      have hjz : j ≠ z := fun e => hjC (e ▸ hzC)
      have h2 := wpOp_putIf hoj (hfree j oj hoj hji hjun hnot) (fun cs b => hsel i oi cs b hi) (fun cs b => hsel j oj cs b hoj) hQ hy h1
      have hfree' : ∀ k ok, ops[k]? = some ok → k ≠ i → (listed.setIfInBounds j true).getD k true = false →
          (∀ e ∈ ok.after, Region.binds md e = true → e.on ≠ i) → oi.apart ops ok = true := fun k ok hk hki hun hno => by
        refine hfree k ok hk hki ?_ hno
        by_cases hjk : j = k
        · subst hjk; exact hjun
        · rw [getD_set_ne true hjk] at hun; exact hun
      have hu' : unB (listed.setIfInBounds j true) C = true := by
        unfold unB at hu ⊢
        rw [List.all_eq_true] at hu ⊢
        intro c hc
        rw [getD_set_ne true (show j ≠ c from fun e => hjC (by rw [e]; exact hc))]
        exact hu c hc
      refine wpOp_mono (fun a' w' h3 => ⟨fun _ => h3.2.1 hjz, ih (listed.setIfInBounds j true) a' w' hfree' (ready_mono hr (Ne.symm hji)) hu' h3.1 (h3.2.1 hjz) ?_⟩) h2
      rw [Array.setIfInBounds_comm _ _ hji]
      exact h3.2.2
/-- take number i first -/
theorem wpAnyE_take {z i : Nat} {oi : Oper} {v : Value} {fuel : Nat} {listed : Array Bool} {a : Act} {w : World} (C : List Nat) (hi : ops[i]? = some oi)
    (hs : Region.noSelect ops = true) (hf : Region.free md ops listed i = true) (hr : (Region.ready md ops listed).contains i = true) (hz : C.contains z = true) (hwt : waitB md ops i C = true) (hun : unB listed C = true)
    (hQ : ∀ c a w, Q (.panic c) (a.put oi.dst v) w → Q (.panic c) a w) (hy : YieldsIf P ops S oi v a) (hS : S w)
    (h : wpAnyE P md ops Q S z fuel (listed.setIfInBounds i true) (a.put oi.dst v) w) : wpAnyE P md ops Q S z (fuel + 1) listed a w :=
  wpAnyE_first hi (Region.noSelect_spec hs) hQ (by simpa using hz) hwt fuel listed a w (Region.free_spec hi hf) (by simpa using hr) hun hy hS h
def AllReadyE (P : Program) (md : Region.Mode) (ops : Array Oper) (Q : Exit → Act → World → Prop) (S : World → Prop) (z fuel : Nat) (listed : Array Bool) (a : Act) (w : World) (rs : List Nat) : Prop :=
  ∀ i ∈ rs, wpOp P ops Q i (fun a' w' => (i ≠ z → S w') ∧ wpAnyE P md ops Q S z fuel (listed.setIfInBounds i true) a' w') a w
theorem AllReadyE.nil {z fuel : Nat} {listed : Array Bool} {a : Act} {w : World} : AllReadyE P md ops Q S z fuel listed a w [] := fun _ h => by cases h
theorem AllReadyE.cons {z fuel : Nat} {listed : Array Bool} {a : Act} {w : World} {i : Nat} {o : Oper} {rs : List Nat} (ho : ops[i]? = some o)
    (h : ∀ K' : Act → World → Prop, Shut (∀ a w, (i ≠ z → S w) → wpAnyE P md ops Q S z fuel (listed.setIfInBounds i true) a w → K' a w) → if Region.wanted o (yielded ops a.tmps) = true then Oper.wp P o a w K' Q else K' (a.put o.dst undef) w)
    (hs : AllReadyE P md ops Q S z fuel listed a w rs) : AllReadyE P md ops Q S z fuel listed a w (i :: rs) := fun j hj => by
  rcases List.mem_cons.1 hj with rfl | hj
  · exact wpOp_step ho (fun K' hK => h K' (fun a w hS hW => hK a w ⟨hS, hW⟩))
  · exact hs j hj
theorem wpAnyE_ready {z : Nat} {rs : List Nat} {fuel : Nat} {listed : Array Bool} {a : Act} {w : World} (hr : Region.ready md ops listed = rs) (hne : rs ≠ [])
    (h : AllReadyE P md ops Q S z fuel listed a w rs) : wpAnyE P md ops Q S z (fuel + 1) listed a w := ⟨fun h0 => absurd (hr ▸ h0) hne, hr ▸ h⟩
theorem wpAnyE_done {z : Nat} {listed : Array Bool} {a : Act} {w : World} (hr : Region.ready md ops listed = []) (h : Q .normal a w) : ∀ fuel, wpAnyE P md ops Q S z fuel listed a w
  | 0 => ⟨hr, h⟩
  | _ + 1 => ⟨fun _ => h, by rw [hr]; simp⟩
theorem wp_region_heldE (z : Nat) {id : Nat} {a : Act} {w : World} (hm : P.follows .mixedOrders = true)
    (h : wpAnyE P .any ops Q S z ops.size (Array.replicate ops.size false) a w.drew) : (Code.region id ops true).wp P Q a w := wp_region_any hm (wpAny_of_E _ _ _ _ h)
end
end Go.Proofs.YtphglnenafdkaaaGreatDoor

