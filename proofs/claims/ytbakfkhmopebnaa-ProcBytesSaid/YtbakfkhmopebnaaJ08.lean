/- Texts of the proof, joined: KRInt, KCInt, KCPub, KCRint, KCRstring, KRText, KCText, KCPub2, KCPub3. -/
import Derived.Test.YtbakfkhmopebnaaJ06
import Derived.Test.YtbakfkhmopebnaaJ07
import Derived.Test.YtbakfkhmopebnaaJ04
import Derived.Laws.BytesArg
namespace Go.Proofs.Ytbakfkhmopebnaa
open Go.RowKit
set_option linter.unusedVariables false
set_option linter.unusedSimpArgs false

theorem zag_even {u : Nat} (h : u % 2 = 0) : zag u = ((u / 2 : Nat) : Int) := by unfold zag; rw [if_pos h]
theorem zag_odd {u : Nat} (h : ¬ u % 2 = 0) : zag u = -((u / 2 : Nat) : Int) - 1 := by unfold zag; rw [if_neg h]
theorem Rr.int_eq (r : Rr) : r.int = (zag r.uint.1, r.uint.2) := by
  unfold Rr.int Rr.uint
  split
  · simp [zag]
  · split
    · simp [zag]
    · rfl
theorem zh1 {n : Nat} (h : n < 18446744073709551616) : wrap64 (IntKind.u64.wrap ((n : Int) / 2)) = (n : Int) / 2 := by rw [IntKind.wrap_u64]; unfold wrap64; omega
theorem zh2 {n : Nat} (h : n < 18446744073709551616) : wrap64 (wrap64 (-wrap64 (IntKind.u64.wrap ((n : Int) / 2))) - 1) = -((n : Int) / 2) - 1 := by rw [zh1 h]; unfold wrap64; omega
theorem Rr.uint_lt (r : Rr) : r.uint.1 < 18446744073709551616 := by
  unfold Rr.uint
  split
  · simp
  · split
    · simp
    · rename_i h; exact (num_lt h).1
set_option maxRecDepth 100000 in
theorem rint_any {S : Nat → Prop} {w : World} {g : Nat} {A : Option Addr} {c : Nat} {r : Rr} (h : RrIn S w g A c r) : Calls Try.prog 89 #[.pointer (some ⟨g, 0, none⟩)] w fun e w' => e = .returned (.int .i64 r.int.1) ∧ Upd (fun k => k = g) w w' ∧ RrIn S w' g A c (r.int.2) := by
  have hu := hid (ruint_any h)
  rw [Rr.int_eq]
  simp only
  have hl0 := r.uint_lt
  generalize r.uint.1 = n at *
  have e0 : (n : Int).tmod 2 = ((n % 2 : Nat) : Int) := by rw [Int.tmod_eq_emod_of_nonneg (by omega)]; omega
  by_cases hp : n % 2 = 0
  · rw [zag_even hp]
    have e1 : (((n % 2 : Nat) : Int) == 0) = true := by simp [hp]
    have hl := hid hl0
    clear hp h hl0
    go_enter Try.func89, Try.ntmps89
    go_wp2_with fail
    refine hu.out.mono ?_
    rintro e w2 ⟨rfl, hu0, hr0⟩
    have hu2 := hid hu0; have hr2 := hid hr0
    clear hu0 hr0
    go_wp2_with fail
    go_ret
    exact ⟨by simp [zh1 hl.out], hu2.out, hr2.out⟩
  · rw [zag_odd hp]
    have e1 : (((n % 2 : Nat) : Int) == 0) = false := by simp; omega
    have hl := hid hl0
    clear hp h hl0
    go_enter Try.func89, Try.ntmps89
    go_wp2_with fail
    refine hu.out.mono ?_
    rintro e w2 ⟨rfl, hu0, hr0⟩
    have hu2 := hid hu0; have hr2 := hid hr0
    clear hu0 hr0
    go_wp2_with fail
    go_ret
    exact ⟨by simp [zh2 hl.out], hu2.out, hr2.out⟩

end Go.Proofs.Ytbakfkhmopebnaa

namespace Go.Proofs.Ytbakfkhmopebnaa
open Go.RowKit
set_option linter.unusedVariables false
set_option linter.unusedSimpArgs false

theorem and_one (n : Nat) (h : n < 18446744073709551616) : bits BinOp.and IntKind.u64 (n : Int) 1 = ((n % 2 : Nat) : Int) := by
  have h1 : (BitVec.ofInt 64 (n : Int)).toNat = n := by
    rw [BitVec.ofInt_natCast, BitVec.toNat_ofNat]; exact Nat.mod_eq_of_lt (by omega)
  show IntKind.u64.wrap ((BitVec.ofInt 64 (n : Int) &&& BitVec.ofInt 64 1).toNat : Int) = _
  rw [BitVec.toNat_and, h1, show (BitVec.ofInt 64 1).toNat = 1 from rfl, Nat.and_one_is_mod, IntKind.wrap_u64]
  omega
theorem xor_zero_i (q : Nat) (h : q < 9223372036854775808) : bits BinOp.xor IntKind.i64 (q : Int) 0 = (q : Int) := by
  have h1 : (BitVec.ofInt 64 (q : Int)).toNat = q := by
    rw [BitVec.ofInt_natCast, BitVec.toNat_ofNat]; exact Nat.mod_eq_of_lt (by omega)
  show IntKind.i64.wrap ((BitVec.ofInt 64 (q : Int) ^^^ BitVec.ofInt 64 0).toNat : Int) = _
  rw [BitVec.toNat_xor, h1, show (BitVec.ofInt 64 0).toNat = 0 from rfl, Nat.xor_zero, IntKind.wrap_i64]
  omega
theorem xor_ones_i (q : Nat) (h : q < 9223372036854775808) : bits BinOp.xor IntKind.i64 (q : Int) (-1) = -(q : Int) - 1 := by
  have h1 : (BitVec.ofInt 64 (q : Int)).toNat = q := by
    rw [BitVec.ofInt_natCast, BitVec.toNat_ofNat]; exact Nat.mod_eq_of_lt (by omega)
  show IntKind.i64.wrap ((BitVec.ofInt 64 (q : Int) ^^^ BitVec.ofInt 64 (-1)).toNat : Int) = _
  rw [BitVec.toNat_xor, h1, show (BitVec.ofInt 64 (-1)).toNat = 18446744073709551615 from by decide, xor_ones q (by omega), IntKind.wrap_i64]
  omega
set_option maxRecDepth 100000 in
theorem cint_any {S : Nat → Prop} {w : World} {g : Nat} {A : Option Addr} {c : Nat} {r : Rr} (h : CrIn S w g A c r) : Calls Try.prog 98 #[.pointer (some ⟨g, 0, none⟩)] w (CPost S w g A c r (cintR r)) := by
  have hcu := hid (cuint_any h)
  cases hnv : num r.b r.at_ with
  | inr er =>
    have hok : cuintR r = .inr er := by unfold cuintR; rw [hnv]
    have hres : Hid (cintR r = .inr er) := hid (by unfold cintR; rw [hnv])
    clear hnv h
    go_enter Try.func98, Try.ntmps98
    go_wp2_with fail
    refine (cp_bad hok hcu.out).mono ?_
    rintro e w2 ⟨rfl, hu0, a2, hr0⟩
    have hU2 := hid hu0
    have hR2 := hid hr0
    clear hu0 hr0 hok
    go_wp2_with fail
    refine ⟨rfl, hU2.out, ?_⟩
    rw [hres.out]
    exact ⟨rfl, _, hR2.out⟩
  | inl nk =>
    obtain ⟨n, k⟩ := nk
    obtain ⟨hn1, hn2, hn3⟩ := num_lt hnv
    obtain ⟨q, hq⟩ : ∃ q, q = n / 2 := ⟨_, rfl⟩
    have f2 : (n : Int) / 2 = (q : Int) := by omega
    have f3 : IntKind.i64.wrap (q : Int) = (q : Int) := by rw [IntKind.wrap_i64]; omega
    have f4 : wrap64 (q : Int) = (q : Int) := by unfold wrap64; omega
    have hok : cuintR r = .inl (.int .u64 (n : Nat), r.at_ + k) := by unfold cuintR; rw [hnv]
    by_cases hp : n % 2 = 0
    · have fa : bits BinOp.and IntKind.u64 (n : Int) 1 = 0 := by rw [and_one n hn1, hp]; rfl
      have fx : bits BinOp.xor IntKind.i64 (q : Int) 0 = (q : Int) := xor_zero_i q (by omega)
      have hz : zag n = (q : Int) := by rw [zag_even hp, hq]
      have hres : Hid (cintR r = .inl (.int .i64 ((q : Int)), r.at_ + k)) := hid (by unfold cintR; rw [hnv]; simp only; rw [hz])
      clear hnv h hz hq hp hn1 hn2 hn3
      go_enter Try.func98, Try.ntmps98
      go_wp2_with fail
      refine (cp_ok hok hcu.out).mono ?_
      rintro e w2 ⟨rfl, hu0, hr0⟩
      have hU2 := hid hu0
      have hR2 : Hid (CrIn S w2 g A c (r.to (r.at_ + k))) := hid hr0
      clear hu0 hr0 hok
      go_wp2_with fail
      go_ret
      refine ⟨hU2.out, ?_⟩
      rw [hres.out]
      exact ⟨rfl, hR2.out⟩
    · have fa : bits BinOp.and IntKind.u64 (n : Int) 1 = 1 := by rw [and_one n hn1, show n % 2 = 1 by omega]; rfl
      have fn : IntKind.i64.wrap (-1) = -1 := by decide
      have fx : bits BinOp.xor IntKind.i64 (q : Int) (-1) = -(q : Int) - 1 := xor_ones_i q (by omega)
      have hz : zag n = -(q : Int) - 1 := by rw [zag_odd hp, hq]
      have hres : Hid (cintR r = .inl (.int .i64 (-(q : Int) - 1), r.at_ + k)) := hid (by unfold cintR; rw [hnv]; simp only; rw [hz])
      clear hnv h hz hq hp hn1 hn2 hn3
      go_enter Try.func98, Try.ntmps98
      go_wp2_with fail
      refine (cp_ok hok hcu.out).mono ?_
      rintro e w2 ⟨rfl, hu0, hr0⟩
      have hU2 := hid hu0
      have hR2 : Hid (CrIn S w2 g A c (r.to (r.at_ + k))) := hid hr0
      clear hu0 hr0 hok
      go_wp2_with fail
      go_ret
      refine ⟨hU2.out, ?_⟩
      rw [hres.out]
      exact ⟨rfl, hR2.out⟩
set_option maxRecDepth 100000 in
theorem climit_any {S : Nat → Prop} {w : World} {g : Nat} {A : Option Addr} {c : Nat} {r : Rr} (h : CrIn S w g A c r) (most er : Int) (hmm : 0 ≤ most ∧ most ≤ 100000) : Calls Try.prog 75 #[.pointer (some ⟨g, 0, none⟩), .int .i64 most, .int .i64 er] w (CPost S w g A c r (climR r most er)) := by
  have hcu := hid (cuint_any h)
  have hm := hid hmm
  have fm : IntKind.u64.wrap most = most := by rw [IntKind.wrap_u64]; omega
  have m0 : ¬ most < 0 := by omega
  clear hmm
  cases hnv : num r.b r.at_ with
  | inr e1 =>
    have hok : cuintR r = .inr e1 := by unfold cuintR; rw [hnv]
    have hres : Hid (climR r most er = .inr e1) := hid (by unfold climR; rw [hnv])
    clear hnv h
    go_enter Try.func75, Try.ntmps75
    go_wp2_with fail
    refine (cp_bad hok hcu.out).mono ?_
    rintro e w2 ⟨rfl, hu0, a2, hr0⟩
    have hU2 := hid hu0
    have hR2 := hid hr0
    clear hu0 hr0 hok
    go_wp2_with fail
    refine ⟨rfl, hU2.out, ?_⟩
    rw [hres.out]
    exact ⟨rfl, _, hR2.out⟩
  | inl nk =>
    obtain ⟨n, k⟩ := nk
    obtain ⟨hn1, hn2, hn3⟩ := num_lt hnv
    have hok : cuintR r = .inl (.int .u64 (n : Nat), r.at_ + k) := by unfold cuintR; rw [hnv]
    by_cases hmn : most < (n : Int)
    · have hres : Hid (climR r most er = .inr er) := hid (by unfold climR; rw [hnv]; simp only; rw [if_pos hmn])
      clear hnv h hn1 hn2 hn3
      go_enter Try.func75, Try.ntmps75
      go_wp2_with fail
      refine (cp_ok hok hcu.out).mono ?_
      rintro e w2 ⟨rfl, hu0, hr0⟩
      have hU2 := hid hu0
      have hR2 : Hid (CrIn S w2 g A c (r.to (r.at_ + k))) := hid hr0
      clear hu0 hr0 hok
      go_wp2_with fail
      refine ⟨rfl, hU2.out, ?_⟩
      rw [hres.out]
      exact ⟨rfl, _, hR2.out⟩
    · have hres : Hid (climR r most er = .inl (.int .i64 (n : Nat), r.at_ + k)) := hid (by unfold climR; rw [hnv]; simp only; rw [if_neg hmn])
      have fn : IntKind.i64.wrap (n : Int) = (n : Int) := by have := hm.out; rw [IntKind.wrap_i64]; omega
      clear hnv h hn1 hn2 hn3
      go_enter Try.func75, Try.ntmps75
      go_wp2_with fail
      refine (cp_ok hok hcu.out).mono ?_
      rintro e w2 ⟨rfl, hu0, hr0⟩
      have hU2 := hid hu0
      have hR2 : Hid (CrIn S w2 g A c (r.to (r.at_ + k))) := hid hr0
      clear hu0 hr0 hok
      go_wp2_with fail
      go_ret
      refine ⟨hU2.out, ?_⟩
      rw [hres.out]
      exact ⟨rfl, hR2.out⟩
set_option maxRecDepth 100000 in
theorem ccount1_any {S : Nat → Prop} {w : World} {g : Nat} {A : Option Addr} {c : Nat} {r : Rr} {p q : Nat} (h : CrIn S w g A c r) (most : Int) (hmm : 0 ≤ most ∧ most ≤ 100000) (hb1 : Blk w p 70 #[.pointer (some ⟨g, 0, none⟩)]) (hb2 : Blk w q 3 #[.int .i64 most]) (hpg : p ≠ g) : Calls Try.prog 74 #[.pointer (some ⟨p, 0, none⟩), .pointer (some ⟨q, 0, none⟩)] w (CPost S w g A c r (climR r most 6)) := by
  have hcl := hid (climit_any h most 6 hmm)
  have y0 : w.cell? ⟨p, 0, none⟩ = some (.pointer (some ⟨g, 0, none⟩)) := hb1.cell 0
  have y1 : w.cell? ⟨q, 0, none⟩ = some (.int .i64 most) := hb2.cell 0
  clear h hb1 hb2 hmm
  cases hr : climR r most 6 with
  | inr er =>
    go_enter Try.func74, Try.ntmps74
    go_wp2_with fail
    refine (cp_bad hr hcl.out).mono ?_
    rintro e w2 ⟨rfl, hu0, a2, hr0⟩
    have hU2 := hid hu0
    have hR2 := hid hr0
    clear hu0 hr0 hr
    go_wp2_with fail
    exact ⟨rfl, hU2.out, rfl, _, hR2.out⟩
  | inl va =>
    obtain ⟨v, a⟩ := va
    go_enter Try.func74, Try.ntmps74
    go_wp2_with fail
    refine (cp_ok hr hcl.out).mono ?_
    rintro e w2 ⟨rfl, hu0, hr0⟩
    have hU2 := hid hu0
    have hR2 := hid hr0
    clear hu0 hr0 hr
    go_wp2_with fail
    go_ret
    exact ⟨hU2.out, rfl, hR2.out⟩

end Go.Proofs.Ytbakfkhmopebnaa

namespace Go.Proofs.Ytbakfkhmopebnaa
open Go.RowKit
set_option linter.unusedVariables false
set_option linter.unusedSimpArgs false

set_option maxRecDepth 100000 in
theorem cByte_any {S : Nat → Prop} {w : World} {g : Nat} {A : Option Addr} {c : Nat} {r : Rr} (h : CrIn S w g A c r) : Calls Try.prog 49 #[.pointer (some ⟨g, 0, none⟩)] w fun e w' => e = .returned (.int .u8 (r.byte.1 : Nat)) ∧ Upd (fun k => k = g) w w' ∧ CrIn S w' g A c r.byte.2 := by
  have hmf : ∀ (fn : Fn) (first cap : Array Value) (w : World), (Instr.makeFunc fn first cap).run Try.prog w = .ok (.func fn first cap) w := fun _ _ _ _ => rfl
  have hne := hid h.ne
  have hb := h.bound
  have hT : ∀ W, Below w.heap.size w W → CrIn (fun k => S k ∧ k < w.heap.size) W g A c r → Calls Try.prog 82 #[.pointer (some ⟨g, 0, none⟩)] W (CPost (fun k => S k ∧ k < w.heap.size) W g A c r (cbyteR r)) := fun W _ hr => cbyte_any hr
  by_cases he : r.e = 0
  · cases hnv : r.b[r.at_]? with
    | none =>
      have hc := hid (cread_byte_bad hb (fun k hk => hk.2) he _ hT 3 (by unfold cbyteR; rw [hnv]))
      have hp : Hid (r.byte = (0, r.fails 3)) := hid (by unfold Rr.byte; rw [if_neg (by simp [he]), hnv])
      clear h hb hT he hnv
      go_enter Try.func49, Try.ntmps49
      go_wp2_with fail
      refine hc.out.mono ?_
      rintro e w2 ⟨rfl, hu0, hr0⟩
      have hu2 := hid hu0
      have hr2 := hid (hr0.unbound hne.out)
      clear hu0 hr0 hc
      go_wp2_with fail
      go_ret
      rw [hp.out]
      exact ⟨rfl, hu2.out, hr2.out⟩
    | some v =>
      have hc := hid (cread_byte_ok hb (fun k hk => hk.2) he _ hT (v : Nat) (r.at_ + 1) (by unfold cbyteR; rw [hnv]))
      have hp : Hid (r.byte = (v, r.took 1)) := hid (by unfold Rr.byte; rw [if_neg (by simp [he]), hnv])
      clear h hb hT he hnv
      go_enter Try.func49, Try.ntmps49
      go_wp2_with fail
      refine hc.out.mono ?_
      rintro e w2 ⟨rfl, hu0, hr0⟩
      have hu2 := hid hu0
      have hr2 := hid (hr0.unbound hne.out)
      clear hu0 hr0 hc
      go_wp2_with fail
      go_ret
      rw [hp.out]
      exact ⟨rfl, hu2.out, hr2.out⟩
  · have hc := hid (cread_byte_err hb (fun k hk => hk.2) he)
    have hp : Hid (r.byte = (0, r)) := hid (by unfold Rr.byte; rw [if_pos he])
    clear h hb hT he
    go_enter Try.func49, Try.ntmps49
    go_wp2_with fail
    refine hc.out.mono ?_
    rintro e w2 ⟨rfl, hu0, hr0⟩
    have hu2 := hid hu0
    have hr2 := hid (hr0.unbound hne.out)
    clear hu0 hr0 hc
    go_wp2_with fail
    go_ret
    rw [hp.out]
    exact ⟨rfl, hu2.out, hr2.out⟩
set_option maxRecDepth 100000 in
theorem cUint_any {S : Nat → Prop} {w : World} {g : Nat} {A : Option Addr} {c : Nat} {r : Rr} (h : CrIn S w g A c r) : Calls Try.prog 50 #[.pointer (some ⟨g, 0, none⟩)] w fun e w' => e = .returned (.int .u64 (r.uint.1 : Nat)) ∧ Upd (fun k => k = g) w w' ∧ CrIn S w' g A c r.uint.2 := by
  have hmf : ∀ (fn : Fn) (first cap : Array Value) (w : World), (Instr.makeFunc fn first cap).run Try.prog w = .ok (.func fn first cap) w := fun _ _ _ _ => rfl
  have hne := hid h.ne
  have hb := h.bound
  have hT : ∀ W, Below w.heap.size w W → CrIn (fun k => S k ∧ k < w.heap.size) W g A c r → Calls Try.prog 84 #[.pointer (some ⟨g, 0, none⟩)] W (CPost (fun k => S k ∧ k < w.heap.size) W g A c r (cuintR r)) := fun W _ hr => cuint_any hr
  by_cases he : r.e = 0
  · cases hnv : num r.b r.at_ with
    | inr er =>
      have hc := hid (cread_uint64_bad hb (fun k hk => hk.2) he _ hT er (by unfold cuintR; rw [hnv]))
      have hp : Hid (r.uint = (0, r.fails er)) := hid (by unfold Rr.uint; rw [if_neg (by simp [he]), hnv])
      clear h hb hT he hnv
      go_enter Try.func50, Try.ntmps50
      go_wp2_with fail
      refine hc.out.mono ?_
      rintro e w2 ⟨rfl, hu0, hr0⟩
      have hu2 := hid hu0
      have hr2 := hid (hr0.unbound hne.out)
      clear hu0 hr0 hc
      go_wp2_with fail
      go_ret
      rw [hp.out]
      exact ⟨rfl, hu2.out, hr2.out⟩
    | inl nk =>
      obtain ⟨n, k⟩ := nk
      have hc := hid (cread_uint64_ok hb (fun k hk => hk.2) he _ hT (n : Nat) (r.at_ + k) (by unfold cuintR; rw [hnv]))
      have hp : Hid (r.uint = (n, r.took k)) := hid (by unfold Rr.uint; rw [if_neg (by simp [he]), hnv])
      clear h hb hT he hnv
      go_enter Try.func50, Try.ntmps50
      go_wp2_with fail
      refine hc.out.mono ?_
      rintro e w2 ⟨rfl, hu0, hr0⟩
      have hu2 := hid hu0
      have hr2 := hid (hr0.unbound hne.out)
      clear hu0 hr0 hc
      go_wp2_with fail
      go_ret
      rw [hp.out]
      exact ⟨rfl, hu2.out, hr2.out⟩
  · have hc := hid (cread_uint64_err hb (fun k hk => hk.2) he)
    have hp : Hid (r.uint = (0, r)) := hid (by unfold Rr.uint; rw [if_pos he])
    clear h hb hT he
    go_enter Try.func50, Try.ntmps50
    go_wp2_with fail
    refine hc.out.mono ?_
    rintro e w2 ⟨rfl, hu0, hr0⟩
    have hu2 := hid hu0
    have hr2 := hid (hr0.unbound hne.out)
    clear hu0 hr0 hc
    go_wp2_with fail
    go_ret
    rw [hp.out]
    exact ⟨rfl, hu2.out, hr2.out⟩
set_option maxRecDepth 100000 in
theorem cInt_any {S : Nat → Prop} {w : World} {g : Nat} {A : Option Addr} {c : Nat} {r : Rr} (h : CrIn S w g A c r) : Calls Try.prog 77 #[.pointer (some ⟨g, 0, none⟩)] w fun e w' => e = .returned (.int .i64 r.int.1) ∧ Upd (fun k => k = g) w w' ∧ CrIn S w' g A c r.int.2 := by
  have hmf : ∀ (fn : Fn) (first cap : Array Value) (w : World), (Instr.makeFunc fn first cap).run Try.prog w = .ok (.func fn first cap) w := fun _ _ _ _ => rfl
  have hne := hid h.ne
  have hb := h.bound
  have hT : ∀ W, Below w.heap.size w W → CrIn (fun k => S k ∧ k < w.heap.size) W g A c r → Calls Try.prog 98 #[.pointer (some ⟨g, 0, none⟩)] W (CPost (fun k => S k ∧ k < w.heap.size) W g A c r (cintR r)) := fun W _ hr => cint_any hr
  by_cases he : r.e = 0
  · cases hnv : num r.b r.at_ with
    | inr er =>
      have hc := hid (cread_int64_bad hb (fun k hk => hk.2) he _ hT er (by unfold cintR; rw [hnv]))
      have hp : Hid (r.int = (0, r.fails er)) := hid (by unfold Rr.int; rw [if_neg (by simp [he]), hnv])
      clear h hb hT he hnv
      go_enter Try.func77, Try.ntmps77
      go_wp2_with fail
      refine hc.out.mono ?_
      rintro e w2 ⟨rfl, hu0, hr0⟩
      have hu2 := hid hu0
      have hr2 := hid (hr0.unbound hne.out)
      clear hu0 hr0 hc
      go_wp2_with fail
      go_ret
      rw [hp.out]
      exact ⟨rfl, hu2.out, hr2.out⟩
    | inl nk =>
      obtain ⟨n, k⟩ := nk
      have hc := hid (cread_int64_ok hb (fun k hk => hk.2) he _ hT (zag n) (r.at_ + k) (by unfold cintR; rw [hnv]))
      have hp : Hid (r.int = (zag n, r.took k)) := hid (by unfold Rr.int; rw [if_neg (by simp [he]), hnv])
      clear h hb hT he hnv
      go_enter Try.func77, Try.ntmps77
      go_wp2_with fail
      refine hc.out.mono ?_
      rintro e w2 ⟨rfl, hu0, hr0⟩
      have hu2 := hid hu0
      have hr2 := hid (hr0.unbound hne.out)
      clear hu0 hr0 hc
      go_wp2_with fail
      go_ret
      rw [hp.out]
      exact ⟨rfl, hu2.out, hr2.out⟩
  · have hc := hid (cread_int64_err hb (fun k hk => hk.2) he)
    have hp : Hid (r.int = (0, r)) := hid (by unfold Rr.int; rw [if_pos he])
    clear h hb hT he
    go_enter Try.func77, Try.ntmps77
    go_wp2_with fail
    refine hc.out.mono ?_
    rintro e w2 ⟨rfl, hu0, hr0⟩
    have hu2 := hid hu0
    have hr2 := hid (hr0.unbound hne.out)
    clear hu0 hr0 hc
    go_wp2_with fail
    go_ret
    rw [hp.out]
    exact ⟨rfl, hu2.out, hr2.out⟩

end Go.Proofs.Ytbakfkhmopebnaa

namespace Go.Proofs.Ytbakfkhmopebnaa
open Go.RowKit
set_option linter.unusedVariables false
set_option linter.unusedSimpArgs false

set_option maxRecDepth 100000 in
set_option maxHeartbeats 2000000 in
theorem cidle_int {S : Nat → Prop} {w W : World} {g : Nat} {A : Option Addr} {c : Nat} {r : Rr} {vx : Value} {fr : Nat} (h : RX S w W g A c r 3 vx fr) :
    CallsD Try.prog 96 #[.pointer (some ⟨w.heap.size + 1 + 1, 0, none⟩), .pointer (some ⟨w.heap.size + 1, 0, none⟩), .pointer (some ⟨w.heap.size, 0, none⟩)] .returning W fun e u' W' => e = .returned (.tuple #[]) ∧ u' = .returning ∧ W' = W := by
  refine callsD_of_wpS Try.func96 rfl fun c₀ cs hu => ?_
  apply wpS_seq
  apply wpS_region
  simp [wpOpsS, go_sem, recoverD, hu, Try.ntmps96, Exit.thenS]
  refine wpS_of_wp ?_
  refine Code.wp_mono (Q := fun e a' W' => e = .normal ∧ a'.defers = [] ∧ W' = W) ?_ ?_
  · rintro e a' w' ⟨rfl, h1, rfl⟩
    simp [bodyPostS, Go.results, Try.results96, h1, hu]
    cases c₀
    simp_all
  clear hu
  have hne : ∀ w, (binOp .neq 20 .nilIface .nilIface).run Try.prog w = .ok (.bool false) w := fun w => by kernel_rfl
  have hfm : (#[.pointer (some ⟨w.heap.size + 1 + 1, 0, none⟩), .pointer (some ⟨w.heap.size + 1, 0, none⟩), .pointer (some ⟨w.heap.size, 0, none⟩)] : Array Value) ++ ((Array.replicate 29 undef).setIfInBounds 4 .nilIface).setIfInBounds 0 .nilIface = #[.pointer (some ⟨w.heap.size + 1 + 1, 0, none⟩), .pointer (some ⟨w.heap.size + 1, 0, none⟩), .pointer (some ⟨w.heap.size, 0, none⟩), .nilIface, undef, undef, undef, .nilIface, undef, undef, undef, undef, undef, undef, undef, undef, undef, undef, undef, undef, undef, undef, undef, undef, undef, undef, undef, undef, undef, undef, undef, undef] := by kernel_rfl
  rw [hfm]
  clear hfm
  go_wp2_with fail
set_option maxRecDepth 100000 in
set_option maxHeartbeats 2000000 in
theorem cpanic_int {S : Nat → Prop} {w W : World} {g : Nat} {A : Option Addr} {c : Nat} {r : Rr} {vx : Value} {fr : Nat} (x : Int) (older : List PanicEntry) (hfr : fr ≤ r.b.length) (h : RX S w W g A c r 3 vx fr) :
    CallsD Try.prog 96 #[.pointer (some ⟨w.heap.size + 1 + 1, 0, none⟩), .pointer (some ⟨w.heap.size + 1, 0, none⟩), .pointer (some ⟨w.heap.size, 0, none⟩)] (.panicking ({ v := .iface 125 (.agg #[.int .i64 x]), recovered := false } :: older)) W fun e u' W' =>
      e = .returned (.tuple #[]) ∧ u' = .panicking ({ v := .iface 125 (.agg #[.int .i64 x]), recovered := true } :: older) ∧ RX S w W' g A c { r with at_ := fr, e := x, spot := fr } 3 (.int .i64 0) fr := by
  have hass : ∀ w, (Instr.typeAssert (.iface 125 (.agg #[.int .i64 x])) 20 125 true).run Try.prog w = .ok (.tuple #[.agg #[.int .i64 x], .bool true]) w := fun w => by kernel_rfl
  have hne : ∀ w, (binOp .neq 20 (.iface 125 (.agg #[.int .i64 x])) .nilIface).run Try.prog w = .ok (.bool true) w := fun w => by kernel_rfl
  refine callsD_of_wpS Try.func96 rfl fun c₀ cs hu => ?_
  apply wpS_seq
  apply wpS_region
  simp [wpOpsS, go_sem, recoverD, hu, Try.ntmps96, Exit.thenS]
  refine wpS_of_wp ?_
  refine Code.wp_mono (Q := fun e a' W' => e = .normal ∧ a'.defers = [] ∧ RX S w W' g A c { r with at_ := fr, e := x, spot := fr } 3 (.int .i64 0) fr) ?_ ?_
  · rintro e a' W' ⟨rfl, h1, h2⟩
    simp [bodyPostS, Go.results, Try.results96, h1]
    exact h2
  clear hu
  have kn := Blk.new W 125 #[.int .i64 x]
  have hb1 : Below W.heap.size W (W.alloc (.cells #[.int .i64 x] 125)) := (Below.refl _ _).alloc (Nat.le_refl _) _
  have H1 := hid (h.below hb1)
  have hz := hid h.fr.lt
  have hgz := hid h.gb
  have hF := hid hfr
  clear h hb1 hfr
  have hfm : (#[.pointer (some ⟨w.heap.size + 1 + 1, 0, none⟩), .pointer (some ⟨w.heap.size + 1, 0, none⟩), .pointer (some ⟨w.heap.size, 0, none⟩)] : Array Value) ++ ((Array.replicate 29 undef).setIfInBounds 4 (.iface 125 (.agg #[.int .i64 x]))).setIfInBounds 0 (.iface 125 (.agg #[.int .i64 x])) = #[.pointer (some ⟨w.heap.size + 1 + 1, 0, none⟩), .pointer (some ⟨w.heap.size + 1, 0, none⟩), .pointer (some ⟨w.heap.size, 0, none⟩), (.iface 125 (.agg #[.int .i64 x])), undef, undef, undef, (.iface 125 (.agg #[.int .i64 x])), undef, undef, undef, undef, undef, undef, undef, undef, undef, undef, undef, undef, undef, undef, undef, undef, undef, undef, undef, undef, undef, undef, undef, undef] := by kernel_rfl
  rw [hfm]
  clear hfm
  go_upto_region 6 with fail
  have n0 : (W.alloc (.cells #[.int .i64 x] 125)).cell? ⟨W.heap.size, 0, none⟩ = some (.int .i64 x) := kn.cell 0
  generalize W.alloc (.cells #[.int .i64 x] 125) = W1 at *
  clear kn
  obtain ⟨b0, x0, f0, fx, fg, r1, r2, r3, r4, hgl, hfl⟩ := H1.out.cells
  have e1 : ¬ W.heap.size = w.heap.size + 1 := by have := hz.out; omega
  have e2 : ¬ W.heap.size = g := by have := hz.out; have := hgz.out; omega
  have e3 : ¬ w.heap.size + 1 = W.heap.size := fun h => e1 h.symm
  have e4 : ¬ g = W.heap.size := fun h => e2 h.symm
  have e5 : ¬ w.heap.size + 1 = g := by have := hgz.out; omega
  have e6 : ¬ g = w.heap.size + 1 := fun h => e5 h.symm
  have e7 : ¬ w.heap.size = g := by have := hgz.out; omega
  have e8 : ¬ g = w.heap.size := fun h => e7 h.symm
  have e9 : ¬ w.heap.size + 1 + 1 = g := by have := hgz.out; omega
  have e10 : ¬ g = w.heap.size + 1 + 1 := fun h => e9 h.symm
  go_region
  all_goals
    refine ⟨rfl, rfl, ?_⟩
    refine RX.drew ?_
    exact ((((H1.out.setX _).setR (r' := { r with at_ := fr }) 1 (.int .i64 (fr : Nat)) rfl rfl hF.out).setR (r' := { r with at_ := fr, e := x }) 3 (.int .i64 x) rfl rfl hF.out).setR (r' := { r with at_ := fr, e := x, spot := fr }) 4 (.int .i64 (fr : Nat)) rfl rfl hF.out)
set_option maxRecDepth 100000 in
set_option maxHeartbeats 1000000 in
theorem cread_int_err {S : Nat → Prop} {w : World} {g : Nat} {A : Option Addr} {c : Nat} {r : Rr} {p q : Nat} (h : CrIn S w g A c r) (hS : ∀ k, S k → k < w.heap.size) (he : r.e ≠ 0) : Calls Try.prog 73 #[.pointer (some ⟨g, 0, none⟩), .func (Fn.func 74) #[] #[.pointer (some ⟨p, 0, none⟩), .pointer (some ⟨q, 0, none⟩)]] w fun e w' => e = .returned (.int .i64 0) ∧ Upd (fun k => k = g) w w' ∧ CrIn S w' g A c r := by
  have hmf : ∀ (fn : Fn) (first cap : Array Value) (w : World), (Instr.makeFunc fn first cap).run Try.prog w = .ok (.func fn first cap) w := fun _ _ _ _ => rfl
  obtain ⟨W, hW⟩ : ∃ W, W = ((w.alloc (.cells #[.pointer (some ⟨g, 0, none⟩)] 70)).alloc (.cells #[.int .i64 0] 3)) := ⟨_, rfl⟩
  have hB0 : Hid (Below w.heap.size w W) := hid (by subst hW; exact ((Below.refl _ _).alloc (Nat.le_refl _) _).alloc (by simp) _)
  have kb : Hid (Blk W w.heap.size 70 #[.pointer (some ⟨g, 0, none⟩)]) := hid (by subst hW; exact (Blk.new w _ _).alloc _)
  have kx : Hid (Blk W (w.heap.size + 1) 3 #[.int .i64 0]) := hid (by subst hW; exact Blk.new' _ _ _ (by simp))
  have hsz : W.heap.size = w.heap.size + 1 + 1 := by subst hW; simp
  have hr0 := hid (h.below_all hB0.out)
  have hgb := hid h.blk.lt
  have hSb := hid hS
  have hne := hid h.ne
  have t1 : (r.e != 0) = true := by simpa using he
  clear h hS he
  go_enter_defers Try.func73, Try.ntmps73
  go_upto_region 1 with fail
  rw [← hW]
  clear hW
  have b0 : W.cell? ⟨w.heap.size, 0, none⟩ = some (.pointer (some ⟨g, 0, none⟩)) := kb.out.cell 0
  have x0 : W.cell? ⟨w.heap.size + 1, 0, none⟩ = some (.int .i64 0) := kx.out.cell 0
  have fx := fun q => kx.out.frozen q
  have r1 : W.cell? ⟨g, 1, none⟩ = some (.int .i64 (r.at_ : Nat)) := hr0.out.blk.cell 1
  have r3 : W.cell? ⟨g, 3, none⟩ = some (.int .i64 r.e) := hr0.out.blk.cell 3
  go_wp2_with fail
  have U : Upd (fun k => k = w.heap.size + 1) W (W.setCell ⟨w.heap.size + 1, 0, none⟩ (.int .i64 0)) := (Upd.refl (fun k => k = w.heap.size + 1) W).setCell (p := ⟨w.heap.size + 1, 0, none⟩) (fun _ => rfl) _
  refine ⟨.int .i64 0, ?_, rfl, (Upd.of_below' hB0.out _).trans U fun b hb e => by omega, hr0.out.upd U (by have := hgb.out; omega) fun b hb => by have := hSb.out b hb; omega⟩
  have HX : (W.setCell ⟨w.heap.size + 1, 0, none⟩ (.int .i64 0)).cell? ⟨w.heap.size + 1, 0, none⟩ = some (.int .i64 0) := (kx.out.set_ 0 (.int .i64 0)).cell 0
  simp [Go.results, Try.results73, asAddr, go_sem, HX]
set_option maxRecDepth 100000 in
set_option maxHeartbeats 1000000 in
theorem cread_int_bad {S : Nat → Prop} {w : World} {g : Nat} {A : Option Addr} {c : Nat} {r : Rr} {p q : Nat} (h : CrIn S w g A c r) (hS : ∀ k, S k → k < w.heap.size) (he : r.e = 0) (res : (Value × Nat) ⊕ Int) (hT : ∀ W, Below w.heap.size w W → CrIn S W g A c r → Calls Try.prog 74 #[.pointer (some ⟨p, 0, none⟩), .pointer (some ⟨q, 0, none⟩)] W (CPost S W g A c r res)) (x : Int) (hres : res = .inr x) : Calls Try.prog 73 #[.pointer (some ⟨g, 0, none⟩), .func (Fn.func 74) #[] #[.pointer (some ⟨p, 0, none⟩), .pointer (some ⟨q, 0, none⟩)]] w fun e w' => e = .returned (.int .i64 0) ∧ Upd (fun k => k = g) w w' ∧ CrIn S w' g A c (r.fails x) := by
  have hmf : ∀ (fn : Fn) (first cap : Array Value) (w : World), (Instr.makeFunc fn first cap).run Try.prog w = .ok (.func fn first cap) w := fun _ _ _ _ => rfl
  obtain ⟨W, hW⟩ : ∃ W, W = ((w.alloc (.cells #[.pointer (some ⟨g, 0, none⟩)] 70)).alloc (.cells #[.int .i64 0] 3)) := ⟨_, rfl⟩
  have hB0 : Hid (Below w.heap.size w W) := hid (by subst hW; exact ((Below.refl _ _).alloc (Nat.le_refl _) _).alloc (by simp) _)
  have kb : Hid (Blk W w.heap.size 70 #[.pointer (some ⟨g, 0, none⟩)]) := hid (by subst hW; exact (Blk.new w _ _).alloc _)
  have kx : Hid (Blk W (w.heap.size + 1) 3 #[.int .i64 0]) := hid (by subst hW; exact Blk.new' _ _ _ (by simp))
  have hsz : W.heap.size = w.heap.size + 1 + 1 := by subst hW; simp
  have hr0 := hid (h.below_all hB0.out)
  have hgb := hid h.blk.lt
  have hSb := hid hS
  have hne := hid h.ne
  have t1 : (r.e != 0) = false := by simpa using he
  have hal := hid h.at_le
  obtain ⟨W4, hW4⟩ : ∃ W4, W4 = (W.alloc (.cells #[.int .i64 (r.at_ : Nat)] 3)) := ⟨_, rfl⟩
  have hB4 : Below W.heap.size W W4 := by subst hW4; exact (Below.refl _ _).alloc (Nat.le_refl _) _
  have kf : Blk W4 (w.heap.size + 1 + 1) 3 #[.int .i64 (r.at_ : Nat)] := by subst hW4; exact Blk.new' W 3 _ hsz.symm
  have hX4 : Hid (RX S w W4 g A c r 3 (.int .i64 0) r.at_) := hid ⟨hr0.out.below_all hB4, hS, hgb.out, kb.out.below_all hB4, kx.out.below_all hB4, kf, Upd.of_below' (hB0.out.trans (hB4.mono hB0.out.size)) _⟩
  have hT4 := hid (hT W4 (hB0.out.trans (hB4.mono hB0.out.size)) hX4.out.rd)
  clear h hS he hB4 kf hT
  go_enter_defers Try.func73, Try.ntmps73
  go_upto_region 1 with fail
  rw [← hW]
  clear hW
  have hre : Hid (r.e = r.e) := hid rfl
  have b0 : W.cell? ⟨w.heap.size, 0, none⟩ = some (.pointer (some ⟨g, 0, none⟩)) := kb.out.cell 0
  have x0 : W.cell? ⟨w.heap.size + 1, 0, none⟩ = some (.int .i64 0) := kx.out.cell 0
  have fx := fun q => kx.out.frozen q
  have r1 : W.cell? ⟨g, 1, none⟩ = some (.int .i64 (r.at_ : Nat)) := hr0.out.blk.cell 1
  have r3 : W.cell? ⟨g, 3, none⟩ = some (.int .i64 r.e) := hr0.out.blk.cell 3
  go_upto_region 4 with fail
  rw [← hW4]
  clear hW4 b0 x0 fx r1 r3 hr0 kb kx hB0
  go_wp2_with fail
  refine (cp_bad hres hT4.out).mono ?_
  rintro e w5 ⟨rfl, hu0, a, hr5⟩
  have hX5 := hid (hX4.out.call hu0 hr5)
  clear hu0 hr5 hX4 hT4 hres
  go_wp2_with fail
  refine leaves_cons (f := 96) (args := #[.pointer (some ⟨w.heap.size + 1 + 1, 0, none⟩), .pointer (some ⟨w.heap.size + 1, 0, none⟩), .pointer (some ⟨w.heap.size, 0, none⟩)]) (by simp) (by simp [go_sem]) ?_
  refine (cpanic_int (r := r.to a) x [] hal.out hX5.out).mono ?_
  rintro e u' w'' ⟨rfl, rfl, hX6⟩
  refine ⟨.int .i64 0, ?_, rfl, hX6.up, hX6.rd⟩
  have HX : w''.cell? ⟨w.heap.size + 1, 0, none⟩ = some (.int .i64 0) := hX6.x.cell 0
  simp [Go.results, Try.results73, asAddr, go_sem, HX]
set_option maxRecDepth 100000 in
set_option maxHeartbeats 1000000 in
theorem cread_int_ok {S : Nat → Prop} {w : World} {g : Nat} {A : Option Addr} {c : Nat} {r : Rr} {p q : Nat} (h : CrIn S w g A c r) (hS : ∀ k, S k → k < w.heap.size) (he : r.e = 0) (res : (Value × Nat) ⊕ Int) (hT : ∀ W, Below w.heap.size w W → CrIn S W g A c r → Calls Try.prog 74 #[.pointer (some ⟨p, 0, none⟩), .pointer (some ⟨q, 0, none⟩)] W (CPost S W g A c r res)) (n : Int) (a : Nat) (hres : res = .inl (.int .i64 n, a)) : Calls Try.prog 73 #[.pointer (some ⟨g, 0, none⟩), .func (Fn.func 74) #[] #[.pointer (some ⟨p, 0, none⟩), .pointer (some ⟨q, 0, none⟩)]] w fun e w' => e = .returned (.int .i64 n) ∧ Upd (fun k => k = g) w w' ∧ CrIn S w' g A c { r with at_ := a, last := r.at_ } := by
  have hmf : ∀ (fn : Fn) (first cap : Array Value) (w : World), (Instr.makeFunc fn first cap).run Try.prog w = .ok (.func fn first cap) w := fun _ _ _ _ => rfl
  obtain ⟨W, hW⟩ : ∃ W, W = ((w.alloc (.cells #[.pointer (some ⟨g, 0, none⟩)] 70)).alloc (.cells #[.int .i64 0] 3)) := ⟨_, rfl⟩
  have hB0 : Hid (Below w.heap.size w W) := hid (by subst hW; exact ((Below.refl _ _).alloc (Nat.le_refl _) _).alloc (by simp) _)
  have kb : Hid (Blk W w.heap.size 70 #[.pointer (some ⟨g, 0, none⟩)]) := hid (by subst hW; exact (Blk.new w _ _).alloc _)
  have kx : Hid (Blk W (w.heap.size + 1) 3 #[.int .i64 0]) := hid (by subst hW; exact Blk.new' _ _ _ (by simp))
  have hsz : W.heap.size = w.heap.size + 1 + 1 := by subst hW; simp
  have hr0 := hid (h.below_all hB0.out)
  have hgb := hid h.blk.lt
  have hSb := hid hS
  have hne := hid h.ne
  have t1 : (r.e != 0) = false := by simpa using he
  have hal := hid h.at_le
  obtain ⟨W4, hW4⟩ : ∃ W4, W4 = (W.alloc (.cells #[.int .i64 (r.at_ : Nat)] 3)) := ⟨_, rfl⟩
  have hB4 : Below W.heap.size W W4 := by subst hW4; exact (Below.refl _ _).alloc (Nat.le_refl _) _
  have kf : Blk W4 (w.heap.size + 1 + 1) 3 #[.int .i64 (r.at_ : Nat)] := by subst hW4; exact Blk.new' W 3 _ hsz.symm
  have hX4 : Hid (RX S w W4 g A c r 3 (.int .i64 0) r.at_) := hid ⟨hr0.out.below_all hB4, hS, hgb.out, kb.out.below_all hB4, kx.out.below_all hB4, kf, Upd.of_below' (hB0.out.trans (hB4.mono hB0.out.size)) _⟩
  have hT4 := hid (hT W4 (hB0.out.trans (hB4.mono hB0.out.size)) hX4.out.rd)
  clear h hS he hB4 kf hT
  go_enter_defers Try.func73, Try.ntmps73
  go_upto_region 1 with fail
  rw [← hW]
  clear hW
  have hre : Hid (r.e = r.e) := hid rfl
  have b0 : W.cell? ⟨w.heap.size, 0, none⟩ = some (.pointer (some ⟨g, 0, none⟩)) := kb.out.cell 0
  have x0 : W.cell? ⟨w.heap.size + 1, 0, none⟩ = some (.int .i64 0) := kx.out.cell 0
  have fx := fun q => kx.out.frozen q
  have r1 : W.cell? ⟨g, 1, none⟩ = some (.int .i64 (r.at_ : Nat)) := hr0.out.blk.cell 1
  have r3 : W.cell? ⟨g, 3, none⟩ = some (.int .i64 r.e) := hr0.out.blk.cell 3
  go_upto_region 4 with fail
  rw [← hW4]
  clear hW4 b0 x0 fx r1 r3 hr0 kb kx hB0
  go_wp2_with fail
  refine (cp_ok hres hT4.out).mono ?_
  rintro e w5 ⟨rfl, hu0, hr5⟩
  have hX5 := hid (hX4.out.call hu0 hr5)
  clear hu0 hr5 hX4 hT4 hres
  obtain ⟨b0, x0, f0, fx, fg, r1, r2, r3, r4, hgl, hfl⟩ := hX5.out.cells
  go_upto_region 6 with fail
  have hX6 := hid (hX5.out.setX (.int .i64 n))
  generalize w5.setCell ⟨w.heap.size + 1, 0, none⟩ (.int .i64 n) = w6 at *
  clear b0 x0 f0 fx fg r1 r2 r3 r4 hgl hfl hX5
  obtain ⟨b0, x0, f0, fx, fg, r1, r2, r3, r4, hgl, hfl⟩ := hX6.out.cells
  go_upto_region 7 with fail
  have hX7 := hid (hX6.out.setR (r' := { r with at_ := a, last := r.at_ }) 2 (.int .i64 (r.at_ : Nat)) rfl rfl hX6.out.rd.at_le)
  generalize w6.setCell ⟨g, 2, none⟩ (.int .i64 (r.at_ : Nat)) = w7 at *
  clear b0 x0 f0 fx fg r1 r2 r3 r4 hgl hfl hX6
  obtain ⟨b0, x0, f0, fx, fg, r1, r2, r3, r4, hgl, hfl⟩ := hX7.out.cells
  go_wp2_with fail
  have hX8 := hX7.out.setX (.int .i64 n)
  refine leaves_cons (f := 96) (args := #[.pointer (some ⟨w.heap.size + 1 + 1, 0, none⟩), .pointer (some ⟨w.heap.size + 1, 0, none⟩), .pointer (some ⟨w.heap.size, 0, none⟩)]) (by simp) (by simp [go_sem]) ?_
  refine (cidle_int hX8).mono ?_
  rintro e u' w'' ⟨rfl, rfl, rfl⟩
  refine ⟨.int .i64 n, ?_, rfl, hX8.up, hX8.rd⟩
  have HX := hX8.x.cell 0
  have HX : (w7.setCell ⟨w.heap.size + 1, 0, none⟩ (.int .i64 n)).cell? ⟨w.heap.size + 1, 0, none⟩ = some (.int .i64 n) := hX8.x.cell 0
  simp [Go.results, Try.results73, asAddr, go_sem, HX]

end Go.Proofs.Ytbakfkhmopebnaa

namespace Go.Proofs.Ytbakfkhmopebnaa
open Go.RowKit
set_option linter.unusedVariables false
set_option linter.unusedSimpArgs false

set_option maxRecDepth 100000 in
set_option maxHeartbeats 2000000 in
theorem cidle_string {S : Nat → Prop} {w W : World} {g : Nat} {A : Option Addr} {c : Nat} {r : Rr} {vx : Value} {fr : Nat} (h : RX S w W g A c r 9 vx fr) :
    CallsD Try.prog 104 #[.pointer (some ⟨w.heap.size + 1 + 1, 0, none⟩), .pointer (some ⟨w.heap.size + 1, 0, none⟩), .pointer (some ⟨w.heap.size, 0, none⟩)] .returning W fun e u' W' => e = .returned (.tuple #[]) ∧ u' = .returning ∧ W' = W := by
  refine callsD_of_wpS Try.func104 rfl fun c₀ cs hu => ?_
  apply wpS_seq
  apply wpS_region
  simp [wpOpsS, go_sem, recoverD, hu, Try.ntmps104, Exit.thenS]
  refine wpS_of_wp ?_
  refine Code.wp_mono (Q := fun e a' W' => e = .normal ∧ a'.defers = [] ∧ W' = W) ?_ ?_
  · rintro e a' w' ⟨rfl, h1, rfl⟩
    simp [bodyPostS, Go.results, Try.results104, h1, hu]
    cases c₀
    simp_all
  clear hu
  have hne : ∀ w, (binOp .neq 20 .nilIface .nilIface).run Try.prog w = .ok (.bool false) w := fun w => by kernel_rfl
  have hfm : (#[.pointer (some ⟨w.heap.size + 1 + 1, 0, none⟩), .pointer (some ⟨w.heap.size + 1, 0, none⟩), .pointer (some ⟨w.heap.size, 0, none⟩)] : Array Value) ++ ((Array.replicate 29 undef).setIfInBounds 4 .nilIface).setIfInBounds 0 .nilIface = #[.pointer (some ⟨w.heap.size + 1 + 1, 0, none⟩), .pointer (some ⟨w.heap.size + 1, 0, none⟩), .pointer (some ⟨w.heap.size, 0, none⟩), .nilIface, undef, undef, undef, .nilIface, undef, undef, undef, undef, undef, undef, undef, undef, undef, undef, undef, undef, undef, undef, undef, undef, undef, undef, undef, undef, undef, undef, undef, undef] := by kernel_rfl
  rw [hfm]
  clear hfm
  go_wp2_with fail
set_option maxRecDepth 100000 in
set_option maxHeartbeats 2000000 in
theorem cpanic_string {S : Nat → Prop} {w W : World} {g : Nat} {A : Option Addr} {c : Nat} {r : Rr} {vx : Value} {fr : Nat} (x : Int) (older : List PanicEntry) (hfr : fr ≤ r.b.length) (h : RX S w W g A c r 9 vx fr) :
    CallsD Try.prog 104 #[.pointer (some ⟨w.heap.size + 1 + 1, 0, none⟩), .pointer (some ⟨w.heap.size + 1, 0, none⟩), .pointer (some ⟨w.heap.size, 0, none⟩)] (.panicking ({ v := .iface 125 (.agg #[.int .i64 x]), recovered := false } :: older)) W fun e u' W' =>
      e = .returned (.tuple #[]) ∧ u' = .panicking ({ v := .iface 125 (.agg #[.int .i64 x]), recovered := true } :: older) ∧ RX S w W' g A c { r with at_ := fr, e := x, spot := fr } 9 (.string ⟨#[]⟩) fr := by
  have hass : ∀ w, (Instr.typeAssert (.iface 125 (.agg #[.int .i64 x])) 20 125 true).run Try.prog w = .ok (.tuple #[.agg #[.int .i64 x], .bool true]) w := fun w => by kernel_rfl
  have hne : ∀ w, (binOp .neq 20 (.iface 125 (.agg #[.int .i64 x])) .nilIface).run Try.prog w = .ok (.bool true) w := fun w => by kernel_rfl
  refine callsD_of_wpS Try.func104 rfl fun c₀ cs hu => ?_
  apply wpS_seq
  apply wpS_region
  simp [wpOpsS, go_sem, recoverD, hu, Try.ntmps104, Exit.thenS]
  refine wpS_of_wp ?_
  refine Code.wp_mono (Q := fun e a' W' => e = .normal ∧ a'.defers = [] ∧ RX S w W' g A c { r with at_ := fr, e := x, spot := fr } 9 (.string ⟨#[]⟩) fr) ?_ ?_
  · rintro e a' W' ⟨rfl, h1, h2⟩
    simp [bodyPostS, Go.results, Try.results104, h1]
    exact h2
  clear hu
  have kn := Blk.new W 125 #[.int .i64 x]
  have hb1 : Below W.heap.size W (W.alloc (.cells #[.int .i64 x] 125)) := (Below.refl _ _).alloc (Nat.le_refl _) _
  have H1 := hid (h.below hb1)
  have hz := hid h.fr.lt
  have hgz := hid h.gb
  have hF := hid hfr
  clear h hb1 hfr
  have hfm : (#[.pointer (some ⟨w.heap.size + 1 + 1, 0, none⟩), .pointer (some ⟨w.heap.size + 1, 0, none⟩), .pointer (some ⟨w.heap.size, 0, none⟩)] : Array Value) ++ ((Array.replicate 29 undef).setIfInBounds 4 (.iface 125 (.agg #[.int .i64 x]))).setIfInBounds 0 (.iface 125 (.agg #[.int .i64 x])) = #[.pointer (some ⟨w.heap.size + 1 + 1, 0, none⟩), .pointer (some ⟨w.heap.size + 1, 0, none⟩), .pointer (some ⟨w.heap.size, 0, none⟩), (.iface 125 (.agg #[.int .i64 x])), undef, undef, undef, (.iface 125 (.agg #[.int .i64 x])), undef, undef, undef, undef, undef, undef, undef, undef, undef, undef, undef, undef, undef, undef, undef, undef, undef, undef, undef, undef, undef, undef, undef, undef] := by kernel_rfl
  rw [hfm]
  clear hfm
  go_upto_region 6 with fail
  have n0 : (W.alloc (.cells #[.int .i64 x] 125)).cell? ⟨W.heap.size, 0, none⟩ = some (.int .i64 x) := kn.cell 0
  generalize W.alloc (.cells #[.int .i64 x] 125) = W1 at *
  clear kn
  obtain ⟨b0, x0, f0, fx, fg, r1, r2, r3, r4, hgl, hfl⟩ := H1.out.cells
  have e1 : ¬ W.heap.size = w.heap.size + 1 := by have := hz.out; omega
  have e2 : ¬ W.heap.size = g := by have := hz.out; have := hgz.out; omega
  have e3 : ¬ w.heap.size + 1 = W.heap.size := fun h => e1 h.symm
  have e4 : ¬ g = W.heap.size := fun h => e2 h.symm
  have e5 : ¬ w.heap.size + 1 = g := by have := hgz.out; omega
  have e6 : ¬ g = w.heap.size + 1 := fun h => e5 h.symm
  have e7 : ¬ w.heap.size = g := by have := hgz.out; omega
  have e8 : ¬ g = w.heap.size := fun h => e7 h.symm
  have e9 : ¬ w.heap.size + 1 + 1 = g := by have := hgz.out; omega
  have e10 : ¬ g = w.heap.size + 1 + 1 := fun h => e9 h.symm
  go_region
  all_goals
    refine ⟨rfl, rfl, ?_⟩
    refine RX.drew ?_
    exact ((((H1.out.setX _).setR (r' := { r with at_ := fr }) 1 (.int .i64 (fr : Nat)) rfl rfl hF.out).setR (r' := { r with at_ := fr, e := x }) 3 (.int .i64 x) rfl rfl hF.out).setR (r' := { r with at_ := fr, e := x, spot := fr }) 4 (.int .i64 (fr : Nat)) rfl rfl hF.out)
set_option maxRecDepth 100000 in
set_option maxHeartbeats 1000000 in
theorem cread_string_err {S : Nat → Prop} {w : World} {g : Nat} {A : Option Addr} {c : Nat} {r : Rr} {p q : Nat} (h : CrIn S w g A c r) (hS : ∀ k, S k → k < w.heap.size) (he : r.e ≠ 0) : Calls Try.prog 99 #[.pointer (some ⟨g, 0, none⟩), .func (Fn.func 100) #[] #[.pointer (some ⟨p, 0, none⟩), .pointer (some ⟨q, 0, none⟩)]] w fun e w' => e = .returned (.string ⟨#[]⟩) ∧ Upd (fun k => k = g) w w' ∧ CrIn S w' g A c r := by
  have hmf : ∀ (fn : Fn) (first cap : Array Value) (w : World), (Instr.makeFunc fn first cap).run Try.prog w = .ok (.func fn first cap) w := fun _ _ _ _ => rfl
  obtain ⟨W, hW⟩ : ∃ W, W = ((w.alloc (.cells #[.pointer (some ⟨g, 0, none⟩)] 70)).alloc (.cells #[.string ⟨#[]⟩] 9)) := ⟨_, rfl⟩
  have hB0 : Hid (Below w.heap.size w W) := hid (by subst hW; exact ((Below.refl _ _).alloc (Nat.le_refl _) _).alloc (by simp) _)
  have kb : Hid (Blk W w.heap.size 70 #[.pointer (some ⟨g, 0, none⟩)]) := hid (by subst hW; exact (Blk.new w _ _).alloc _)
  have kx : Hid (Blk W (w.heap.size + 1) 9 #[.string ⟨#[]⟩]) := hid (by subst hW; exact Blk.new' _ _ _ (by simp))
  have hsz : W.heap.size = w.heap.size + 1 + 1 := by subst hW; simp
  have hr0 := hid (h.below_all hB0.out)
  have hgb := hid h.blk.lt
  have hSb := hid hS
  have hne := hid h.ne
  have t1 : (r.e != 0) = true := by simpa using he
  clear h hS he
  go_enter_defers Try.func99, Try.ntmps99
  go_upto_region 1 with fail
  rw [← hW]
  clear hW
  have b0 : W.cell? ⟨w.heap.size, 0, none⟩ = some (.pointer (some ⟨g, 0, none⟩)) := kb.out.cell 0
  have x0 : W.cell? ⟨w.heap.size + 1, 0, none⟩ = some (.string ⟨#[]⟩) := kx.out.cell 0
  have fx := fun q => kx.out.frozen q
  have r1 : W.cell? ⟨g, 1, none⟩ = some (.int .i64 (r.at_ : Nat)) := hr0.out.blk.cell 1
  have r3 : W.cell? ⟨g, 3, none⟩ = some (.int .i64 r.e) := hr0.out.blk.cell 3
  go_wp2_with fail
  have U : Upd (fun k => k = w.heap.size + 1) W (W.setCell ⟨w.heap.size + 1, 0, none⟩ (.string ⟨#[]⟩)) := (Upd.refl (fun k => k = w.heap.size + 1) W).setCell (p := ⟨w.heap.size + 1, 0, none⟩) (fun _ => rfl) _
  refine ⟨.string ⟨#[]⟩, ?_, rfl, (Upd.of_below' hB0.out _).trans U fun b hb e => by omega, hr0.out.upd U (by have := hgb.out; omega) fun b hb => by have := hSb.out b hb; omega⟩
  have HX : (W.setCell ⟨w.heap.size + 1, 0, none⟩ (.string ⟨#[]⟩)).cell? ⟨w.heap.size + 1, 0, none⟩ = some (.string ⟨#[]⟩) := (kx.out.set_ 0 (.string ⟨#[]⟩)).cell 0
  simp [Go.results, Try.results99, asAddr, go_sem, HX]
set_option maxRecDepth 100000 in
set_option maxHeartbeats 1000000 in
theorem cread_string_bad {S : Nat → Prop} {w : World} {g : Nat} {A : Option Addr} {c : Nat} {r : Rr} {p q : Nat} (h : CrIn S w g A c r) (hS : ∀ k, S k → k < w.heap.size) (he : r.e = 0) (res : (Value × Nat) ⊕ Int) (hT : ∀ W, Below w.heap.size w W → CrIn S W g A c r → Calls Try.prog 100 #[.pointer (some ⟨p, 0, none⟩), .pointer (some ⟨q, 0, none⟩)] W (CPost S W g A c r res)) (x : Int) (hres : res = .inr x) : Calls Try.prog 99 #[.pointer (some ⟨g, 0, none⟩), .func (Fn.func 100) #[] #[.pointer (some ⟨p, 0, none⟩), .pointer (some ⟨q, 0, none⟩)]] w fun e w' => e = .returned (.string ⟨#[]⟩) ∧ Upd (fun k => k = g) w w' ∧ CrIn S w' g A c (r.fails x) := by
  have hmf : ∀ (fn : Fn) (first cap : Array Value) (w : World), (Instr.makeFunc fn first cap).run Try.prog w = .ok (.func fn first cap) w := fun _ _ _ _ => rfl
  obtain ⟨W, hW⟩ : ∃ W, W = ((w.alloc (.cells #[.pointer (some ⟨g, 0, none⟩)] 70)).alloc (.cells #[.string ⟨#[]⟩] 9)) := ⟨_, rfl⟩
  have hB0 : Hid (Below w.heap.size w W) := hid (by subst hW; exact ((Below.refl _ _).alloc (Nat.le_refl _) _).alloc (by simp) _)
  have kb : Hid (Blk W w.heap.size 70 #[.pointer (some ⟨g, 0, none⟩)]) := hid (by subst hW; exact (Blk.new w _ _).alloc _)
  have kx : Hid (Blk W (w.heap.size + 1) 9 #[.string ⟨#[]⟩]) := hid (by subst hW; exact Blk.new' _ _ _ (by simp))
  have hsz : W.heap.size = w.heap.size + 1 + 1 := by subst hW; simp
  have hr0 := hid (h.below_all hB0.out)
  have hgb := hid h.blk.lt
  have hSb := hid hS
  have hne := hid h.ne
  have t1 : (r.e != 0) = false := by simpa using he
  have hal := hid h.at_le
  obtain ⟨W4, hW4⟩ : ∃ W4, W4 = (W.alloc (.cells #[.int .i64 (r.at_ : Nat)] 3)) := ⟨_, rfl⟩
  have hB4 : Below W.heap.size W W4 := by subst hW4; exact (Below.refl _ _).alloc (Nat.le_refl _) _
  have kf : Blk W4 (w.heap.size + 1 + 1) 3 #[.int .i64 (r.at_ : Nat)] := by subst hW4; exact Blk.new' W 3 _ hsz.symm
  have hX4 : Hid (RX S w W4 g A c r 9 (.string ⟨#[]⟩) r.at_) := hid ⟨hr0.out.below_all hB4, hS, hgb.out, kb.out.below_all hB4, kx.out.below_all hB4, kf, Upd.of_below' (hB0.out.trans (hB4.mono hB0.out.size)) _⟩
  have hT4 := hid (hT W4 (hB0.out.trans (hB4.mono hB0.out.size)) hX4.out.rd)
  clear h hS he hB4 kf hT
  go_enter_defers Try.func99, Try.ntmps99
  go_upto_region 1 with fail
  rw [← hW]
  clear hW
  have hre : Hid (r.e = r.e) := hid rfl
  have b0 : W.cell? ⟨w.heap.size, 0, none⟩ = some (.pointer (some ⟨g, 0, none⟩)) := kb.out.cell 0
  have x0 : W.cell? ⟨w.heap.size + 1, 0, none⟩ = some (.string ⟨#[]⟩) := kx.out.cell 0
  have fx := fun q => kx.out.frozen q
  have r1 : W.cell? ⟨g, 1, none⟩ = some (.int .i64 (r.at_ : Nat)) := hr0.out.blk.cell 1
  have r3 : W.cell? ⟨g, 3, none⟩ = some (.int .i64 r.e) := hr0.out.blk.cell 3
  go_upto_region 4 with fail
  rw [← hW4]
  clear hW4 b0 x0 fx r1 r3 hr0 kb kx hB0
  go_wp2_with fail
  refine (cp_bad hres hT4.out).mono ?_
  rintro e w5 ⟨rfl, hu0, a, hr5⟩
  have hX5 := hid (hX4.out.call hu0 hr5)
  clear hu0 hr5 hX4 hT4 hres
  go_wp2_with fail
  refine leaves_cons (f := 104) (args := #[.pointer (some ⟨w.heap.size + 1 + 1, 0, none⟩), .pointer (some ⟨w.heap.size + 1, 0, none⟩), .pointer (some ⟨w.heap.size, 0, none⟩)]) (by simp) (by simp [go_sem]) ?_
  refine (cpanic_string (r := r.to a) x [] hal.out hX5.out).mono ?_
  rintro e u' w'' ⟨rfl, rfl, hX6⟩
  refine ⟨.string ⟨#[]⟩, ?_, rfl, hX6.up, hX6.rd⟩
  have HX : w''.cell? ⟨w.heap.size + 1, 0, none⟩ = some (.string ⟨#[]⟩) := hX6.x.cell 0
  simp [Go.results, Try.results99, asAddr, go_sem, HX]
set_option maxRecDepth 100000 in
set_option maxHeartbeats 1000000 in
theorem cread_string_ok {S : Nat → Prop} {w : World} {g : Nat} {A : Option Addr} {c : Nat} {r : Rr} {p q : Nat} (h : CrIn S w g A c r) (hS : ∀ k, S k → k < w.heap.size) (he : r.e = 0) (res : (Value × Nat) ⊕ Int) (hT : ∀ W, Below w.heap.size w W → CrIn S W g A c r → Calls Try.prog 100 #[.pointer (some ⟨p, 0, none⟩), .pointer (some ⟨q, 0, none⟩)] W (CPost S W g A c r res)) (n : ByteArray) (a : Nat) (hres : res = .inl (.string n, a)) : Calls Try.prog 99 #[.pointer (some ⟨g, 0, none⟩), .func (Fn.func 100) #[] #[.pointer (some ⟨p, 0, none⟩), .pointer (some ⟨q, 0, none⟩)]] w fun e w' => e = .returned (.string n) ∧ Upd (fun k => k = g) w w' ∧ CrIn S w' g A c { r with at_ := a, last := r.at_ } := by
  have hmf : ∀ (fn : Fn) (first cap : Array Value) (w : World), (Instr.makeFunc fn first cap).run Try.prog w = .ok (.func fn first cap) w := fun _ _ _ _ => rfl
  obtain ⟨W, hW⟩ : ∃ W, W = ((w.alloc (.cells #[.pointer (some ⟨g, 0, none⟩)] 70)).alloc (.cells #[.string ⟨#[]⟩] 9)) := ⟨_, rfl⟩
  have hB0 : Hid (Below w.heap.size w W) := hid (by subst hW; exact ((Below.refl _ _).alloc (Nat.le_refl _) _).alloc (by simp) _)
  have kb : Hid (Blk W w.heap.size 70 #[.pointer (some ⟨g, 0, none⟩)]) := hid (by subst hW; exact (Blk.new w _ _).alloc _)
  have kx : Hid (Blk W (w.heap.size + 1) 9 #[.string ⟨#[]⟩]) := hid (by subst hW; exact Blk.new' _ _ _ (by simp))
  have hsz : W.heap.size = w.heap.size + 1 + 1 := by subst hW; simp
  have hr0 := hid (h.below_all hB0.out)
  have hgb := hid h.blk.lt
  have hSb := hid hS
  have hne := hid h.ne
  have t1 : (r.e != 0) = false := by simpa using he
  have hal := hid h.at_le
  obtain ⟨W4, hW4⟩ : ∃ W4, W4 = (W.alloc (.cells #[.int .i64 (r.at_ : Nat)] 3)) := ⟨_, rfl⟩
  have hB4 : Below W.heap.size W W4 := by subst hW4; exact (Below.refl _ _).alloc (Nat.le_refl _) _
  have kf : Blk W4 (w.heap.size + 1 + 1) 3 #[.int .i64 (r.at_ : Nat)] := by subst hW4; exact Blk.new' W 3 _ hsz.symm
  have hX4 : Hid (RX S w W4 g A c r 9 (.string ⟨#[]⟩) r.at_) := hid ⟨hr0.out.below_all hB4, hS, hgb.out, kb.out.below_all hB4, kx.out.below_all hB4, kf, Upd.of_below' (hB0.out.trans (hB4.mono hB0.out.size)) _⟩
  have hT4 := hid (hT W4 (hB0.out.trans (hB4.mono hB0.out.size)) hX4.out.rd)
  clear h hS he hB4 kf hT
  go_enter_defers Try.func99, Try.ntmps99
  go_upto_region 1 with fail
  rw [← hW]
  clear hW
  have hre : Hid (r.e = r.e) := hid rfl
  have b0 : W.cell? ⟨w.heap.size, 0, none⟩ = some (.pointer (some ⟨g, 0, none⟩)) := kb.out.cell 0
  have x0 : W.cell? ⟨w.heap.size + 1, 0, none⟩ = some (.string ⟨#[]⟩) := kx.out.cell 0
  have fx := fun q => kx.out.frozen q
  have r1 : W.cell? ⟨g, 1, none⟩ = some (.int .i64 (r.at_ : Nat)) := hr0.out.blk.cell 1
  have r3 : W.cell? ⟨g, 3, none⟩ = some (.int .i64 r.e) := hr0.out.blk.cell 3
  go_upto_region 4 with fail
  rw [← hW4]
  clear hW4 b0 x0 fx r1 r3 hr0 kb kx hB0
  go_wp2_with fail
  refine (cp_ok hres hT4.out).mono ?_
  rintro e w5 ⟨rfl, hu0, hr5⟩
  have hX5 := hid (hX4.out.call hu0 hr5)
  clear hu0 hr5 hX4 hT4 hres
  obtain ⟨b0, x0, f0, fx, fg, r1, r2, r3, r4, hgl, hfl⟩ := hX5.out.cells
  go_upto_region 6 with fail
  have hX6 := hid (hX5.out.setX (.string n))
  generalize w5.setCell ⟨w.heap.size + 1, 0, none⟩ (.string n) = w6 at *
  clear b0 x0 f0 fx fg r1 r2 r3 r4 hgl hfl hX5
  obtain ⟨b0, x0, f0, fx, fg, r1, r2, r3, r4, hgl, hfl⟩ := hX6.out.cells
  go_upto_region 7 with fail
  have hX7 := hid (hX6.out.setR (r' := { r with at_ := a, last := r.at_ }) 2 (.int .i64 (r.at_ : Nat)) rfl rfl hX6.out.rd.at_le)
  generalize w6.setCell ⟨g, 2, none⟩ (.int .i64 (r.at_ : Nat)) = w7 at *
  clear b0 x0 f0 fx fg r1 r2 r3 r4 hgl hfl hX6
  obtain ⟨b0, x0, f0, fx, fg, r1, r2, r3, r4, hgl, hfl⟩ := hX7.out.cells
  go_wp2_with fail
  have hX8 := hX7.out.setX (.string n)
  refine leaves_cons (f := 104) (args := #[.pointer (some ⟨w.heap.size + 1 + 1, 0, none⟩), .pointer (some ⟨w.heap.size + 1, 0, none⟩), .pointer (some ⟨w.heap.size, 0, none⟩)]) (by simp) (by simp [go_sem]) ?_
  refine (cidle_string hX8).mono ?_
  rintro e u' w'' ⟨rfl, rfl, rfl⟩
  refine ⟨.string n, ?_, rfl, hX8.up, hX8.rd⟩
  have HX := hX8.x.cell 0
  have HX : (w7.setCell ⟨w.heap.size + 1, 0, none⟩ (.string n)).cell? ⟨w.heap.size + 1, 0, none⟩ = some (.string n) := hX8.x.cell 0
  simp [Go.results, Try.results99, asAddr, go_sem, HX]

end Go.Proofs.Ytbakfkhmopebnaa

namespace Go.Proofs.Ytbakfkhmopebnaa
open Go.RowKit
set_option linter.unusedVariables false
set_option linter.unusedSimpArgs false

theorem numF_pos (b : List Nat) (at_ : Nat) : ∀ (k i acc n m : Nat), numF b at_ k i acc = .inl (n, m) → i + 1 ≤ m := by
  intro k
  induction k with
  | zero => intro i acc n m h; simp [numF] at h
  | succ k ih =>
    intro i acc n m h
    unfold numF at h
    split at h
    · cases h
    · split at h
      · cases h
      · split at h
        · split at h
          · cases h
          · simp only [Sum.inl.injEq, Prod.mk.injEq] at h; omega
        · have := ih _ _ _ _ h; omega
theorem num_pos {b : List Nat} {at_ n m : Nat} (h : num b at_ = .inl (n, m)) : 1 ≤ m := numF_pos b at_ 10 0 0 n m h
theorem strOf_bt (l : List Nat) : strOfNums (l.map Int.ofNat) = bt l := by
  unfold strOfNums bt
  rw [List.map_map]
  rfl
theorem convB {S : Nat → Prop} {w : World} {A : Option Addr} {l : List Nat} {n c : Nat} (h : Rd S w 1 A n (bcells l)) (hn : l.length = n) : (convert 39 9 (.slice A n c)).run Try.prog w = .ok (.string (bt l)) w := by
  subst hn
  cases l with
  | nil =>
    cases A with
    | none => exact run_convert_bytes_nil w 39 5 Try.underlying39 Try.underlying5 0 c 9 Try.underlying9
    | some a =>
      obtain ⟨b, o, t⟩ := a
      rw [run_convert_bytes_string w 39 9 5 _ _ c Try.underlying39 Try.underlying5 Try.underlying9, run_bytesToString w _ _ c [] (by simp [loadCells, loadCellsFrom])]
      rfl
  | cons x l =>
    obtain ⟨b, o, rfl, _, _, hc⟩ := h.2 (by simp)
    rw [← strOf_bt]
    refine run_convert_bytes_arg w 39 5 Try.underlying39 Try.underlying5 b o _ c _ (by simp) (fun i hi => hc i _ ?_) 9 Try.underlying9
    rw [bcells_at hi]
    have : ((x :: l).map Int.ofNat).getD i 0 = (((x :: l)[i] : Nat) : Int) := by rw [List.getD_eq_getElem?_getD, List.getElem?_map, List.getElem?_eq_getElem hi]; rfl
    rw [this]
/-- what a slice's part reads -/
theorem Rd.part {S : Nat → Prop} {w : World} {A : Option Addr} {l : List Nat} {c k n : Nat} (h : Rd S w 1 A l.length (bcells l)) (hk : k + n ≤ l.length) (hc : l.length ≤ c) : Rd S w 1 (if c = k then A else Option.map (fun x => x.add k) A) n (bcells ((l.drop k).take n)) := by
  have hl : ((l.drop k).take n).length = n := by rw [List.length_take, List.length_drop]; omega
  refine ⟨by unfold bcells; rw [List.length_map]; omega, fun hn => ?_⟩
  obtain ⟨b, o, rfl, hS, hb, hx⟩ := h.2 (by omega)
  rw [if_neg (by omega)]
  refine ⟨b, o + k, by simp [Addr.add_lit], hS, hb, fun j u hu => ?_⟩
  unfold bcells at hu hx
  rw [List.map_take, List.map_drop] at hu
  have hj : j < n := by
    have := (List.getElem?_eq_some_iff.1 hu).1
    simp only [List.length_take, List.length_drop, List.length_map] at this
    omega
  rw [List.getElem?_take_of_lt hj, List.getElem?_drop] at hu
  have := hx (k + j) u hu
  rwa [← Nat.add_assoc] at this
set_option maxRecDepth 100000 in
set_option maxHeartbeats 1000000 in
theorem rtext_any {S : Nat → Prop} {w : World} {g : Nat} {A : Option Addr} {c : Nat} {r : Rr} (h : RrIn S w g A c r) (most : Int) (hmm : 0 ≤ most ∧ most ≤ 100000) : Calls Try.prog 91 #[.pointer (some ⟨g, 0, none⟩), .int .i64 most] w fun e w' => e = .returned (.string (r.text most).1) ∧ Upd (fun k => k = g) w w' ∧ RrIn S w' g A c ((r.text most).2) := by
  have H := hid h
  have kb := h.blk
  have x0 := kb.cell 0
  have x1 := kb.cell 1
  have x2 := kb.cell 2
  have x3 := kb.cell 3
  have x4 := kb.cell 4
  simp only [List.getElem?_toArray, List.getElem?_cons_zero, List.getElem?_cons_succ] at x0 x1 x2 x3 x4
  have fz := fun q => kb.frozen q
  have hlt := kb.lt
  have hln : (r.b.length : Int) ≤ 1000000 := by have := h.len; omega
  have hat0 : (r.at_ : Int) ≤ (r.b.length : Int) := by have := h.at_le; omega
  have hatN := h.at_le
  have hm := hid hmm
  clear hmm
  by_cases he : r.e = 0
  · have t1 : (r.e == 0) = true := by simpa using he
    have t2 : (r.e != 0) = false := by simpa using he
    rcases Decidable.em (c = r.at_) with hca | hca
    · have hnu := hid (rnumber_any S _ (c - r.at_) (r.b.drop r.at_) w.drew (Rd.tail h.row.drew h.at_le h.cap) (by rw [List.length_drop]; have := h.len; omega) (fun x hx => h.byt x (List.mem_of_mem_drop hx)))
      rw [← num_drop, List.length_drop] at hnu
      rw [if_pos hca, hca, Nat.sub_self] at hnu
      subst hca
      cases hnv : num r.b r.at_ with
      | inl nk =>
        obtain ⟨n, k⟩ := nk
        have := num_lt hnv
        have := num_pos hnv
        have := h.cap
        omega
      | inr er =>
        rw [hnv] at hnu
        have hne : er ≠ 0 := num_ne hnv
        have z1 : (er == 0) = false := by simpa using hne
        have z2 : (er != 0) = true := by simpa using hne
        have hby : Hid (r.text most = (⟨#[]⟩, r.fails er)) := hid (by unfold Rr.text; rw [if_neg (by omega), hnv])
        rw [show numV (.inr er) = .tuple #[.int .u64 0, .int .i64 0, .int .i64 er] from rfl] at hnu
        clear h he kb hatN hnv hne
        go_enter Try.func91, Try.ntmps91
        go_upto_region 3 with fail
        go_region_held3 (fun w' => w'.cell? ⟨g, 0, none⟩ = some (.slice A r.b.length r.at_) ∧ w'.cell? ⟨g, 1, none⟩ = some (.int .i64 (r.at_ : Nat))) (first | exact ⟨x0, x1⟩ | exact ⟨y0, y1⟩)
          ((go_at_call 85
            refine hnu.out.mono ?_
            rintro e w2 ⟨rfl, hb0⟩
            have hb2 := hid ((Below.refl w.heap.size w).drew.trans hb0)
            have hr2 := hid (H.out.below_all hb2.out)
            have y0 := hr2.out.blk.cell 0
            have y1 := hr2.out.blk.cell 1
            simp only [List.getElem?_toArray, List.getElem?_cons_zero, List.getElem?_cons_succ] at y0 y1
            clear hb0))
        clear x0 x1 x2 x3 x4 fz hlt y0 y1
        go_upto_region 6 with fail
        have kb := hr2.out.blk
        have x0 := kb.cell 0
        have x1 := kb.cell 1
        have x2 := kb.cell 2
        have x3 := kb.cell 3
        have x4 := kb.cell 4
        simp only [List.getElem?_toArray, List.getElem?_cons_zero, List.getElem?_cons_succ] at x0 x1 x2 x3 x4
        have fz := fun q => kb.frozen q
        have hlt := kb.lt
        clear kb
        go_quiet (fail)
        go_wp2_with fail
        refine (rfails_any (hr2.out.drewN _) er).mono ?_
        rintro e w3 ⟨rfl, hu0, hr0⟩
        have hu3 := hid hu0; have hr3 := hid hr0
        clear hu0 hr0
        go_wp2_with fail
        go_ret
        rw [hby.out]
        exact ⟨rfl, ((Upd.of_below (M := fun k => k = g) hb2.out fun k hk hk' => absurd hk (by omega)).drewN _).trans hu3.out fun _ _ h => h, hr3.out⟩
    · have hnu := hid (rnumber_any S _ (c - r.at_) (r.b.drop r.at_) w.drew (Rd.tail h.row.drew h.at_le h.cap) (by rw [List.length_drop]; have := h.len; omega) (fun x hx => h.byt x (List.mem_of_mem_drop hx)))
      rw [← num_drop, List.length_drop] at hnu
      rw [if_neg hca] at hnu
      cases hnv : num r.b r.at_ with
      | inl nk =>
        obtain ⟨n, k⟩ := nk
        obtain ⟨hn1, hn2, hn3⟩ := num_lt hnv
        rw [hnv] at hnu
        rw [show numV (.inl (n, k)) = .tuple #[.int .u64 (n : Nat), .int .i64 (k : Nat), .int .i64 0] from rfl] at hnu
        have hn3' := hid hn3
        have fm : IntKind.u64.wrap most = most := by have := hm.out; rw [IntKind.wrap_u64]; omega
        have m0 : ¬ most < 0 := by have := hm.out; omega
        have hl2 := h.len
        have hc2 := h.cap
        have g1 : IntKind.i64.wrap ((r.b.length : Int) - (r.at_ : Int)) = (r.b.length : Int) - (r.at_ : Int) := by rw [IntKind.wrap_i64]; omega
        have g2 : IntKind.i64.wrap ((r.b.length : Int) - (r.at_ : Int) - (k : Int)) = (r.b.length : Int) - (r.at_ : Int) - (k : Int) := by rw [IntKind.wrap_i64]; omega
        have g3 : IntKind.u64.wrap ((r.b.length : Int) - (r.at_ : Int) - (k : Int)) = (r.b.length : Int) - (r.at_ : Int) - (k : Int) := by rw [IntKind.wrap_u64]; omega
        by_cases hmn : most < (n : Int)
        · have hby : Hid (r.text most = (⟨#[]⟩, r.fails 1)) := hid (by unfold Rr.text; rw [if_neg (by omega), hnv]; simp only; rw [if_pos (.inr hmn)])
          clear h he kb hatN hnv hn1 hn2 hn3
          clear hl2 hc2
          go_enter Try.func91, Try.ntmps91
          go_upto_region 3 with fail
          go_region_held3 (fun w' => w'.cell? ⟨g, 0, none⟩ = some (.slice A r.b.length c) ∧ w'.cell? ⟨g, 1, none⟩ = some (.int .i64 (r.at_ : Nat))) (first | exact ⟨x0, x1⟩ | exact ⟨y0, y1⟩)
            ((go_at_call 85
              refine hnu.out.mono ?_
              rintro e w2 ⟨rfl, hb0⟩
              have hb2 := hid ((Below.refl w.heap.size w).drew.trans hb0)
              have hr2 := hid (H.out.below_all hb2.out)
              have y0 := hr2.out.blk.cell 0
              have y1 := hr2.out.blk.cell 1
              simp only [List.getElem?_toArray, List.getElem?_cons_zero, List.getElem?_cons_succ] at y0 y1
              clear hb0))
          clear x0 x1 x2 x3 x4 fz hlt y0 y1
          go_upto_region 6 with fail
          have kb := hr2.out.blk
          have x0 := kb.cell 0
          have x1 := kb.cell 1
          have x2 := kb.cell 2
          have x3 := kb.cell 3
          have x4 := kb.cell 4
          simp only [List.getElem?_toArray, List.getElem?_cons_zero, List.getElem?_cons_succ] at x0 x1 x2 x3 x4
          have fz := fun q => kb.frozen q
          have hlt := kb.lt
          clear kb
          go_quiet (fail)
          go_wp2_with fail
          refine (rfails_any (hr2.out.drewN _) 1).mono ?_
          rintro e w3 ⟨rfl, hu0, hr0⟩
          have hu3 := hid hu0; have hr3 := hid hr0
          clear hu0 hr0
          go_wp2_with fail
          go_ret
          rw [hby.out]
          exact ⟨rfl, ((Upd.of_below (M := fun k => k = g) hb2.out fun k hk hk' => absurd hk (by omega)).drewN _).trans hu3.out fun _ _ h => h, hr3.out⟩
        · have fn : IntKind.i64.wrap (n : Int) = (n : Int) := by have := hm.out; rw [IntKind.wrap_i64]; omega
          by_cases hsh : r.b.length < r.at_ + k + n
          · have i3 : (r.b.length : Int) - (r.at_ : Int) - (k : Int) < (n : Int) := by omega
            have hby : Hid (r.text most = (⟨#[]⟩, r.fails 3)) := hid (by unfold Rr.text; rw [if_neg (by omega), hnv]; simp only; rw [if_neg (by omega), if_pos hsh])
            clear h he kb hatN hnv hn1 hn2 hn3
            clear hl2 hc2 hsh
            go_enter Try.func91, Try.ntmps91
            go_upto_region 3 with fail
            go_region_held3 (fun w' => w'.cell? ⟨g, 0, none⟩ = some (.slice A r.b.length c) ∧ w'.cell? ⟨g, 1, none⟩ = some (.int .i64 (r.at_ : Nat))) (first | exact ⟨x0, x1⟩ | exact ⟨y0, y1⟩)
              ((go_at_call 85
                refine hnu.out.mono ?_
                rintro e w2 ⟨rfl, hb0⟩
                have hb2 := hid ((Below.refl w.heap.size w).drew.trans hb0)
                have hr2 := hid (H.out.below_all hb2.out)
                have y0 := hr2.out.blk.cell 0
                have y1 := hr2.out.blk.cell 1
                simp only [List.getElem?_toArray, List.getElem?_cons_zero, List.getElem?_cons_succ] at y0 y1
                clear hb0))
            clear x0 x1 x2 x3 x4 fz hlt y0 y1
            go_upto_region 6 with fail
            have kb := hr2.out.blk
            have x0 := kb.cell 0
            have x1 := kb.cell 1
            have x2 := kb.cell 2
            have x3 := kb.cell 3
            have x4 := kb.cell 4
            simp only [List.getElem?_toArray, List.getElem?_cons_zero, List.getElem?_cons_succ] at x0 x1 x2 x3 x4
            have fz := fun q => kb.frozen q
            have hlt := kb.lt
            clear kb
            go_quiet (fail)
            go_wp2_with fail
            refine (rfails_any (hr2.out.drewN _) 3).mono ?_
            rintro e w3 ⟨rfl, hu0, hr0⟩
            have hu3 := hid hu0; have hr3 := hid hr0
            clear hu0 hr0
            go_wp2_with fail
            go_ret
            rw [hby.out]
            exact ⟨rfl, ((Upd.of_below (M := fun k => k = g) hb2.out fun k hk hk' => absurd hk (by omega)).drewN _).trans hu3.out fun _ _ h => h, hr3.out⟩
          · have i3 : ¬ ((r.b.length : Int) - (r.at_ : Int) - (k : Int) < (n : Int)) := by omega
            have hle : r.at_ + k + n ≤ r.b.length := by omega
            obtain ⟨P, hP⟩ : ∃ P, P = r.at_ + k := ⟨_, rfl⟩
            obtain ⟨W, hW⟩ : ∃ W, W = bt ((r.b.drop P).take n) := ⟨_, rfl⟩
            obtain ⟨E, hE⟩ : ∃ E, E = P + n := ⟨_, rfl⟩
            obtain ⟨T, hT⟩ : ∃ T, T = k + n := ⟨_, rfl⟩
            have hby : Hid (r.text most = (W, r.took T)) := hid (by unfold Rr.text; rw [if_neg (by omega), hnv]; simp only; rw [if_neg (by omega), if_neg (by omega), hW, hT, hP])
            have q1 : IntKind.i64.wrap ((r.at_ : Int) + (k : Int)) = (P : Int) := by rw [IntKind.wrap_i64]; omega
            have q2 : IntKind.i64.wrap ((P : Int) + (n : Int)) = (E : Int) := by rw [IntKind.wrap_i64]; omega
            have q3 : IntKind.i64.wrap ((k : Int) + (n : Int)) = (T : Int) := by rw [IntKind.wrap_i64]; omega
            have q4 : E - P = n := by omega
            have u1 : P ≤ E := by omega
            have u1' : (P : Int) ≤ (E : Int) := by omega
            have u2 : E ≤ c := by omega
            have u2' : (E : Int) ≤ (c : Int) := by omega
            have hcv := hid (fun (W' : World) (hr : RrIn S W' g A c r) => hW ▸ convB (c := c - P) (Rd.part (c := c) (k := P) (n := n) hr.row (by omega) hc2) (by rw [List.length_take, List.length_drop]; omega))
            have htk := hid (fun (W' : World) (hr : RrIn S W' g A c r) => rtook_any hr T (by omega))
            clear h he kb hatN hnv hn1 hn2 hn3
            clear hl2 hc2 hsh hW hln hle hP hE hT
            rcases Decidable.em (c = P) with hcb | hcb
            · rw [if_pos hcb, hcb, Nat.sub_self] at hcv
              subst hcb
              go_enter Try.func91, Try.ntmps91
              go_upto_region 3 with fail
              go_region_held3 (fun w' => w'.cell? ⟨g, 0, none⟩ = some (.slice A r.b.length c) ∧ w'.cell? ⟨g, 1, none⟩ = some (.int .i64 (r.at_ : Nat))) (first | exact ⟨x0, x1⟩ | exact ⟨y0, y1⟩)
                ((go_at_call 85
                  refine hnu.out.mono ?_
                  rintro e w2 ⟨rfl, hb0⟩
                  have hb2 := hid ((Below.refl w.heap.size w).drew.trans hb0)
                  have hr2 := hid (H.out.below_all hb2.out)
                  have y0 := hr2.out.blk.cell 0
                  have y1 := hr2.out.blk.cell 1
                  simp only [List.getElem?_toArray, List.getElem?_cons_zero, List.getElem?_cons_succ] at y0 y1
                  clear hb0))
              clear x0 x1 x2 x3 x4 fz hlt y0 y1
              go_upto_region 6 with fail
              have kb := hr2.out.blk
              have x0 := kb.cell 0
              have x1 := kb.cell 1
              have x2 := kb.cell 2
              have x3 := kb.cell 3
              have x4 := kb.cell 4
              simp only [List.getElem?_toArray, List.getElem?_cons_zero, List.getElem?_cons_succ] at x0 x1 x2 x3 x4
              have fz := fun q => kb.frozen q
              have hlt := kb.lt
              clear kb
              go_quiet (fail)
              have hu40 := (Upd.of_below (M := fun k => k = g) hb2.out fun k hk hk' => absurd hk (by omega)).drewN nq
              have hr4 := hid (hr2.out.drewN nq)
              have hu4 := hid hu40
              clear hu40
              generalize w2.drewN nq = w4 at *
              clear x0 x1 x2 x3 x4 fz hlt hr2 hb2
              have kb := hr4.out.blk
              have x0 := kb.cell 0
              have x1 := kb.cell 1
              have x2 := kb.cell 2
              have x3 := kb.cell 3
              have x4 := kb.cell 4
              simp only [List.getElem?_toArray, List.getElem?_cons_zero, List.getElem?_cons_succ] at x0 x1 x2 x3 x4
              have fz := fun q => kb.frozen q
              have hlt := kb.lt
              clear kb
              go_upto_region 11 with fail
              have hcx := fun j => hcv.out _ (hr4.out.drewN j)
              clear hcv
              go_quiet (fail)
              go_wp2_with fail
              refine (htk.out _ (hr4.out.drewN _)).mono ?_
              rintro e w3 ⟨rfl, hu0, hr0⟩
              have hu3 := hid hu0; have hr3 := hid hr0
              clear hu0 hr0
              go_wp2_with fail
              go_ret
              rw [hby.out]
              exact ⟨rfl, (hu4.out.drewN _).trans hu3.out fun _ _ h => h, hr3.out⟩
            · rw [if_neg hcb] at hcv
              go_enter Try.func91, Try.ntmps91
              go_upto_region 3 with fail
              go_region_held3 (fun w' => w'.cell? ⟨g, 0, none⟩ = some (.slice A r.b.length c) ∧ w'.cell? ⟨g, 1, none⟩ = some (.int .i64 (r.at_ : Nat))) (first | exact ⟨x0, x1⟩ | exact ⟨y0, y1⟩)
                ((go_at_call 85
                  refine hnu.out.mono ?_
                  rintro e w2 ⟨rfl, hb0⟩
                  have hb2 := hid ((Below.refl w.heap.size w).drew.trans hb0)
                  have hr2 := hid (H.out.below_all hb2.out)
                  have y0 := hr2.out.blk.cell 0
                  have y1 := hr2.out.blk.cell 1
                  simp only [List.getElem?_toArray, List.getElem?_cons_zero, List.getElem?_cons_succ] at y0 y1
                  clear hb0))
              clear x0 x1 x2 x3 x4 fz hlt y0 y1
              go_upto_region 6 with fail
              have kb := hr2.out.blk
              have x0 := kb.cell 0
              have x1 := kb.cell 1
              have x2 := kb.cell 2
              have x3 := kb.cell 3
              have x4 := kb.cell 4
              simp only [List.getElem?_toArray, List.getElem?_cons_zero, List.getElem?_cons_succ] at x0 x1 x2 x3 x4
              have fz := fun q => kb.frozen q
              have hlt := kb.lt
              clear kb
              go_quiet (fail)
              have hu40 := (Upd.of_below (M := fun k => k = g) hb2.out fun k hk hk' => absurd hk (by omega)).drewN nq
              have hr4 := hid (hr2.out.drewN nq)
              have hu4 := hid hu40
              clear hu40
              generalize w2.drewN nq = w4 at *
              clear x0 x1 x2 x3 x4 fz hlt hr2 hb2
              have kb := hr4.out.blk
              have x0 := kb.cell 0
              have x1 := kb.cell 1
              have x2 := kb.cell 2
              have x3 := kb.cell 3
              have x4 := kb.cell 4
              simp only [List.getElem?_toArray, List.getElem?_cons_zero, List.getElem?_cons_succ] at x0 x1 x2 x3 x4
              have fz := fun q => kb.frozen q
              have hlt := kb.lt
              clear kb
              go_upto_region 11 with fail
              have hcx := fun j => hcv.out _ (hr4.out.drewN j)
              clear hcv
              go_quiet (fail)
              go_wp2_with fail
              refine (htk.out _ (hr4.out.drewN _)).mono ?_
              rintro e w3 ⟨rfl, hu0, hr0⟩
              have hu3 := hid hu0; have hr3 := hid hr0
              clear hu0 hr0
              go_wp2_with fail
              go_ret
              rw [hby.out]
              exact ⟨rfl, (hu4.out.drewN _).trans hu3.out fun _ _ h => h, hr3.out⟩
      | inr er =>
        rw [hnv] at hnu
        have hne : er ≠ 0 := num_ne hnv
        have z1 : (er == 0) = false := by simpa using hne
        have z2 : (er != 0) = true := by simpa using hne
        have hby : Hid (r.text most = (⟨#[]⟩, r.fails er)) := hid (by unfold Rr.text; rw [if_neg (by omega), hnv])
        rw [show numV (.inr er) = .tuple #[.int .u64 0, .int .i64 0, .int .i64 er] from rfl] at hnu
        clear h he kb hatN hnv hne
        go_enter Try.func91, Try.ntmps91
        go_upto_region 3 with fail
        go_region_held3 (fun w' => w'.cell? ⟨g, 0, none⟩ = some (.slice A r.b.length c) ∧ w'.cell? ⟨g, 1, none⟩ = some (.int .i64 (r.at_ : Nat))) (first | exact ⟨x0, x1⟩ | exact ⟨y0, y1⟩)
          ((go_at_call 85
            refine hnu.out.mono ?_
            rintro e w2 ⟨rfl, hb0⟩
            have hb2 := hid ((Below.refl w.heap.size w).drew.trans hb0)
            have hr2 := hid (H.out.below_all hb2.out)
            have y0 := hr2.out.blk.cell 0
            have y1 := hr2.out.blk.cell 1
            simp only [List.getElem?_toArray, List.getElem?_cons_zero, List.getElem?_cons_succ] at y0 y1
            clear hb0))
        clear x0 x1 x2 x3 x4 fz hlt y0 y1
        go_upto_region 6 with fail
        have kb := hr2.out.blk
        have x0 := kb.cell 0
        have x1 := kb.cell 1
        have x2 := kb.cell 2
        have x3 := kb.cell 3
        have x4 := kb.cell 4
        simp only [List.getElem?_toArray, List.getElem?_cons_zero, List.getElem?_cons_succ] at x0 x1 x2 x3 x4
        have fz := fun q => kb.frozen q
        have hlt := kb.lt
        clear kb
        go_quiet (fail)
        go_wp2_with fail
        refine (rfails_any (hr2.out.drewN _) er).mono ?_
        rintro e w3 ⟨rfl, hu0, hr0⟩
        have hu3 := hid hu0; have hr3 := hid hr0
        clear hu0 hr0
        go_wp2_with fail
        go_ret
        rw [hby.out]
        exact ⟨rfl, ((Upd.of_below (M := fun k => k = g) hb2.out fun k hk hk' => absurd hk (by omega)).drewN _).trans hu3.out fun _ _ h => h, hr3.out⟩
  · have t1 : (r.e == 0) = false := by simpa using he
    have t2 : (r.e != 0) = true := by simpa using he
    have hby : Hid (r.text most = (⟨#[]⟩, r)) := hid (by unfold Rr.text; rw [if_pos he])
    generalize r.e = re at *
    clear h he kb hat0 hln hatN
    go_enter Try.func91, Try.ntmps91
    go_wp2_with fail
    go_ret
    rw [hby.out]
    exact ⟨rfl, Upd.refl _ _, H.out⟩

end Go.Proofs.Ytbakfkhmopebnaa

namespace Go.Proofs.Ytbakfkhmopebnaa
open Go.RowKit
set_option linter.unusedVariables false
set_option linter.unusedSimpArgs false

def ctextR (r : Rr) (most : Int) : (Value × Nat) ⊕ Int := match num r.b r.at_ with | .inr e => .inr e | .inl (n, k) => if most < n then .inr 1 else if r.b.length < r.at_ + k + n then .inr 3 else .inl (.string (bt ((r.b.drop (r.at_ + k)).take n)), r.at_ + k + n)
set_option maxRecDepth 100000 in
set_option maxHeartbeats 1000000 in
theorem ctext1_any {S : Nat → Prop} {w : World} {g : Nat} {A : Option Addr} {c : Nat} {r : Rr} {p q : Nat} (h : CrIn S w g A c r) (most : Int) (hmm : 0 ≤ most ∧ most ≤ 100000) (hb1 : Blk w p 70 #[.pointer (some ⟨g, 0, none⟩)]) (hb2 : Blk w q 3 #[.int .i64 most]) (hpg : p ≠ g) : Calls Try.prog 100 #[.pointer (some ⟨p, 0, none⟩), .pointer (some ⟨q, 0, none⟩)] w (CPost S w g A c r (ctextR r most)) := by
  have hcl := hid (climit_any h most 1 hmm)
  have hpg := hid hpg
  have y0 : w.cell? ⟨p, 0, none⟩ = some (.pointer (some ⟨g, 0, none⟩)) := hb1.cell 0
  have y1 : w.cell? ⟨q, 0, none⟩ = some (.int .i64 most) := hb2.cell 0
  have hH := hid h
  cases hnv : num r.b r.at_ with
  | inr er =>
    have hlim : climR r most 1 = .inr er := by unfold climR; rw [hnv]
    have hres : Hid (ctextR r most = .inr er) := hid (by unfold ctextR; rw [hnv])
    clear hnv h hb1 hb2 hmm
    go_enter Try.func100, Try.ntmps100
    go_wp2_with fail
    refine (cp_bad hlim hcl.out).mono ?_
    rintro e w2 ⟨rfl, hu0, a2, hr0⟩
    have hU2 := hid hu0
    have hR2 := hid hr0
    clear hu0 hr0 hlim
    go_wp2_with fail
    refine ⟨rfl, hU2.out, ?_⟩
    rw [hres.out]
    exact ⟨rfl, _, hR2.out⟩
  | inl nk =>
    obtain ⟨n, k⟩ := nk
    obtain ⟨hn1, hn2, hn3⟩ := num_lt hnv
    by_cases hmn : most < (n : Int)
    · have hlim : climR r most 1 = .inr 1 := by unfold climR; rw [hnv]; simp only; rw [if_pos hmn]
      have hres : Hid (ctextR r most = .inr 1) := hid (by unfold ctextR; rw [hnv]; simp only; rw [if_pos hmn])
      clear hnv h hb1 hb2 hmm hn1 hn2 hn3 hmn
      go_enter Try.func100, Try.ntmps100
      go_wp2_with fail
      refine (cp_bad hlim hcl.out).mono ?_
      rintro e w2 ⟨rfl, hu0, a2, hr0⟩
      have hU2 := hid hu0
      have hR2 := hid hr0
      clear hu0 hr0 hlim
      go_wp2_with fail
      refine ⟨rfl, hU2.out, ?_⟩
      rw [hres.out]
      exact ⟨rfl, _, hR2.out⟩
    · obtain ⟨P, hP⟩ : ∃ P, P = r.at_ + k := ⟨_, rfl⟩
      obtain ⟨E, hE⟩ : ∃ E, E = P + n := ⟨_, rfl⟩
      have hlim : climR r most 1 = .inl (.int .i64 (n : Nat), r.at_ + k) := by unfold climR; rw [hnv]; simp only; rw [if_neg hmn]
      have hl2 := h.len
      have hc2 := h.cap
      have g1 : IntKind.i64.wrap ((r.b.length : Int) - (P : Int)) = (r.b.length : Int) - (P : Int) := by rw [IntKind.wrap_i64]; omega
      by_cases hsh : r.b.length < r.at_ + k + n
      · have i3 : (r.b.length : Int) - (P : Int) < (n : Int) := by omega
        have hres : Hid (ctextR r most = .inr 3) := hid (by unfold ctextR; rw [hnv]; simp only; rw [if_neg hmn, if_pos hsh])
        clear hnv h hb1 hb2 hmm hn1 hn2 hn3 hmn hE hl2 hc2 hsh
        go_enter Try.func100, Try.ntmps100
        go_wp2_with fail
        refine (cp_ok hlim hcl.out).mono ?_
        rintro e w2 ⟨rfl, hu0, hr0⟩
        have hU2 := hid hu0
        have hR2 : Hid (CrIn S w2 g A c (r.to P)) := hid (by rw [← hP] at hr0; exact hr0)
        have hu2p : Hid (w2.cell? ⟨p, 0, none⟩ = some (.pointer (some ⟨g, 0, none⟩))) := hid (hu0.cell y0 hpg.out)
        clear hu0 hr0
        have kb := hR2.out.blk
        have x0 : w2.cell? ⟨g, 0, none⟩ = some (.slice A r.b.length c) := kb.cell 0
        have x1 : w2.cell? ⟨g, 1, none⟩ = some (.int .i64 (P : Nat)) := kb.cell 1
        have fz := fun q => kb.frozen q
        have hlt := kb.lt
        have z0 := hu2p.out
        clear kb
        clear y0 y1 hlim hP
        go_upto_region 2 with fail
        go_quiet (fail)
        go_wp2_with fail
        refine ⟨rfl, hU2.out.drewN _, ?_⟩
        rw [hres.out]
        exact ⟨rfl, _, hR2.out.drewN _⟩
      · have i3 : ¬ ((r.b.length : Int) - (P : Int) < (n : Int)) := by omega
        have i4 : (n : Int) ≤ (r.b.length : Int) - (P : Int) := by omega
        obtain ⟨W, hW⟩ : ∃ W, W = bt ((r.b.drop P).take n) := ⟨_, rfl⟩
        have hres : Hid (ctextR r most = .inl (.string W, E)) := hid (by unfold ctextR; rw [hnv]; simp only; rw [if_neg hmn, if_neg hsh, hW, hE, hP])
        have q1 : IntKind.i64.wrap ((P : Int) + (n : Int)) = (E : Int) := by rw [IntKind.wrap_i64]; omega
        have q2 : IntKind.i64.wrap ((E : Int) - (n : Int)) = (P : Int) := by rw [IntKind.wrap_i64]; omega
        have q4 : E - P = n := by omega
        have u1 : P ≤ E := by omega
        have u1' : (P : Int) ≤ (E : Int) := by omega
        have u2 : E ≤ c := by omega
        have u2' : (E : Int) ≤ (c : Int) := by omega
        have hE9 := hid (show E ≤ r.b.length by omega)
        have hcv := hid (fun (W' : World) (hr : CrIn S W' g A c (r.to E)) => hW ▸ convB (c := c - P) (Rd.part (c := c) (k := P) (n := n) hr.row (by show P + n ≤ r.b.length; omega) hc2) (by rw [List.length_take, List.length_drop]; show min n (r.b.length - P) = n; omega))
        clear hnv h hb1 hb2 hmm hn1 hn2 hn3 hmn hE hl2 hc2 hsh hW
        rcases Decidable.em (c = P) with hcb | hcb
        · rw [if_pos hcb, hcb, Nat.sub_self] at hcv
          subst hcb
          go_enter Try.func100, Try.ntmps100
          go_wp2_with fail
          refine (cp_ok hlim hcl.out).mono ?_
          rintro e w2 ⟨rfl, hu0, hr0⟩
          have hU2 := hid hu0
          have hR2 : Hid (CrIn S w2 g A c (r.to c)) := hid (by rw [← hP] at hr0; exact hr0)
          have hu2p : Hid (w2.cell? ⟨p, 0, none⟩ = some (.pointer (some ⟨g, 0, none⟩))) := hid (hu0.cell y0 hpg.out)
          clear hu0 hr0
          have kb := hR2.out.blk
          have x0 : w2.cell? ⟨g, 0, none⟩ = some (.slice A r.b.length c) := kb.cell 0
          have x1 : w2.cell? ⟨g, 1, none⟩ = some (.int .i64 (c : Nat)) := kb.cell 1
          have fz := fun q => kb.frozen q
          have hlt := kb.lt
          have z0 := hu2p.out
          clear kb
          clear y0 y1 hlim hP
          go_upto_region 2 with fail
          go_quiet (fail)
          go_upto_region 5 with fail
          have U3 : Upd (fun k => k = g) w ((w2.drewN nq).setCell ⟨g, 1, none⟩ (.int .i64 (E : Nat))) := (hU2.out.drewN nq).setCell (p := ⟨g, 1, none⟩) (fun _ => rfl) _
          have u3 : Upd (fun k => k = g) w2 ((w2.drewN nq).setCell ⟨g, 1, none⟩ (.int .i64 (E : Nat))) := ((Upd.refl (fun k => k = g) w2).drewN nq).setCell (p := ⟨g, 1, none⟩) (fun _ => rfl) _
          have R3 : CrIn S ((w2.drewN nq).setCell ⟨g, 1, none⟩ (.int .i64 (E : Nat))) g A c (r.to E) := hR2.out.go u3 (by simpa [Rr.to] using (hR2.out.blk.drewN nq).set_ 1 (.int .i64 (E : Nat))) rfl hE9.out
          have z3 : ((w2.drewN nq).setCell ⟨g, 1, none⟩ (.int .i64 (E : Nat))).cell? ⟨p, 0, none⟩ = some (.pointer (some ⟨g, 0, none⟩)) := u3.cell z0 hpg.out
          have hU3 := hid U3; have hR3 := hid R3
          generalize (w2.drewN nq).setCell ⟨g, 1, none⟩ (.int .i64 (E : Nat)) = w3 at *
          clear x0 x1 fz hlt z0 U3 u3 R3 hU2 hR2 hu2p
          have kb := hR3.out.blk
          have x0 : w3.cell? ⟨g, 0, none⟩ = some (.slice A r.b.length c) := kb.cell 0
          have x1 : w3.cell? ⟨g, 1, none⟩ = some (.int .i64 (E : Nat)) := kb.cell 1
          have fz := fun q => kb.frozen q
          have hlt := kb.lt
          clear kb
          have hcx := fun j => hcv.out _ (hR3.out.drewN j)
          clear hcv
          go_quiet (fail)
          go_wp2_with fail
          go_ret
          refine ⟨hU3.out.drewN _, ?_⟩
          rw [hres.out]
          exact ⟨rfl, hR3.out.drewN _⟩
        · rw [if_neg hcb] at hcv
          go_enter Try.func100, Try.ntmps100
          go_wp2_with fail
          refine (cp_ok hlim hcl.out).mono ?_
          rintro e w2 ⟨rfl, hu0, hr0⟩
          have hU2 := hid hu0
          have hR2 : Hid (CrIn S w2 g A c (r.to P)) := hid (by rw [← hP] at hr0; exact hr0)
          have hu2p : Hid (w2.cell? ⟨p, 0, none⟩ = some (.pointer (some ⟨g, 0, none⟩))) := hid (hu0.cell y0 hpg.out)
          clear hu0 hr0
          have kb := hR2.out.blk
          have x0 : w2.cell? ⟨g, 0, none⟩ = some (.slice A r.b.length c) := kb.cell 0
          have x1 : w2.cell? ⟨g, 1, none⟩ = some (.int .i64 (P : Nat)) := kb.cell 1
          have fz := fun q => kb.frozen q
          have hlt := kb.lt
          have z0 := hu2p.out
          clear kb
          clear y0 y1 hlim hP
          go_upto_region 2 with fail
          go_quiet (fail)
          go_upto_region 5 with fail
          have U3 : Upd (fun k => k = g) w ((w2.drewN nq).setCell ⟨g, 1, none⟩ (.int .i64 (E : Nat))) := (hU2.out.drewN nq).setCell (p := ⟨g, 1, none⟩) (fun _ => rfl) _
          have u3 : Upd (fun k => k = g) w2 ((w2.drewN nq).setCell ⟨g, 1, none⟩ (.int .i64 (E : Nat))) := ((Upd.refl (fun k => k = g) w2).drewN nq).setCell (p := ⟨g, 1, none⟩) (fun _ => rfl) _
          have R3 : CrIn S ((w2.drewN nq).setCell ⟨g, 1, none⟩ (.int .i64 (E : Nat))) g A c (r.to E) := hR2.out.go u3 (by simpa [Rr.to] using (hR2.out.blk.drewN nq).set_ 1 (.int .i64 (E : Nat))) rfl hE9.out
          have z3 : ((w2.drewN nq).setCell ⟨g, 1, none⟩ (.int .i64 (E : Nat))).cell? ⟨p, 0, none⟩ = some (.pointer (some ⟨g, 0, none⟩)) := u3.cell z0 hpg.out
          have hU3 := hid U3; have hR3 := hid R3
          generalize (w2.drewN nq).setCell ⟨g, 1, none⟩ (.int .i64 (E : Nat)) = w3 at *
          clear x0 x1 fz hlt z0 U3 u3 R3 hU2 hR2 hu2p
          have kb := hR3.out.blk
          have x0 : w3.cell? ⟨g, 0, none⟩ = some (.slice A r.b.length c) := kb.cell 0
          have x1 : w3.cell? ⟨g, 1, none⟩ = some (.int .i64 (E : Nat)) := kb.cell 1
          have fz := fun q => kb.frozen q
          have hlt := kb.lt
          clear kb
          have hcx := fun j => hcv.out _ (hR3.out.drewN j)
          clear hcv
          go_quiet (fail)
          go_wp2_with fail
          go_ret
          refine ⟨hU3.out.drewN _, ?_⟩
          rw [hres.out]
          exact ⟨rfl, hR3.out.drewN _⟩

end Go.Proofs.Ytbakfkhmopebnaa

namespace Go.Proofs.Ytbakfkhmopebnaa
open Go.RowKit
set_option linter.unusedVariables false
set_option linter.unusedSimpArgs false

set_option maxRecDepth 100000 in
set_option maxHeartbeats 1000000 in
theorem cCount_any {S : Nat → Prop} {w : World} {g : Nat} {A : Option Addr} {c : Nat} {r : Rr} (h : CrIn S w g A c r) (most : Int) (hmm : 0 ≤ most ∧ most ≤ 100000) : Calls Try.prog 45 #[.pointer (some ⟨g, 0, none⟩), .int .i64 most] w fun e w' => e = .returned (.int .i64 ((r.count most).1 : Nat)) ∧ Upd (fun k => k = g) w w' ∧ CrIn S w' g A c (r.count most).2 := by
  have hmf : ∀ (fn : Fn) (first cap : Array Value) (w : World), (Instr.makeFunc fn first cap).run Try.prog w = .ok (.func fn first cap) w := fun _ _ _ _ => rfl
  have hne := hid h.ne
  obtain ⟨W, hW⟩ : ∃ W, W = ((w.alloc (.cells #[.pointer (some ⟨g, 0, none⟩)] 70)).alloc (.cells #[.int .i64 most] 3)) := ⟨_, rfl⟩
  have hB0 : Below w.heap.size w W := by subst hW; exact ((Below.refl _ _).alloc (Nat.le_refl _) _).alloc (by simp) _
  have kp : Blk W w.heap.size 70 #[.pointer (some ⟨g, 0, none⟩)] := by subst hW; exact (Blk.new w _ _).alloc _
  have kq : Blk W (w.heap.size + 1) 3 #[.int .i64 most] := by subst hW; exact Blk.new' _ _ _ (by simp)
  have hsz : W.heap.size = w.heap.size + 1 + 1 := by subst hW; simp
  have b0 : W.cell? ⟨w.heap.size, 0, none⟩ = some (.pointer (some ⟨g, 0, none⟩)) := kp.cell 0
  have hb := h.bound.below_all hB0
  have hgb := h.blk.lt
  have hS : ∀ k, S k ∧ k < w.heap.size → k < W.heap.size := fun k hk => by omega
  have hT : ∀ W', Below W.heap.size W W' → CrIn (fun k => S k ∧ k < w.heap.size) W' g A c r → Calls Try.prog 74 #[.pointer (some ⟨w.heap.size, 0, none⟩), .pointer (some ⟨w.heap.size + 1, 0, none⟩)] W' (CPost (fun k => S k ∧ k < w.heap.size) W' g A c r (climR r most 6)) := fun W' hW' hr => ccount1_any hr most hmm (kp.below_all hW') (kq.below_all hW') (by omega)
  have hu1 := hid (Upd.of_below' hB0 fun k => k = g)
  by_cases he : r.e = 0
  · cases hnv : num r.b r.at_ with
    | inr er =>
      have hc := hid (cread_int_bad hb hS he _ hT er (by unfold climR; rw [hnv]))
      have hp : Hid (r.count most = (0, r.fails er)) := hid (by unfold Rr.count; rw [if_neg (by simp [he]), hnv])
      clear h hb hT he hnv hB0 kp kq hsz hgb hS hmm
      go_enter Try.func45, Try.ntmps45
      go_upto_region 1 with fail
      rw [← hW]
      clear hW
      go_wp2_with fail
      refine hc.out.mono ?_
      rintro e w2 ⟨rfl, hu0, hr0⟩
      have hu2 := hid (hu1.out.trans hu0 fun _ _ h => h)
      have hr2 := hid (hr0.unbound hne.out)
      clear hu0 hr0 hc
      go_wp2_with fail
      go_ret
      rw [hp.out]
      exact ⟨rfl, hu2.out, hr2.out⟩
    | inl nk =>
      obtain ⟨n, k⟩ := nk
      by_cases hmn : most < (n : Int)
      · have hc := hid (cread_int_bad hb hS he _ hT 6 (by unfold climR; rw [hnv]; simp only; rw [if_pos hmn]))
        have hp : Hid (r.count most = (0, r.fails 6)) := hid (by unfold Rr.count; rw [if_neg (by simp [he]), hnv]; simp only; rw [if_pos (.inr hmn)])
        clear h hb hT he hnv hB0 kp kq hsz hgb hS hmm hmn
        go_enter Try.func45, Try.ntmps45
        go_upto_region 1 with fail
        rw [← hW]
        clear hW
        go_wp2_with fail
        refine hc.out.mono ?_
        rintro e w2 ⟨rfl, hu0, hr0⟩
        have hu2 := hid (hu1.out.trans hu0 fun _ _ h => h)
        have hr2 := hid (hr0.unbound hne.out)
        clear hu0 hr0 hc
        go_wp2_with fail
        go_ret
        rw [hp.out]
        exact ⟨rfl, hu2.out, hr2.out⟩
      · have hc := hid (cread_int_ok hb hS he _ hT (n : Nat) (r.at_ + k) (by unfold climR; rw [hnv]; simp only; rw [if_neg hmn]))
        have hp : Hid (r.count most = (n, r.took k)) := hid (by unfold Rr.count; rw [if_neg (by simp [he]), hnv]; simp only; rw [if_neg (by omega)])
        clear h hb hT he hnv hB0 kp kq hsz hgb hS hmm hmn
        go_enter Try.func45, Try.ntmps45
        go_upto_region 1 with fail
        rw [← hW]
        clear hW
        go_wp2_with fail
        refine hc.out.mono ?_
        rintro e w2 ⟨rfl, hu0, hr0⟩
        have hu2 := hid (hu1.out.trans hu0 fun _ _ h => h)
        have hr2 := hid (hr0.unbound hne.out)
        clear hu0 hr0 hc
        go_wp2_with fail
        go_ret
        rw [hp.out]
        exact ⟨rfl, hu2.out, hr2.out⟩
  · have hc := hid (cread_int_err (p := w.heap.size) (q := w.heap.size + 1) hb hS he)
    have hp : Hid (r.count most = (0, r)) := hid (by unfold Rr.count; rw [if_pos he])
    clear h hb hT he hB0 kp kq hsz hgb hS hmm
    go_enter Try.func45, Try.ntmps45
    go_upto_region 1 with fail
    rw [← hW]
    clear hW
    go_wp2_with fail
    refine hc.out.mono ?_
    rintro e w2 ⟨rfl, hu0, hr0⟩
    have hu2 := hid (hu1.out.trans hu0 fun _ _ h => h)
    have hr2 := hid (hr0.unbound hne.out)
    clear hu0 hr0 hc
    go_wp2_with fail
    go_ret
    rw [hp.out]
    exact ⟨rfl, hu2.out, hr2.out⟩
set_option maxRecDepth 100000 in
set_option maxHeartbeats 1000000 in
theorem cText_any {S : Nat → Prop} {w : World} {g : Nat} {A : Option Addr} {c : Nat} {r : Rr} (h : CrIn S w g A c r) (most : Int) (hmm : 0 ≤ most ∧ most ≤ 100000) : Calls Try.prog 79 #[.pointer (some ⟨g, 0, none⟩), .int .i64 most] w fun e w' => e = .returned (.string (r.text most).1) ∧ Upd (fun k => k = g) w w' ∧ CrIn S w' g A c (r.text most).2 := by
  have hmf : ∀ (fn : Fn) (first cap : Array Value) (w : World), (Instr.makeFunc fn first cap).run Try.prog w = .ok (.func fn first cap) w := fun _ _ _ _ => rfl
  have hne := hid h.ne
  obtain ⟨W, hW⟩ : ∃ W, W = ((w.alloc (.cells #[.pointer (some ⟨g, 0, none⟩)] 70)).alloc (.cells #[.int .i64 most] 3)) := ⟨_, rfl⟩
  have hB0 : Below w.heap.size w W := by subst hW; exact ((Below.refl _ _).alloc (Nat.le_refl _) _).alloc (by simp) _
  have kp : Blk W w.heap.size 70 #[.pointer (some ⟨g, 0, none⟩)] := by subst hW; exact (Blk.new w _ _).alloc _
  have kq : Blk W (w.heap.size + 1) 3 #[.int .i64 most] := by subst hW; exact Blk.new' _ _ _ (by simp)
  have hsz : W.heap.size = w.heap.size + 1 + 1 := by subst hW; simp
  have b0 : W.cell? ⟨w.heap.size, 0, none⟩ = some (.pointer (some ⟨g, 0, none⟩)) := kp.cell 0
  have hb := h.bound.below_all hB0
  have hgb := h.blk.lt
  have hS : ∀ k, S k ∧ k < w.heap.size → k < W.heap.size := fun k hk => by omega
  have hT : ∀ W', Below W.heap.size W W' → CrIn (fun k => S k ∧ k < w.heap.size) W' g A c r → Calls Try.prog 100 #[.pointer (some ⟨w.heap.size, 0, none⟩), .pointer (some ⟨w.heap.size + 1, 0, none⟩)] W' (CPost (fun k => S k ∧ k < w.heap.size) W' g A c r (ctextR r most)) := fun W' hW' hr => ctext1_any hr most hmm (kp.below_all hW') (kq.below_all hW') (by omega)
  have hu1 := hid (Upd.of_below' hB0 fun k => k = g)
  by_cases he : r.e = 0
  · cases hnv : num r.b r.at_ with
    | inr er =>
      have hc := hid (cread_string_bad hb hS he _ hT er (by unfold ctextR; rw [hnv]))
      have hp : Hid (r.text most = (⟨#[]⟩, r.fails er)) := hid (by unfold Rr.text; rw [if_neg (by simp [he]), hnv])
      clear h hb hT he hnv hB0 kp kq hsz hgb hS hmm
      go_enter Try.func79, Try.ntmps79
      go_upto_region 1 with fail
      rw [← hW]
      clear hW
      go_wp2_with fail
      refine hc.out.mono ?_
      rintro e w2 ⟨rfl, hu0, hr0⟩
      have hu2 := hid (hu1.out.trans hu0 fun _ _ h => h)
      have hr2 := hid (hr0.unbound hne.out)
      clear hu0 hr0 hc
      go_wp2_with fail
      go_ret
      rw [hp.out]
      exact ⟨rfl, hu2.out, hr2.out⟩
    | inl nk =>
      obtain ⟨n, k⟩ := nk
      by_cases hmn : most < (n : Int)
      · have hc := hid (cread_string_bad hb hS he _ hT 1 (by unfold ctextR; rw [hnv]; simp only; rw [if_pos hmn]))
        have hp : Hid (r.text most = (⟨#[]⟩, r.fails 1)) := hid (by unfold Rr.text; rw [if_neg (by simp [he]), hnv]; simp only; rw [if_pos (.inr hmn)])
        clear h hb hT he hnv hB0 kp kq hsz hgb hS hmm hmn
        go_enter Try.func79, Try.ntmps79
        go_upto_region 1 with fail
        rw [← hW]
        clear hW
        go_wp2_with fail
        refine hc.out.mono ?_
        rintro e w2 ⟨rfl, hu0, hr0⟩
        have hu2 := hid (hu1.out.trans hu0 fun _ _ h => h)
        have hr2 := hid (hr0.unbound hne.out)
        clear hu0 hr0 hc
        go_wp2_with fail
        go_ret
        rw [hp.out]
        exact ⟨rfl, hu2.out, hr2.out⟩
      · by_cases hsh : r.b.length < r.at_ + k + n
        · have hc := hid (cread_string_bad hb hS he _ hT 3 (by unfold ctextR; rw [hnv]; simp only; rw [if_neg hmn, if_pos hsh]))
          have hp : Hid (r.text most = (⟨#[]⟩, r.fails 3)) := hid (by unfold Rr.text; rw [if_neg (by simp [he]), hnv]; simp only; rw [if_neg (by omega), if_pos hsh])
          clear h hb hT he hnv hB0 kp kq hsz hgb hS hmm hmn hsh
          go_enter Try.func79, Try.ntmps79
          go_upto_region 1 with fail
          rw [← hW]
          clear hW
          go_wp2_with fail
          refine hc.out.mono ?_
          rintro e w2 ⟨rfl, hu0, hr0⟩
          have hu2 := hid (hu1.out.trans hu0 fun _ _ h => h)
          have hr2 := hid (hr0.unbound hne.out)
          clear hu0 hr0 hc
          go_wp2_with fail
          go_ret
          rw [hp.out]
          exact ⟨rfl, hu2.out, hr2.out⟩
        · have hc := hid (cread_string_ok hb hS he _ hT _ (r.at_ + (k + n)) (by unfold ctextR; rw [hnv]; simp only; rw [if_neg hmn, if_neg hsh, Nat.add_assoc]))
          have hp : Hid (r.text most = (bt ((r.b.drop (r.at_ + k)).take n), r.took (k + n))) := hid (by unfold Rr.text; rw [if_neg (by simp [he]), hnv]; simp only; rw [if_neg (by omega), if_neg hsh])
          clear h hb hT he hnv hB0 kp kq hsz hgb hS hmm hmn hsh
          go_enter Try.func79, Try.ntmps79
          go_upto_region 1 with fail
          rw [← hW]
          clear hW
          go_wp2_with fail
          refine hc.out.mono ?_
          rintro e w2 ⟨rfl, hu0, hr0⟩
          have hu2 := hid (hu1.out.trans hu0 fun _ _ h => h)
          have hr2 := hid (hr0.unbound hne.out)
          clear hu0 hr0 hc
          go_wp2_with fail
          go_ret
          rw [hp.out]
          exact ⟨rfl, hu2.out, hr2.out⟩
  · have hc := hid (cread_string_err (p := w.heap.size) (q := w.heap.size + 1) hb hS he)
    have hp : Hid (r.text most = (⟨#[]⟩, r)) := hid (by unfold Rr.text; rw [if_pos he])
    clear h hb hT he hB0 kp kq hsz hgb hS hmm
    go_enter Try.func79, Try.ntmps79
    go_upto_region 1 with fail
    rw [← hW]
    clear hW
    go_wp2_with fail
    refine hc.out.mono ?_
    rintro e w2 ⟨rfl, hu0, hr0⟩
    have hu2 := hid (hu1.out.trans hu0 fun _ _ h => h)
    have hr2 := hid (hr0.unbound hne.out)
    clear hu0 hr0 hc
    go_wp2_with fail
    go_ret
    rw [hp.out]
    exact ⟨rfl, hu2.out, hr2.out⟩

end Go.Proofs.Ytbakfkhmopebnaa

namespace Go.Proofs.Ytbakfkhmopebnaa
open Go.RowKit
set_option linter.unusedVariables false
set_option linter.unusedSimpArgs false

theorem CrIn.two {S : Nat → Prop} {w w0 : World} {g : Nat} {A : Option Addr} {c : Nat} {r : Rr} (h : CrIn S w g A c r) (e : Int) (p : Nat) : Upd (fun k => k = g) w ((w.setCell ⟨g, 3, none⟩ (.int .i64 e)).setCell ⟨g, 4, none⟩ (.int .i64 (p : Nat))) ∧ CrIn S ((w.setCell ⟨g, 3, none⟩ (.int .i64 e)).setCell ⟨g, 4, none⟩ (.int .i64 (p : Nat))) g A c { r with e := e, spot := p } := by
  have U : Upd (fun k => k = g) w ((w.setCell ⟨g, 3, none⟩ (.int .i64 e)).setCell ⟨g, 4, none⟩ (.int .i64 (p : Nat))) := ((Upd.refl (fun k => k = g) w).setCell (p := ⟨g, 3, none⟩) (fun _ => rfl) _).setCell (p := ⟨g, 4, none⟩) (fun _ => rfl) _
  exact ⟨U, h.go U (by simpa using (h.blk.set_ 3 (.int .i64 e)).set_ 4 (.int .i64 (p : Nat))) rfl h.at_le⟩
set_option maxRecDepth 100000 in
theorem cFail_any {S : Nat → Prop} {w : World} {g : Nat} {A : Option Addr} {c : Nat} {r : Rr} (h : CrIn S w g A c r) (e : Int) : Calls Try.prog 80 #[.pointer (some ⟨g, 0, none⟩), .int .i64 e] w fun en w' => en = .returned (.tuple #[]) ∧ Upd (fun k => k = g) w w' ∧ CrIn S w' g A c (r.fail e) := by
  have H := hid h
  have kb := h.blk
  have x0 := kb.cell 0
  have x1 := kb.cell 1
  have x2 := kb.cell 2
  have x3 := kb.cell 3
  have x4 := kb.cell 4
  simp only [List.getElem?_toArray, List.getElem?_cons_zero, List.getElem?_cons_succ] at x0 x1 x2 x3 x4
  have fz := fun q => kb.frozen q
  have hlt := kb.lt
  by_cases he : r.e = 0
  · have t1 : (r.e == 0) = true := by simpa using he
    by_cases hz : e = 0
    · have t3 : (e != 0) = false := by simpa using hz
      have hf : Hid (r.fail e = r) := hid (by unfold Rr.fail; rw [if_neg (by rintro ⟨_, h⟩; exact h hz)])
      generalize r.e = re at *
      clear h he kb hz
      go_enter Try.func80, Try.ntmps80
      go_wp2_with fail
      go_end0
      exact ⟨rfl, Upd.refl _ _, by rw [hf.out]; exact H.out⟩
    · have t3 : (e != 0) = true := by simpa using hz
      have hf : Hid (r.fail e = { r with e := e, spot := r.last }) := hid (by unfold Rr.fail; rw [if_pos ⟨he, hz⟩])
      have h2 := hid (CrIn.two (w0 := w) h e r.last)
      clear h kb hz he
      go_enter Try.func80, Try.ntmps80
      go_wp2_with fail
      go_end0
      exact ⟨rfl, h2.out.1, by rw [hf.out]; exact h2.out.2⟩
  · have t1 : (r.e == 0) = false := by simpa using he
    have hf : Hid (r.fail e = r) := hid (by unfold Rr.fail; rw [if_neg (by rintro ⟨h, _⟩; exact he h)])
    generalize r.e = re at *
    clear h he kb
    go_enter Try.func80, Try.ntmps80
    go_wp2_with fail
    go_end0
    exact ⟨rfl, Upd.refl _ _, by rw [hf.out]; exact H.out⟩
set_option maxRecDepth 100000 in
theorem cEnd_any {S : Nat → Prop} {w : World} {g : Nat} {A : Option Addr} {c : Nat} {r : Rr} (h : CrIn S w g A c r) : Calls Try.prog 51 #[.pointer (some ⟨g, 0, none⟩)] w fun en w' => en = .returned (.int .i64 r.end_.e) ∧ Upd (fun k => k = g) w w' ∧ CrIn S w' g A c r.end_ := by
  have H := hid h
  have kb := h.blk
  have x0 := kb.cell 0
  have x1 := kb.cell 1
  have x2 := kb.cell 2
  have x3 := kb.cell 3
  have x4 := kb.cell 4
  simp only [List.getElem?_toArray, List.getElem?_cons_zero, List.getElem?_cons_succ] at x0 x1 x2 x3 x4
  have fz := fun q => kb.frozen q
  have hlt := kb.lt
  by_cases he : r.e = 0
  · have t1 : (r.e == 0) = true := by simpa using he
    by_cases hat : r.at_ < r.b.length
    · have i1 : (r.at_ : Int) < (r.b.length : Int) := by omega
      have hf : Hid (r.end_ = r.fails 4) := hid (by unfold Rr.end_; rw [if_pos ⟨he, hat⟩])
      clear h he kb
      go_enter Try.func51, Try.ntmps51
      go_upto_region 3 with fail
      go_quiet (fail)
      go_upto_region 5 with fail
      have h2 := hid (CrIn.two (w0 := w) (H.out.drewN nq) 4 r.at_)
      have hu := hid (((Upd.refl (fun k => k = g) w).drewN nq).trans h2.out.1 fun _ _ h => h)
      generalize ((w.drewN nq).setCell ⟨g, 3, none⟩ (.int .i64 4)).setCell ⟨g, 4, none⟩ (.int .i64 (r.at_ : Nat)) = w2 at *
      clear x0 x1 x2 x3 x4 fz hlt
      have z3 : w2.cell? ⟨g, 3, none⟩ = some (.int .i64 4) := h2.out.2.blk.cell 3
      have hr2 := hid h2.out.2
      clear h2
      go_wp2_with fail
      go_ret
      rw [hf.out]
      exact ⟨rfl, hu.out, hr2.out⟩
    · have i1 : ¬ ((r.at_ : Int) < (r.b.length : Int)) := by omega
      have hf : Hid (r.end_ = r) := hid (by unfold Rr.end_; rw [if_neg (by rintro ⟨_, h⟩; exact hat h)])
      clear h he kb
      go_enter Try.func51, Try.ntmps51
      go_upto_region 3 with fail
      go_quiet (fail)
      go_wp2_with fail
      go_ret
      rw [hf.out]
      exact ⟨rfl, ((Upd.refl (fun k => k = g) w).drewN _), H.out.drewN _⟩
  · have t1 : (r.e == 0) = false := by simpa using he
    have hf : Hid (r.end_ = r) := hid (by unfold Rr.end_; rw [if_neg (by rintro ⟨h, _⟩; exact he h)])
    clear h he kb
    go_enter Try.func51, Try.ntmps51
    go_upto_region 3 with fail
    go_quiet (fail)
    go_wp2_with fail
    go_ret
    rw [hf.out]
    exact ⟨rfl, ((Upd.refl (fun k => k = g) w).drewN _), H.out.drewN _⟩
def Rr.why (r : Rr) : Int × Nat := if r.e = 0 then (0, 0) else (r.e, r.spot)
set_option maxRecDepth 100000 in
theorem cWhy_any {S : Nat → Prop} {w : World} {g : Nat} {A : Option Addr} {c : Nat} {r : Rr} (h : CrIn S w g A c r) : Calls Try.prog 48 #[.pointer (some ⟨g, 0, none⟩)] w fun en w' => en = .returned (.tuple #[.int .i64 r.why.1, .int .i64 (r.why.2 : Nat)]) ∧ Upd (fun k => k = g) w w' ∧ CrIn S w' g A c r := by
  have H := hid h
  have kb := h.blk
  have x0 := kb.cell 0
  have x1 := kb.cell 1
  have x2 := kb.cell 2
  have x3 := kb.cell 3
  have x4 := kb.cell 4
  simp only [List.getElem?_toArray, List.getElem?_cons_zero, List.getElem?_cons_succ] at x0 x1 x2 x3 x4
  have fz := fun q => kb.frozen q
  have hlt := kb.lt
  by_cases he : r.e = 0
  · have t1 : (r.e == 0) = true := by simpa using he
    have hf : Hid (r.why = (0, 0)) := hid (by unfold Rr.why; rw [if_pos he])
    clear h he kb
    go_enter Try.func48, Try.ntmps48
    go_wp2_with fail
    go_ret2
    rw [hf.out]
    exact ⟨rfl, Upd.refl _ _, H.out⟩
  · have t1 : (r.e == 0) = false := by simpa using he
    have hf : Hid (r.why = (r.e, r.spot)) := hid (by unfold Rr.why; rw [if_neg he])
    clear h he kb
    go_enter Try.func48, Try.ntmps48
    go_upto_region 3 with fail
    go_quiet (fail)
    go_wp2_with fail
    go_ret2
    rw [hf.out]
    exact ⟨rfl, (Upd.refl _ _).drewN _, H.out.drewN _⟩
set_option maxRecDepth 100000 in
theorem cRest_any {S : Nat → Prop} {w : World} {g : Nat} {A : Option Addr} {c : Nat} {r : Rr} (h : CrIn S w g A c r) : Calls Try.prog 46 #[.pointer (some ⟨g, 0, none⟩)] w fun en w' => en = .returned (.int .i64 (r.rest : Nat)) ∧ Upd (fun k => k = g) w w' ∧ CrIn S w' g A c r := by
  have H := hid h
  have kb := h.blk
  have x0 := kb.cell 0
  have x1 := kb.cell 1
  have x2 := kb.cell 2
  have x3 := kb.cell 3
  have x4 := kb.cell 4
  simp only [List.getElem?_toArray, List.getElem?_cons_zero, List.getElem?_cons_succ] at x0 x1 x2 x3 x4
  have fz := fun q => kb.frozen q
  have hlt := kb.lt
  by_cases he : r.e = 0
  · have t1 : (r.e != 0) = false := by simpa using he
    have hf : Hid (r.rest = r.b.length - r.at_) := hid (by unfold Rr.rest; rw [if_neg (by simp [he])])
    have f1 : IntKind.i64.wrap ((r.b.length : Int) - (r.at_ : Int)) = ((r.b.length - r.at_ : Nat) : Int) := by have := h.at_le; have := h.len; rw [IntKind.wrap_i64]; omega
    generalize hq : r.b.length - r.at_ = q at *
    clear h he kb hq
    go_enter Try.func46, Try.ntmps46
    go_upto_region 3 with fail
    go_quiet (fail)
    go_wp2_with fail
    go_ret
    rw [hf.out]
    exact ⟨rfl, (Upd.refl _ _).drewN _, H.out.drewN _⟩
  · have t1 : (r.e != 0) = true := by simpa using he
    have hf : Hid (r.rest = 0) := hid (by unfold Rr.rest; rw [if_pos he])
    clear h he kb
    go_enter Try.func46, Try.ntmps46
    go_wp2_with fail
    go_ret
    rw [hf.out]
    exact ⟨rfl, Upd.refl _ _, H.out⟩
set_option maxRecDepth 100000 in
set_option maxHeartbeats 1000000 in
theorem cNew_any (S : Nat → Prop) (A0 : Option Addr) (c0 : Nat) (bs : List Nat) (w : World) (ha : Rd S w 1 A0 bs.length (bcells bs)) (hl : bs.length ≤ 1000000) (hb : ∀ x ∈ bs, x < 256) :
    Calls Try.prog 44 #[.slice A0 bs.length c0] w fun e w' => ∃ g A c S', e = .returned (.pointer (some ⟨g, 0, none⟩)) ∧ Below w.heap.size w w' ∧ w.heap.size ≤ g ∧ (∀ k, S' k → w.heap.size ≤ k) ∧ CrIn S' w' g A c (Rr.new bs) := by
  have hcl := hid (cloneB_any S A0 bs c0 w ha (by omega))
  have hbl := hid hl
  have hbb := hid hb
  clear ha hl hb
  go_enter Try.func44, Try.ntmps44
  go_wp2_with fail
  refine hcl.out.mono ?_
  rintro e w2 ⟨v, rfl, hown0, hB20⟩
  obtain ⟨A, c, rfl, hcp0, _⟩ := own_form hown0
  have hcp : Hid (bs.length ≤ c) := hid (by omega)
  have hown2 := hid hown0
  have hB2 := hid hB20
  clear hown0 hB20 hcp0 hcl
  go_wp2_with fail
  go_ret
  have hrd := Rd.of_own hown2.out
  have hlt := fun k hk => hown2.out.lt k hk
  refine ⟨w2.heap.size, A, c, fun b => some b = (Value.slice A bs.length c).ownBlock, rfl, hB2.out.alloc hB2.out.size _, hB2.out.size, fun k hk => (hlt k hk.symm).1, ⟨Blk.new w2 111 _, hrd.alloc _, fun k hk => ?_, Nat.zero_le _, hbl.out, hbb.out, hcp.out⟩⟩
  have := (hlt k hk.symm).2
  omega

end Go.Proofs.Ytbakfkhmopebnaa

