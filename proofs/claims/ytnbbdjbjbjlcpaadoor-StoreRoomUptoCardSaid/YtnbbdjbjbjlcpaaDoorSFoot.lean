/- foot: keys and partitions, in the program and in the document. -/
import Derived.Test.YtnbbdjbjbjlcpaaDoorSPl
import Derived.Test.YtnbbdjbjbjlcpaaDoorGBase
import Derived.Test.YtnbbdjbjbjlcpaaDoorKHelp
import Derived.Test.YtnbbdjbjbjlcpaaDoorVShelf
namespace Go.Proofs.YtnbbdjbjbjlcpaaDoor
open Go.RowKit
set_option linter.unusedVariables false
set_option linter.unusedSimpArgs false

def keyBs : ByteArray := ⟨#[97, 98, 99, 100, 101, 102, 103, 104, 105, 106, 107, 108, 109, 110, 111, 112, 113, 114, 115, 116, 117, 118, 119, 120, 121, 122, 48, 49, 50, 51, 52, 53, 54, 55, 56, 57, 47, 58, 46, 95, 45]⟩
theorem keyB_all : ∀ n : Fin 256, decide (Lib.indexByte keyBs.data.toList (UInt8.ofNat n.val) < 0) = !keyB (UInt8.ofNat n.val) := by decide +kernel
theorem keyB_index (c : UInt8) : decide (Lib.indexByte keyBs.data.toList c < 0) = !keyB c := by
  have := keyB_all ⟨c.toNat, c.toNat_lt⟩
  simpa using this
theorem index_any (c : UInt8) (w : World) : Calls Tryd.prog 44 #[.string keyBs, .int .u8 (c.toNat : Nat)] w fun e w' => (∃ v : Int, e = .returned (.int .i64 v) ∧ decide (v < 0) = !keyB c) ∧ w' = w := by
  refine (strings_IndexByte keyBs (c.toNat : Nat) w).mono ?_
  rintro e w' ⟨rfl, rfl⟩
  exact ⟨⟨_, rfl, by simpa using keyB_index c⟩, rfl⟩
theorem all_at {s : ByteArray} {k : Nat} (h : k < s.size) (hb : keyB (s.data[k]'h) = false) : s.toList.all keyB = false := by
  rw [List.all_eq_false, ByteArray.toList_eq]
  exact ⟨s.data[k]'h, by rw [Array.mem_toList_iff]; exact Array.getElem_mem h, by rw [hb]; decide⟩
theorem all_all {s : ByteArray} (h : ∀ k (hk : k < s.size), keyB (s.data[k]'hk) = true) : s.toList.all keyB = true := by
  rw [List.all_eq_true, ByteArray.toList_eq]
  intro c hc
  rw [Array.mem_toList_iff] at hc
  obtain ⟨k, hk, rfl⟩ := Array.mem_iff_getElem.1 hc
  exact h k hk
theorem validK_no {s : ByteArray} (h : s.toList.all keyB = false) : validK s = false := by unfold validK; rw [h]; rfl
theorem validK_yes {s : ByteArray} (h : s.toList.all keyB = true) : validK s = (decide (1 ≤ s.size) && decide (s.size ≤ 32)) := by unfold validK; rw [h]; simp
theorem hash_at : ∀ {l : List UInt8} {h k : Nat} (hk : k < l.length), hashL h (l.take (k + 1)) = (hashL h (l.take k) ^^^ (l[k]).toNat) * 1099511628211 % 18446744073709551616 := by
  intro l
  induction l with
  | nil => intro h k hk; simp at hk
  | cons c r ih =>
    intro h k hk
    cases k with
    | zero => simp [hashL]
    | succ k =>
      simp only [List.take_succ_cons, hashL, List.getElem_cons_succ]
      exact ih (by simpa using hk)
theorem hashL_lt : ∀ (l : List UInt8) (h : Nat), h < 18446744073709551616 → hashL h l < 18446744073709551616 := by
  intro l
  induction l with
  | nil => intro h hh; exact hh
  | cons c r ih => intro h hh; exact ih _ (Nat.mod_lt _ (by decide))
theorem hash0_lt (k : ByteArray) : hash0 k < 18446744073709551616 := hashL_lt _ _ (by decide)
theorem wrap_u64_mod (n : Nat) : IntKind.u64.wrap (n : Int) = ((n % 18446744073709551616 : Nat) : Int) := by
  simp [IntKind.wrap, IntKind.bits, IntKind.signed]
theorem wrap_u64_lt {n : Nat} (h : n < 18446744073709551616) : IntKind.u64.wrap (n : Int) = (n : Int) := by
  rw [wrap_u64_mod, Nat.mod_eq_of_lt h]
theorem wrap_i64_lt {n : Nat} (h : n < 9223372036854775808) : IntKind.i64.wrap (n : Int) = (n : Int) := by
  rw [IntKind.wrap_i64]; omega
theorem bits_xor_u64 (a b : Nat) (ha : a < 18446744073709551616) (hb : b < 18446744073709551616) : bits BinOp.xor IntKind.u64 (a : Int) (b : Int) = ((a ^^^ b : Nat) : Int) := by
  have hx : a ^^^ b < 2 ^ 64 := Nat.xor_lt_two_pow (by omega) (by omega)
  have h1 : (BitVec.ofInt 64 (a : Int)).toNat = a := by
    rw [BitVec.ofInt_natCast, BitVec.toNat_ofNat]; exact Nat.mod_eq_of_lt (by omega)
  have h2 : (BitVec.ofInt 64 (b : Int)).toNat = b := by
    rw [BitVec.ofInt_natCast, BitVec.toNat_ofNat]; exact Nat.mod_eq_of_lt (by omega)
  show IntKind.u64.wrap ((BitVec.ofInt 64 (a : Int) ^^^ BitVec.ofInt 64 (b : Int)).toNat : Int) = _
  rw [BitVec.toNat_xor, h1, h2, IntKind.wrap_u64]
  omega
set_option maxRecDepth 100000 in
set_option maxHeartbeats 1000000 in
theorem validk_any (s : ByteArray) (w : World) (hs : s.size ≤ 9223372036854775806) : Calls Tryd.prog 31 #[.string s] w fun e w' => e = .returned (.bool (validK s)) ∧ w' = w := by
  go_enter Tryd.func31, Tryd.ntmps31
  go_wp2_with fail
  go_loopw [6] (fun v wr => ∃ k : Nat, v = .int .i64 k ∧ k ≤ s.size ∧ wr = w ∧ ∀ j (hj : j < s.size), j < k → keyB (s.data[j]'hj) = true) (fun v _ => s.size - (intOf v).toNat)
  case atStart => exact ⟨0, rfl, Nat.zero_le _, rfl, fun j _ h => by omega⟩
  case round =>
    obtain ⟨k, rfl, hk, rfl, ha0⟩ := hrel
    have ha := hid ha0
    clear ha0
    by_cases hlt : k < s.size
    · have i1 : (k : Int) < (s.size : Int) := by omega
      have hs9 : (s.size : Int) ≤ 9223372036854775806 := by omega
      cases hc0 : keyB (s.data[k]'hlt) with
      | true =>
        have hc := hid hc0
        have hi0 := index_any (s[k]'hlt) wr
        rw [show keyB (s[k]'hlt) = true from hc0] at hi0
        have hi := hid hi0
        clear hc0 hi0
        go_wp2_with fail
        refine hi.out.mono ?_
        rintro e w2 ⟨⟨v, rfl, hv⟩, rfl⟩
        simp only [Bool.not_true] at hv
        go_wp2_with fail
        go_roundw
        case rel => exact ⟨k + 1, by go_num, hlt, by first | rfl | trivial, fun j hj hjk => by
          by_cases e : j = k
          · subst e; exact hc.out
          · exact ha.out j hj (by omega)⟩
        case measure => simp [intOf]; omega
      | false =>
        have hfin : Hid (validK s = false) := hid (validK_no (all_at hlt hc0))
        have hi0 := index_any (s[k]'hlt) wr
        rw [show keyB (s[k]'hlt) = false from hc0] at hi0
        have hi := hid hi0
        clear hc0 hi0
        go_wp2_with fail
        refine hi.out.mono ?_
        rintro e w2 ⟨⟨v, rfl, hv⟩, rfl⟩
        simp only [Bool.not_false] at hv
        go_wp2_with fail
        go_ret
        exact ⟨by rw [hfin.out]; rfl, by first | rfl | trivial⟩
    · obtain rfl : k = s.size := by omega
      have hfin : Hid (validK s = (decide (1 ≤ s.size) && decide (s.size ≤ 32))) := hid (validK_yes (all_all fun j hj => ha.out j hj hj))
      by_cases h1 : 1 ≤ s.size
      · have t1 : decide ((1 : Int) ≤ (s.size : Int)) = true := decide_eq_true (by omega)
        have hd : Hid ((decide (1 ≤ s.size) && decide (s.size ≤ 32)) = decide ((s.size : Int) ≤ 32)) := hid (by rw [decide_eq_true h1, Bool.true_and]; exact decide_eq_decide.2 (by omega))
        clear h1
        go_wp2_with fail
        go_ret
        exact ⟨by rw [hfin.out, hd.out]; first | rfl | simp, by first | rfl | trivial⟩
      · have t1 : decide ((1 : Int) ≤ (s.size : Int)) = false := decide_eq_false (by omega)
        have hd : Hid ((decide (1 ≤ s.size) && decide (s.size ≤ 32)) = false) := hid (by rw [decide_eq_false h1, Bool.false_and])
        clear h1
        go_wp2_with fail
        go_ret
        exact ⟨by rw [hfin.out, hd.out]; first | rfl | simp, by first | rfl | trivial⟩
set_option maxRecDepth 100000 in
theorem hash_any (s : ByteArray) (w : World) (hs : s.size ≤ 9223372036854775806) : Calls Tryd.prog 45 #[.string s] w fun e w' => e = .returned (.int .u64 (hash0 s : Nat)) ∧ w' = w := by
  go_enter Tryd.func45, Tryd.ntmps45
  go_wp2_with fail
  go_loopw [3, 7] (fun u v wr => ∃ (k h : Nat), v = .int .i64 k ∧ u = .int .u64 h ∧ k ≤ s.size ∧ wr = w ∧ h = hashL 14695981039346656037 (s.toList.take k)) (fun u v _ => s.size - (intOf v).toNat)
  case atStart => exact ⟨0, _, rfl, rfl, Nat.zero_le _, rfl, rfl⟩
  case round =>
    obtain ⟨k, h, rfl, rfl, hk, rfl, hh0⟩ := hrel
    have hl : h < 18446744073709551616 := by rw [hh0]; exact hashL_lt _ _ (by decide)
    have hh := hid hh0
    clear hh0
    by_cases hlt : k < s.size
    · have i1 : (k : Int) < (s.size : Int) := by omega
      have hs9 : (s.size : Int) ≤ 9223372036854775806 := by omega
      have hcl : (s[k]'hlt).toNat < 256 := (s[k]'hlt).toNat_lt
      have c1 : IntKind.u64.wrap (((s[k]'hlt).toNat : Nat) : Int) = (((s[k]'hlt).toNat : Nat) : Int) := wrap_u64_lt (by omega)
      have c2 : bits BinOp.xor IntKind.u64 (h : Int) (((s[k]'hlt).toNat : Nat) : Int) = ((h ^^^ (s[k]'hlt).toNat : Nat) : Int) := bits_xor_u64 _ _ hl (by omega)
      have c3 : IntKind.u64.wrap (((h ^^^ (s[k]'hlt).toNat : Nat) : Int) * 1099511628211) = (((h ^^^ (s[k]'hlt).toNat) * 1099511628211 % 18446744073709551616 : Nat) : Int) := wrap_u64_mod ((h ^^^ (s[k]'hlt).toNat) * 1099511628211)
      clear hl hcl
      go_wp2_with fail
      go_roundw
      case rel =>
        refine ⟨k + 1, _, by go_num, rfl, hlt, by first | rfl | trivial, ?_⟩
        have hlt2 : k < s.toList.length := by rw [ByteArray.toList_eq]; simpa using hlt
        rw [hash_at hlt2, ← hh.out]
        congr 3
        simp [ByteArray.toList_eq]
        rfl
      case measure => simp [intOf]; omega
    · obtain rfl : k = s.size := by omega
      have hfin : Hid (h = hash0 s) := hid (by
        rw [hh.out, List.take_of_length_le (by rw [ByteArray.toList_eq]; simp)]; rfl)
      go_wp2_with fail
      go_ret
      exact ⟨by rw [hfin.out]; rfl, by first | rfl | trivial⟩
set_option maxRecDepth 100000 in
theorem rhash_any (s : ByteArray) (w : World) (hs : s.size ≤ 9223372036854775806) : Calls Tryd.prog 35 #[.string s] w fun e w' => e = .returned (.int .u64 (hash0 s : Nat)) ∧ w' = w := by
  go_enter Tryd.func35, Tryd.ntmps35
  go_wp2_with fail
  go_loopw [3, 4] (fun u v wr => ∃ (k h : Nat), v = .int .i64 k ∧ u = .int .u64 h ∧ k ≤ s.size ∧ wr = w ∧ h = hashL 14695981039346656037 (s.toList.take k)) (fun u v _ => s.size - (intOf v).toNat)
  case atStart => exact ⟨0, _, rfl, rfl, Nat.zero_le _, rfl, rfl⟩
  case round =>
    obtain ⟨k, h, rfl, rfl, hk, rfl, hh0⟩ := hrel
    have hl : h < 18446744073709551616 := by rw [hh0]; exact hashL_lt _ _ (by decide)
    have hh := hid hh0
    clear hh0
    by_cases hlt : k < s.size
    · have i1 : (k : Int) < (s.size : Int) := by omega
      have hs9 : (s.size : Int) ≤ 9223372036854775806 := by omega
      have hcl : (s[k]'hlt).toNat < 256 := (s[k]'hlt).toNat_lt
      have c1 : IntKind.u64.wrap (((s[k]'hlt).toNat : Nat) : Int) = (((s[k]'hlt).toNat : Nat) : Int) := wrap_u64_lt (by omega)
      have c2 : bits BinOp.xor IntKind.u64 (h : Int) (((s[k]'hlt).toNat : Nat) : Int) = ((h ^^^ (s[k]'hlt).toNat : Nat) : Int) := bits_xor_u64 _ _ hl (by omega)
      have c3 : IntKind.u64.wrap (((h ^^^ (s[k]'hlt).toNat : Nat) : Int) * 1099511628211) = (((h ^^^ (s[k]'hlt).toNat) * 1099511628211 % 18446744073709551616 : Nat) : Int) := wrap_u64_mod ((h ^^^ (s[k]'hlt).toNat) * 1099511628211)
      clear hl hcl
      go_wp2_with fail
      go_roundw
      case rel =>
        refine ⟨k + 1, _, by go_num, rfl, hlt, by first | rfl | trivial, ?_⟩
        have hlt2 : k < s.toList.length := by rw [ByteArray.toList_eq]; simpa using hlt
        rw [hash_at hlt2, ← hh.out]
        congr 3
        simp [ByteArray.toList_eq]
        rfl
      case measure => simp [intOf]; omega
    · obtain rfl : k = s.size := by omega
      have hfin : Hid (h = hash0 s) := hid (by
        rw [hh.out, List.take_of_length_le (by rw [ByteArray.toList_eq]; simp)]; rfl)
      go_wp2_with fail
      go_ret
      exact ⟨by rw [hfin.out]; rfl, by first | rfl | trivial⟩
theorem part_any (k : ByteArray) (n : Nat) (w : World) (hk : k.size ≤ 9223372036854775806) (h1 : 1 ≤ n) (h64 : n ≤ 64) : Calls Tryd.prog 32 #[.string k, .int .i64 n] w fun e w' => e = .returned (.int .i64 (partK n k : Nat)) ∧ w' = w := by
  have hh := hid (hash_any k w hk)
  have t1 : decide ((n : Int) < 1) = false := decide_eq_false (by omega)
  have c1 : IntKind.u64.wrap (n : Int) = (n : Int) := wrap_u64_lt (by omega)
  have t2 : ((n : Int) == 0) = false := beq_eq_false_iff_ne.2 (by omega)
  have c2 : ((hash0 k : Nat) : Int).tmod (n : Int) = ((hash0 k % n : Nat) : Int) := by rw [Int.tmod_eq_emod_of_nonneg (by omega)]; rfl
  have hlt : hash0 k % n < n := Nat.mod_lt _ h1
  have c3 : IntKind.u64.wrap ((hash0 k % n : Nat) : Int) = ((hash0 k % n : Nat) : Int) := wrap_u64_lt (by omega)
  have c4 : IntKind.i64.wrap ((hash0 k % n : Nat) : Int) = ((hash0 k % n : Nat) : Int) := wrap_i64_lt (by omega)
  have hp : Hid (partK n k = hash0 k % n) := hid rfl
  have hn0 : ¬ (n : Int) = 0 := by omega
  generalize hash0 k % n = q at *
  clear hlt h1 h64
  go_enter Tryd.func32, Tryd.ntmps32
  go_wp2_with fail
  refine hh.out.mono ?_
  rintro e w2 ⟨rfl, rfl⟩
  go_wp2_with fail
  go_ret
  exact ⟨by rw [hp.out]; rfl, rfl⟩
theorem rpart_any (k : ByteArray) (n : Nat) (w : World) (hk : k.size ≤ 9223372036854775806) (h1 : 1 ≤ n) (h64 : n ≤ 64) : Calls Tryd.prog 15 #[.string k, .int .i64 n] w fun e w' => e = .returned (.int .i64 (partK n k : Nat)) ∧ w' = w := by
  have hh := hid (rhash_any k w hk)
  have t1 : decide ((n : Int) < 1) = false := decide_eq_false (by omega)
  have c1 : IntKind.u64.wrap (n : Int) = (n : Int) := wrap_u64_lt (by omega)
  have t2 : ((n : Int) == 0) = false := beq_eq_false_iff_ne.2 (by omega)
  have c2 : ((hash0 k : Nat) : Int).tmod (n : Int) = ((hash0 k % n : Nat) : Int) := by rw [Int.tmod_eq_emod_of_nonneg (by omega)]; rfl
  have hlt : hash0 k % n < n := Nat.mod_lt _ h1
  have c3 : IntKind.u64.wrap ((hash0 k % n : Nat) : Int) = ((hash0 k % n : Nat) : Int) := wrap_u64_lt (by omega)
  have c4 : IntKind.i64.wrap ((hash0 k % n : Nat) : Int) = ((hash0 k % n : Nat) : Int) := wrap_i64_lt (by omega)
  have hp : Hid (partK n k = hash0 k % n) := hid rfl
  have hn0 : ¬ (n : Int) = 0 := by omega
  generalize hash0 k % n = q at *
  clear hlt h1 h64
  go_enter Tryd.func15, Tryd.ntmps15
  go_wp2_with fail
  refine hh.out.mono ?_
  rintro e w2 ⟨rfl, rfl⟩
  go_wp2_with fail
  go_ret
  exact ⟨by rw [hp.out]; rfl, rfl⟩
end Go.Proofs.YtnbbdjbjbjlcpaaDoor
