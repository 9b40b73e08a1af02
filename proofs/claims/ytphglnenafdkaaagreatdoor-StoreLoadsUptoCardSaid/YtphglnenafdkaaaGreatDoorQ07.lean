/- Texts of the proof, joined: STurnQ, KPut, KPut2, KRRd, KRRd2, KRNew, KRNum, KNum, KRUint, KTk, KRText, VHelp, VNone, PShelf, LShelf, VEnv, VNum, VText. -/
import Derived.Test.YtphglnenafdkaaaGreatDoorQ06
import Derived.Test.YtphglnenafdkaaaGreatDoorQ05
import Derived.Laws.MakeOwn
import Derived.Laws.OwnMore
import Derived.Laws.Bits64
import Derived.Lib.AppendStr
import Derived.Laws.Rows
import Derived.Laws.BytesArg
import Derived.Test.YtphglnenafdkaaaGreatDoorQ03
import Derived.Shelf.Small.Bits
import Derived.Shelf.Small.Strs
import Derived.Shelf.Strconv.Itoa0
import Derived.Shelf.Strconv.Itoa1
import Derived.Shelf.LaysM
import Derived.Shelf.Strconv.Itoa2
import Derived.Shelf.Strconv.Itoa3
import Derived.Shelf.Strconv.Itoa4
import Derived.Shelf.Bytes.Len
import Derived.Shelf.Bytes.TryGrow
import Derived.Shelf.Bytes.GrowSliceCatch
import Derived.Shelf.Bytes.GrowSlice
import Derived.Shelf.Bytes.Bytes
import Derived.Shelf.Strconv.ParseIntEmpty
import Derived.Shelf.Strconv.Clone
import Derived.Shelf.Strconv.Lower
import Derived.Shelf.Strconv.ParseUint10Empty
import Derived.Shelf.Strconv.ParseUintEmpty
import Derived.Shelf.Strings.Search1
import Derived.Shelf.Bytes.GrowRow0Kept
import Derived.Shelf.Strings.Search2
import Derived.Shelf.Bytes.GrowRowKept
import Derived.Shelf.Strings.Search3
import Derived.Shelf.Bytes.GrowNilKept
import Derived.Shelf.Strings.Cut
import Derived.Shelf.Bytes.GrowKept
import Derived.Shelf.Strings.Count
import Derived.Shelf.Strings.Shaped
import Derived.Shelf.Bytes.WriteStringKept
import Derived.Shelf.Sort.Plain
import Derived.Shelf.Bytes.ResetKept
import Derived.Shelf.Bytes.BufferK
import Derived.Shelf.Unicode.DecodeSlow
import Derived.Shelf.Slices.In.SortNone
import Derived.Ground.SlgfProg
import Derived.Shelf.SlicesE.IndexFunc
import Derived.Test.YtphglnenafdkaaaGreatDoorProg
import Derived.Shelf.Utf8.RuneCount
import Derived.Shelf.Strconv.SyntaxError
import Derived.Shelf.LaysC
import Derived.Shelf.Strconv.ToError
import Derived.Shelf.Strconv.ParseUint10
import Derived.Shelf.Strconv.ParseUint10Any
import Derived.Shelf.Strconv.ParseInt10
import Derived.Shelf.Strconv.RangeError
import Derived.Shelf.Strconv.ToErrorRange
import Derived.Shelf.Strconv.ParseUint10b64
import Derived.Shelf.Strconv.ParseUint10b32
import Derived.Shelf.Strconv.ParseUint10b16
import Derived.Shelf.Strconv.ParseUint10b8
import Derived.Shelf.Strconv.ParseUint10At
import Derived.Shelf.Strconv.ParseInt10At64
import Derived.Shelf.Strconv.ParseInt10At32
import Derived.Shelf.Strconv.ParseInt10At16
import Derived.Shelf.Strconv.ParseInt10At8
import Derived.Shelf.Strconv.ParseInt10All
import Derived.Shelf.Strconv.ParseIntPublic10
import Derived.Shelf.Strconv.ErrVarParseInt
import Derived.Shelf.Strings.Split
import Derived.Shelf.Strings.SplitShaped
import Derived.Shelf.Unicode.Decode
import Derived.Shelf.Strings.RuneCount
import Derived.Shelf.Strings.Explode
import Derived.Shelf.Unicode.DecodeAny
import Derived.WalkSmall
import Derived.Lib.AtoiErrMem
namespace Go.Proofs.YtphglnenafdkaaaGreatDoor
open Go.RowKit
set_option linter.unusedVariables false
set_option linter.unusedSimpArgs false

theorem upAll_out : ∀ {ws : List Wr} {L : List Kv} {j : ByteArray}, (∀ x ∈ ws, x.key ≠ j) → valK j (upAll L ws) = valK j L
  | [], _, _, _ => rfl
  | x :: ws, L, j, h => by
    show valK j (upAll (upK x.key x.v L) ws) = _
    rw [upAll_out (fun y hy => h y (List.mem_cons_of_mem _ hy)), valK_up, if_neg fun e => h x (List.mem_cons_self ..) e.1]
theorem upAll_in : ∀ {ws : List Wr} {L : List Kv} {x : Wr}, (ws.map (·.key)).Nodup → x ∈ ws → hasK x.key L = true → valK x.key (upAll L ws) = x.v
  | y :: ws, L, x, hn, hx, hk => by
    have hn' := List.nodup_cons.1 hn
    show valK x.key (upAll (upK y.key y.v L) ws) = _
    rcases List.mem_cons.1 hx with rfl | hx
    · rw [upAll_out (fun z hz e => hn'.1 (List.mem_map.2 ⟨z, hz, e⟩)), valK_up, if_pos ⟨rfl, hk⟩]
    · exact upAll_in hn'.2 hx (by rw [hasK_up]; exact hk)
/-- writes of unlike keys in whatever order -/
theorem upAll_order {L : List Kv} (h : Asc L) {ws js : List Wr} (hn : (ws.map (·.key)).Nodup) (hm : (js.map (·.key)).Nodup) (he : ∀ x, x ∈ ws ↔ x ∈ js) (hk : ∀ x ∈ ws, hasK x.key L = true) : upAll L ws = upAll L js := by
  have ha : ∀ l, Asc (upAll L l) := fun l => asc_keys upAll_keys h
  refine asc_ext (ha _) (ha _) (fun k => by rw [upAll_has, upAll_has]) fun k => ?_
  by_cases hx : ∃ x ∈ ws, x.key = k
  · obtain ⟨x, hx, rfl⟩ := hx
    rw [upAll_in hn hx (hk x hx), upAll_in hm ((he x).1 hx) (hk x hx)]
  · rw [upAll_out (fun x h1 h2 => hx ⟨x, h1, h2⟩), upAll_out (fun x h1 h2 => hx ⟨x, (he x).2 h1, h2⟩)]
/-- each of writes that may all be applied may be by itself, some of them having come -/
theorem apply_one {s : St} {ws js : List Wr} {x : Wr} (h : applyE s ws = 0) (hx : x ∈ ws) : applyE { s with L := upAll s.L js } [x] = 0 := by
  have hz : ∀ j, j < ws.length → wrE s ws j = 0 := fun j hj => (scan_zero _ _ _).1 h j (Nat.zero_le _) (by omega)
  obtain ⟨j, hj, e⟩ := List.mem_iff_getElem.1 hx
  have h1 := hz j hj
  rw [wrE_at (x := x) (y := ws.getD (j - 1) wr0) (by simp [List.getD_eq_getElem?_getD, hj, e]) rfl] at h1
  refine applyE_zero fun k hk => ?_
  have hk0 : k = 0 := by simp at hk; omega
  subst hk0
  rw [wrE_at (x := x) (y := x) rfl rfl]
  simp only [upAll_has]
  split at h1
  · cases h1
  · rename_i g1
    split at h1
    · cases h1
    · split at h1
      · cases h1
      · rename_i g3
        split at h1
        · cases h1
        · rename_i g4
          split at h1
          · cases h1
          · rename_i g5
            rw [if_neg g1, if_neg (by simp), if_neg g3, if_neg g4, if_neg g5]
theorem apply_keys {s : St} {ws : List Wr} (h : applyE s ws = 0) : (ws.map (·.key)).Nodup ∧ ∀ x ∈ ws, hasK x.key s.L = true := by
  have hz : ∀ j, j < ws.length → wrE s ws j = 0 := fun j hj => (scan_zero _ _ _).1 h j (Nat.zero_le _) (by omega)
  have hc : ∀ j (hj : j < ws.length), hasK ws[j].key s.L = true ∧ (0 < j → ltB (ws.getD (j - 1) wr0).key ws[j].key = true) := fun j hj => by
    have h1 := hz j hj
    rw [wrE_at (x := ws[j]) (y := ws.getD (j - 1) wr0) (by simp [List.getD_eq_getElem?_getD, hj]) rfl] at h1
    split at h1
    · cases h1
    · split at h1
      · cases h1
      · rename_i g2
        split at h1
        · cases h1
        · rename_i g3
          refine ⟨by simpa using g3, fun h0 => ?_⟩
          cases e : ltB (ws.getD (j - 1) wr0).key ws[j].key with
          | true => rfl
          | false => exact absurd ⟨h0, e⟩ g2
  have hlt : ∀ i j (hj : j < ws.length) (hij : i < j), ltB (ws[i]'(by omega)).key ws[j].key = true := by
    intro i j
    induction j with
    | zero => intro hj hij; omega
    | succ j ih =>
      intro hj hij
      have h1 := (hc (j + 1) hj).2 (by omega)
      have e : ws.getD (j + 1 - 1) wr0 = ws[j]'(by omega) := by simp [List.getD_eq_getElem?_getD, show j < ws.length by omega]
      rw [e] at h1
      rcases Nat.lt_or_ge i j with h2 | h2
      · exact ltB_trans (ih (by omega) h2) h1
      · obtain rfl : i = j := by omega
        exact h1
  refine ⟨?_, fun x hx => ?_⟩
  · rw [List.nodup_iff_pairwise_ne, List.pairwise_map, List.pairwise_iff_getElem]
    intro i j hi hj hij
    exact ltB_ne (hlt i j hj hij)
  · obtain ⟨j, hj, rfl⟩ := List.mem_iff_getElem.1 hx
    exact (hc j hj).1
end Go.Proofs.YtphglnenafdkaaaGreatDoor

namespace Go.Proofs.YtphglnenafdkaaaGreatDoor
open Go.RowKit
set_option linter.unusedVariables false
set_option linter.unusedSimpArgs false

def bcells (l : List Nat) : List Value := l.map fun c => .int .u8 (c : Nat)
theorem bcells_snoc (l : List Nat) (c : Nat) : bcells (l ++ [c]) = bcells l ++ [.int .u8 (c : Nat)] := by unfold bcells; rw [List.map_append]; rfl
theorem bcells_one (l : List Nat) : ∀ u ∈ bcells l, u.oneCell' = true := fun u hu => by obtain ⟨c, _, rfl⟩ := List.mem_map.1 hu; rfl
theorem info_u8 : (Tryz.prog.info? 5).map (fun i => (i.zero, i.size, i.bytes)) = some (some (.int .u8 0), 1, 1) := by kernel_rfl
theorem u8_or (m : Nat) : bits BinOp.or IntKind.u8 (((m % 256 : Nat)) : Int) 128 = ((m % 128 + 128 : Nat) : Int) := by
  have h : ∀ x : Fin 256, bits BinOp.or IntKind.u8 ((x.val : Nat) : Int) 128 = ((x.val % 128 + 128 : Nat) : Int) := by decide +kernel
  have := h ⟨m % 256, by omega⟩
  simp only at this
  rw [this]
  congr 2
  omega
theorem u8_wrap (m : Nat) : IntKind.u8.wrap (m : Int) = ((m % 256 : Nat) : Int) := by
  simp [IntKind.wrap, IntKind.bits, IntKind.signed]
def natOf : Value → Nat
  | .int _ n => n.toNat
  | _ => 0
end Go.Proofs.YtphglnenafdkaaaGreatDoor

namespace Go.Proofs.YtphglnenafdkaaaGreatDoor
open Go.RowKit
set_option linter.unusedVariables false
set_option linter.unusedSimpArgs false

theorem xor_ones (a : Nat) (h : a < 18446744073709551616) : a ^^^ 18446744073709551615 = 18446744073709551615 - a := by
  have h1 := congrArg BitVec.toNat (BitVec.xor_allOnes (x := BitVec.ofNat 64 a))
  rw [BitVec.toNat_xor, BitVec.toNat_not, BitVec.toNat_ofNat, BitVec.toNat_allOnes, Nat.mod_eq_of_lt (by omega)] at h1
  exact h1
theorem bcells_append (a b : List Nat) : bcells (a ++ b) = bcells a ++ bcells b := by unfold bcells; rw [List.map_append]
theorem strCells_tb (s : ByteArray) : Lib.strCells s = bcells (tb s) := by unfold Lib.strCells bcells tb; rw [List.map_map]; rfl
end Go.Proofs.YtphglnenafdkaaaGreatDoor

namespace Go.Proofs.YtphglnenafdkaaaGreatDoor
open Go.RowKit
set_option linter.unusedVariables false
set_option linter.unusedSimpArgs false

def rcell (A : Option Addr) (c : Nat) (r : Rr) : Array Value := #[.slice A r.b.length c, .int .i64 (r.at_ : Nat), .int .i64 (r.last : Nat), .int .i64 r.e, .int .i64 (r.spot : Nat)]
structure RrOf (T : TypeId) (S : Nat → Prop) (w : World) (g : Nat) (A : Option Addr) (c : Nat) (r : Rr) : Prop where
  blk : Blk w g T #[.slice A r.b.length c, .int .i64 (r.at_ : Nat), .int .i64 (r.last : Nat), .int .i64 r.e, .int .i64 (r.spot : Nat)]
  row : Rd S w 1 A r.b.length (bcells r.b)
  ne : ∀ k, S k → k ≠ g
  at_le : r.at_ ≤ r.b.length
  len : r.b.length ≤ 140737488351232
  byt : ∀ x ∈ r.b, x < 256
  cap : r.b.length ≤ c
theorem bcells_at {l : List Nat} {k : Nat} (h : k < l.length) : (bcells l)[k]? = some (.int .u8 (l[k] : Nat)) := by unfold bcells; rw [List.getElem?_map, List.getElem?_eq_getElem h]; rfl
theorem RrOf.drewN {T : TypeId} {S : Nat → Prop} {w : World} {g : Nat} {A : Option Addr} {c : Nat} {r : Rr} (h : RrOf T S w g A c r) (n : Nat) : RrOf T S (w.drewN n) g A c r := ⟨h.blk.drewN n, h.row.drewN n, h.ne, h.at_le, h.len, h.byt, h.cap⟩
theorem RrOf.go {T : TypeId} {S : Nat → Prop} {w w' : World} {g : Nat} {A : Option Addr} {c : Nat} {r r' : Rr} (h : RrOf T S w g A c r) (hu : Upd (fun k => k = g) w w') (hb : Blk w' g T #[.slice A r.b.length c, .int .i64 (r'.at_ : Nat), .int .i64 (r'.last : Nat), .int .i64 r'.e, .int .i64 (r'.spot : Nat)]) (hbb : r'.b = r.b) (ha : r'.at_ ≤ r.b.length) : RrOf T S w' g A c r' :=
  ⟨by rw [hbb]; exact hb, by rw [hbb]; exact h.row.upd hu fun b hb => h.ne b hb, h.ne, by rw [hbb]; exact ha, by rw [hbb]; exact h.len, by rw [hbb]; exact h.byt, by rw [hbb]; exact h.cap⟩
theorem RrOf.upd {T : TypeId} {S : Nat → Prop} {w w' : World} {g : Nat} {A : Option Addr} {c : Nat} {r : Rr} (h : RrOf T S w g A c r) {M : Nat → Prop} (hu : Upd M w w') (hg : ¬ M g) (hS : ∀ b, S b → ¬ M b) : RrOf T S w' g A c r :=
  ⟨h.blk.upd hu hg, h.row.upd hu hS, h.ne, h.at_le, h.len, h.byt, h.cap⟩
end Go.Proofs.YtphglnenafdkaaaGreatDoor

namespace Go.Proofs.YtphglnenafdkaaaGreatDoor
open Go.RowKit
set_option linter.unusedVariables false
set_option linter.unusedSimpArgs false

end Go.Proofs.YtphglnenafdkaaaGreatDoor

namespace Go.Proofs.YtphglnenafdkaaaGreatDoor
open Go.RowKit
set_option linter.unusedVariables false
set_option linter.unusedSimpArgs false

end Go.Proofs.YtphglnenafdkaaaGreatDoor

namespace Go.Proofs.YtphglnenafdkaaaGreatDoor
open Go.RowKit
set_option linter.unusedVariables false
set_option linter.unusedSimpArgs false

def numV : (Nat × Nat) ⊕ Int → Value
  | .inl (n, k) => .tuple #[.int .u64 (n : Nat), .int .i64 (k : Nat), .int .i64 0]
  | .inr e => .tuple #[.int .u64 0, .int .i64 0, .int .i64 e]
theorem shl7 (i : Nat) : (2 : Int) ^ (7 * i) = ((128 ^ i : Nat) : Int) := by
  rw [show (128 : Nat) ^ i = 2 ^ (7 * i) from by rw [Nat.pow_mul]]
  exact (Int.natCast_pow 2 (7 * i)).symm
theorem sum_any (i acc c Q : Nat) (hQ : Q = acc + c % 128 * 128 ^ i) (hb : Q < 18446744073709551616) : IntKind.u64.wrap ((acc : Int) + IntKind.u64.wrap ((c : Int) % 128 * 2 ^ (7 * i))) = (Q : Int) := by
  have e : (c : Int) % 128 * ((128 ^ i : Nat) : Int) = ((c % 128 * 128 ^ i : Nat) : Int) := by rw [Int.natCast_mul]; rfl
  rw [shl7, e, IntKind.wrap_u64, IntKind.wrap_u64]
  generalize c % 128 * 128 ^ i = X at *
  omega
theorem num_step {l : List Nat} {i acc c : Nat} (hi : i < 10) (hc : l[i]? = some c) : numF l 0 (10 - i) i acc = if i = 9 ∧ 1 < c then .inr 11 else if c < 128 then (if 0 < i ∧ c = 0 then .inr 10 else .inl (acc + c * 128 ^ i, i + 1)) else numF l 0 (10 - (i + 1)) (i + 1) (acc + c % 128 * 128 ^ i) := by
  rw [show 10 - i = (10 - (i + 1)) + 1 by omega, numF, Nat.zero_add, hc]
theorem acc_lt {i acc c : Nat} (hi : i < 9) (ha : acc < 128 ^ i) : acc + c % 128 * 128 ^ i < 128 ^ (i + 1) ∧ acc + c % 128 * 128 ^ i < 18446744073709551616 := by
  have h1 : c % 128 * 128 ^ i ≤ 127 * 128 ^ i := Nat.mul_le_mul_right _ (by omega)
  have h2 : acc + c % 128 * 128 ^ i < 128 ^ (i + 1) := by rw [Nat.pow_succ]; omega
  have h3 : 128 ^ (i + 1) ≤ 128 ^ 9 := Nat.pow_le_pow_right (by omega) (by omega)
  have h4 : 128 ^ 9 < 18446744073709551616 := by decide
  exact ⟨h2, by omega⟩
end Go.Proofs.YtphglnenafdkaaaGreatDoor

namespace Go.Proofs.YtphglnenafdkaaaGreatDoor
set_option linter.unusedVariables false
set_option linter.unusedSimpArgs false

theorem numF_drop (b : List Nat) (at_ : Nat) : ∀ (k i acc : Nat), numF b at_ k i acc = numF (b.drop at_) 0 k i acc := by
  intro k
  induction k with
  | zero => intro i acc; rfl
  | succ k ih =>
    intro i acc
    unfold numF
    rw [List.getElem?_drop, Nat.zero_add]
    cases h : b[at_ + i]? with
    | none => rfl
    | some c => simp only [ih]
theorem num_drop (b : List Nat) (at_ : Nat) : num b at_ = num (b.drop at_) 0 := numF_drop b at_ 10 0 0
theorem numF_lt (b : List Nat) (at_ : Nat) : ∀ (k i acc n m : Nat), i + k = 10 → acc < 128 ^ i → numF b at_ k i acc = .inl (n, m) → n < 18446744073709551616 ∧ m ≤ 10 ∧ at_ + m ≤ b.length := by
  intro k
  induction k with
  | zero => intro i acc n m _ _ h; simp [numF] at h
  | succ k ih =>
    intro i acc n m hi ha h
    unfold numF at h
    cases hb : b[at_ + i]? with
    | none => rw [hb] at h; cases h
    | some c =>
      rw [hb] at h
      simp only at h
      have hlt := (List.getElem?_eq_some_iff.1 hb).1
      by_cases h9 : i = 9 ∧ 1 < c
      · rw [if_pos h9] at h; cases h
      rw [if_neg h9] at h
      by_cases h8 : c < 128
      · rw [if_pos h8] at h
        by_cases hz : 0 < i ∧ c = 0
        · rw [if_pos hz] at h; cases h
        rw [if_neg hz] at h
        simp only [Sum.inl.injEq, Prod.mk.injEq] at h
        obtain ⟨rfl, rfl⟩ := h
        refine ⟨?_, by omega, by omega⟩
        by_cases hi9 : i = 9
        · subst hi9
          have h3 : c * 128 ^ 9 ≤ 1 * 128 ^ 9 := Nat.mul_le_mul_right _ (by omega)
          have h4 : 128 ^ 9 * 2 = 18446744073709551616 := by decide
          omega
        · have h1 : c * 128 ^ i ≤ 127 * 128 ^ i := Nat.mul_le_mul_right _ (by omega)
          have h2 : acc + c * 128 ^ i < 128 ^ (i + 1) := by rw [Nat.pow_succ]; omega
          have h3 : 128 ^ (i + 1) ≤ 128 ^ 9 := Nat.pow_le_pow_right (by omega) (by omega)
          have h4 : 128 ^ 9 < 18446744073709551616 := by decide
          omega
      · rw [if_neg h8] at h
        refine ih (i + 1) _ n m (by omega) ?_ h
        have h1 : c % 128 * 128 ^ i ≤ 127 * 128 ^ i := Nat.mul_le_mul_right _ (by omega)
        rw [Nat.pow_succ]; omega
theorem num_lt {b : List Nat} {at_ n m : Nat} (h : num b at_ = .inl (n, m)) : n < 18446744073709551616 ∧ m ≤ 10 ∧ at_ + m ≤ b.length := numF_lt b at_ 10 0 0 n m rfl (by decide) h
end Go.Proofs.YtphglnenafdkaaaGreatDoor

namespace Go.Proofs.YtphglnenafdkaaaGreatDoor
open Go.RowKit
set_option linter.unusedVariables false
set_option linter.unusedSimpArgs false

theorem bcells_drop (l : List Nat) (k : Nat) : bcells (l.drop k) = (bcells l).drop k := by unfold bcells; rw [List.map_drop]
theorem RrOf.below_all {T : TypeId} {S : Nat → Prop} {w w' : World} {g : Nat} {A : Option Addr} {c : Nat} {r : Rr} (h : RrOf T S w g A c r) (hb : Below w.heap.size w w') : RrOf T S w' g A c r := ⟨h.blk.below_all hb, h.row.below_all hb, h.ne, h.at_le, h.len, h.byt, h.cap⟩
theorem numF_ne (b : List Nat) (at_ : Nat) : ∀ (k i acc : Nat) (e : Int), numF b at_ k i acc = .inr e → e ≠ 0 := by
  intro k
  induction k with
  | zero => intro i acc e h; simp [numF] at h; omega
  | succ k ih =>
    intro i acc e h
    unfold numF at h
    split at h
    · cases h; decide
    · split at h
      · cases h; decide
      · split at h
        · split at h
          · cases h; decide
          · cases h
        · exact ih _ _ _ h
theorem num_ne {b : List Nat} {at_ : Nat} {e : Int} (h : num b at_ = .inr e) : e ≠ 0 := numF_ne b at_ 10 0 0 e h
/-- what a slice from a place on reads -/
theorem Rd.tail {S : Nat → Prop} {w : World} {A : Option Addr} {l : List Nat} {c k : Nat} (h : Rd S w 1 A l.length (bcells l)) (hk : k ≤ l.length) (hc : l.length ≤ c) : Rd S w 1 (if c = k then A else Option.map (fun x => x.add k) A) (l.drop k).length (bcells (l.drop k)) := by
  have hl : (l.drop k).length = l.length - k := List.length_drop
  refine ⟨by unfold bcells; rw [List.length_map]; omega, fun hn => ?_⟩
  rw [hl] at hn
  obtain ⟨b, o, rfl, hS, hb, hx⟩ := h.2 (by omega)
  rw [if_neg (by omega)]
  refine ⟨b, o + k, by simp [Addr.add_lit], hS, hb, fun j u hu => ?_⟩
  rw [bcells_drop, List.getElem?_drop] at hu
  have := hx (k + j) u hu
  rwa [← Nat.add_assoc] at this
end Go.Proofs.YtphglnenafdkaaaGreatDoor

namespace Go.Proofs.YtphglnenafdkaaaGreatDoor
open Go.RowKit
set_option linter.unusedVariables false
set_option linter.unusedSimpArgs false

theorem RrOf.bound {T : TypeId} {S : Nat → Prop} {w : World} {g : Nat} {A : Option Addr} {c : Nat} {r : Rr} (h : RrOf T S w g A c r) : RrOf T (fun k => S k ∧ k < w.heap.size) w g A c r :=
  ⟨h.blk, ⟨h.row.1, fun hn => by obtain ⟨b, o, e, hS, hb, hc⟩ := h.row.2 hn; exact ⟨b, o, e, ⟨hS, hb⟩, hb, hc⟩⟩, fun k hk => h.ne k hk.1, h.at_le, h.len, h.byt, h.cap⟩
theorem RrOf.unbound {T : TypeId} {S : Nat → Prop} {w : World} {g N : Nat} {A : Option Addr} {c : Nat} {r : Rr} (h : RrOf T (fun k => S k ∧ k < N) w g A c r) (hne : ∀ k, S k → k ≠ g) : RrOf T S w g A c r :=
  ⟨h.blk, h.row.more fun b hb _ => hb.1, hne, h.at_le, h.len, h.byt, h.cap⟩
def vcs (v : Vl) : Array Value := #[.int .i64 v.k, .int .i64 v.n, .string v.s]
/-- a reader, the result's variable at B, the value's at y -/
structure TK (T : TypeId) (S : Nat → Prop) (w W : World) (g : Nat) (A : Option Addr) (c : Nat) (r : Rr) (y : Nat) (u v : Vl) : Prop where
  rd : RrOf T S W g A c r
  sb : ∀ k, S k → k < w.heap.size
  gb : g < w.heap.size
  zv : Blk W w.heap.size 38 #[.int .i64 u.k, .int .i64 u.n, .string u.s]
  yv : Blk W y 38 #[.int .i64 v.k, .int .i64 v.n, .string v.s]
  yb : w.heap.size < y
  up : Upd (fun k => k = g) w W
section
variable {T : TypeId} {S : Nat → Prop} {w W W' : World} {g : Nat} {A : Option Addr} {c : Nat} {r r' : Rr} {y : Nat} {u v : Vl}
theorem TK.call (h : TK T S w W g A c r y u v) (hu : Upd (fun k => k = g) W W') (hr : RrOf T S W' g A c r') : TK T S w W' g A c r' y u v :=
  ⟨hr, h.sb, h.gb, h.zv.upd hu (by have := h.gb; omega), h.yv.upd hu (by have := h.gb; have := h.yb; omega), h.yb, h.up.trans hu fun _ _ h => h⟩
theorem TK.below (h : TK T S w W g A c r y u v) (hb : Below W.heap.size W W') : TK T S w W' g A c r y u v :=
  ⟨h.rd.below_all hb, h.sb, h.gb, h.zv.below_all hb, h.yv.below_all hb, h.yb, h.up.trans (Upd.of_below' hb Nil) fun _ _ h => h.elim⟩
theorem TK.putY (h : TK T S w W g A c r y u v) (v' : Vl) : TK T S w (((W.setCell ⟨y, 0, none⟩ (.int .i64 v'.k)).setCell ⟨y, 1, none⟩ (.int .i64 v'.n)).setCell ⟨y, 2, none⟩ (.string v'.s)) g A c r y u v' := by
  have hy := h.yb
  have hgb := h.gb
  have U : Upd (fun k => k = y) W (((W.setCell ⟨y, 0, none⟩ (.int .i64 v'.k)).setCell ⟨y, 1, none⟩ (.int .i64 v'.n)).setCell ⟨y, 2, none⟩ (.string v'.s)) :=
    (((Upd.refl (fun k => k = y) W).setCell (p := ⟨y, 0, none⟩) (fun _ => rfl) _).setCell (p := ⟨y, 1, none⟩) (fun _ => rfl) _).setCell (p := ⟨y, 2, none⟩) (fun _ => rfl) _
  refine ⟨h.rd.upd U (by omega) (fun b hb => by have := h.sb b hb; omega), h.sb, h.gb, h.zv.upd U (by omega), ?_, hy, h.up.trans U fun b hb e => by omega⟩
  simpa using ((h.yv.set_ 0 (.int .i64 v'.k)).set_ 1 (.int .i64 v'.n)).set_ 2 (.string v'.s)
theorem TK.putZ (h : TK T S w W g A c r y u v) (u' : Vl) : TK T S w (((W.setCell ⟨w.heap.size, 0, none⟩ (.int .i64 u'.k)).setCell ⟨w.heap.size, 1, none⟩ (.int .i64 u'.n)).setCell ⟨w.heap.size, 2, none⟩ (.string u'.s)) g A c r y u' v := by
  have hy := h.yb
  have hgb := h.gb
  have U : Upd (fun k => k = w.heap.size) W (((W.setCell ⟨w.heap.size, 0, none⟩ (.int .i64 u'.k)).setCell ⟨w.heap.size, 1, none⟩ (.int .i64 u'.n)).setCell ⟨w.heap.size, 2, none⟩ (.string u'.s)) :=
    (((Upd.refl (fun k => k = w.heap.size) W).setCell (p := ⟨w.heap.size, 0, none⟩) (fun _ => rfl) _).setCell (p := ⟨w.heap.size, 1, none⟩) (fun _ => rfl) _).setCell (p := ⟨w.heap.size, 2, none⟩) (fun _ => rfl) _
  refine ⟨h.rd.upd U (by omega) (fun b hb => by have := h.sb b hb; omega), h.sb, h.gb, ?_, h.yv.upd U (by omega), hy, h.up.trans U fun b hb e => by omega⟩
  simpa using ((h.zv.set_ 0 (.int .i64 u'.k)).set_ 1 (.int .i64 u'.n)).set_ 2 (.string u'.s)
theorem TK.cells (h : TK T S w W g A c r y u v) : W.cell? ⟨g, 3, none⟩ = some (.int .i64 r.e) ∧ W.cell? ⟨w.heap.size, 0, none⟩ = some (.int .i64 u.k) ∧ W.cell? ⟨w.heap.size, 1, none⟩ = some (.int .i64 u.n) ∧ W.cell? ⟨w.heap.size, 2, none⟩ = some (.string u.s) ∧ W.cell? ⟨y, 0, none⟩ = some (.int .i64 v.k) ∧ W.cell? ⟨y, 1, none⟩ = some (.int .i64 v.n) ∧ W.cell? ⟨y, 2, none⟩ = some (.string v.s) ∧ (∀ q, W.frozen? ⟨w.heap.size, q, none⟩ = false) ∧ (∀ q, W.frozen? ⟨y, q, none⟩ = false) ∧ w.heap.size < W.heap.size ∧ y < W.heap.size :=
  ⟨h.rd.blk.cell 3, h.zv.cell 0, h.zv.cell 1, h.zv.cell 2, h.yv.cell 0, h.yv.cell 1, h.yv.cell 2, fun q => h.zv.frozen q, fun q => h.yv.frozen q, h.zv.lt, h.yv.lt⟩
end
theorem Rr.byte_bad {r : Rr} (h : r.byte.2.e ≠ 0) : r.byte.1 = 0 := by
  unfold Rr.byte at h ⊢
  split
  · rfl
  · split
    · rfl
    · rename_i h1 _ _ h2
      rw [if_neg h1, h2] at h
      exact absurd (by simpa [Rr.took] using h1) h
theorem Rr.text_le (r : Rr) (most : Nat) : (r.text most).1.size ≤ most := by
  unfold Rr.text
  split
  · simp [ByteArray.size]
  · split
    · simp [ByteArray.size]
    · split
      · simp [ByteArray.size]
      · split
        · simp [ByteArray.size]
        · rename_i n k _ h _
          have : (bt ((r.b.drop (r.at_ + k)).take n)).size = ((r.b.drop (r.at_ + k)).take n).length := by unfold bt; simp [ByteArray.size]
          rw [this, List.length_take]
          omega
theorem Rr.text_bad {r : Rr} {most : Int} (h : (r.text most).2.e ≠ 0) : (r.text most).1 = ⟨#[]⟩ := by
  unfold Rr.text at h ⊢
  split
  · rfl
  · rename_i h1
    rw [if_neg h1] at h
    split
    · rfl
    · rename_i h2
      rw [h2] at h
      simp only at h
      split
      · rfl
      · rename_i h3
        rw [if_neg h3] at h
        split
        · rfl
        · rename_i h4
          rw [if_neg h4] at h
          exact absurd (by simpa [Rr.took] using h1) h
set_option maxRecDepth 100000 in
theorem rof_any (n : Int) (w : World) : Calls Tryz.prog 145 #[.int .i64 n] w fun e w' => e = .returned (.agg #[.int .i64 1, .int .i64 n, .string ⟨#[]⟩]) ∧ Below w.heap.size w w' := by
  have hB : Hid (Below w.heap.size w (w.alloc (.cells #[.int .i64 0, .int .i64 0, .string ⟨#[]⟩] 38))) := hid ((Below.refl _ _).alloc (Nat.le_refl _) _)
  have kb := hid (Blk.new w 38 #[.int .i64 0, .int .i64 0, .string ⟨#[]⟩])
  have hn := hid (show w.heap.size < (w.alloc (.cells #[.int .i64 0, .int .i64 0, .string ⟨#[]⟩] 38)).heap.size by simp)
  go_enter Tryz.func145, Tryz.ntmps145
  go_upto_region 1 with fail
  generalize hW : w.alloc (.cells #[.int .i64 0, .int .i64 0, .string ⟨#[]⟩] 38) = W at *
  clear hW
  have fz := fun q => kb.out.frozen q
  have hlt := kb.out.lt
  have z0 := kb.out.cell 0
  have z1 := kb.out.cell 1
  have z2 := kb.out.cell 2
  simp only [List.getElem?_toArray, List.getElem?_cons_zero, List.getElem?_cons_succ] at z0 z1 z2
  go_wp2_with fail
  refine bodyPost_ret (v := .agg #[.int .i64 1, .int .i64 n, .string ⟨#[]⟩]) ?_ rfl ⟨rfl, ?_⟩
  · exact results_cell_row (P := Tryz.prog) rfl _ _ w.heap.size 38 _ (0, 0) _ rfl (show Blk _ _ _ #[.int .i64 1, .int .i64 n, .string ⟨#[]⟩] from by simpa using ((kb.out.set_ 0 _).set_ 1 _).set_ 2 _) Tryz.underlying38 rfl (by kernel_rfl)
  · exact ((hB.out.setCell (p := ⟨w.heap.size, 0, none⟩) (Nat.le_refl _) _).setCell (p := ⟨w.heap.size, 1, none⟩) (Nat.le_refl _) _).setCell (p := ⟨w.heap.size, 2, none⟩) (Nat.le_refl _) _
set_option maxRecDepth 100000 in
theorem rword2_any (s : ByteArray) (w : World) : Calls Tryz.prog 143 #[.string s] w fun e w' => e = .returned (.agg #[.int .i64 2, .int .i64 0, .string s]) ∧ Below w.heap.size w w' := by
  have hB : Hid (Below w.heap.size w (w.alloc (.cells #[.int .i64 0, .int .i64 0, .string ⟨#[]⟩] 38))) := hid ((Below.refl _ _).alloc (Nat.le_refl _) _)
  have kb := hid (Blk.new w 38 #[.int .i64 0, .int .i64 0, .string ⟨#[]⟩])
  have hn := hid (show w.heap.size < (w.alloc (.cells #[.int .i64 0, .int .i64 0, .string ⟨#[]⟩] 38)).heap.size by simp)
  go_enter Tryz.func143, Tryz.ntmps143
  go_upto_region 1 with fail
  generalize hW : w.alloc (.cells #[.int .i64 0, .int .i64 0, .string ⟨#[]⟩] 38) = W at *
  clear hW
  have fz := fun q => kb.out.frozen q
  have hlt := kb.out.lt
  have z0 := kb.out.cell 0
  have z1 := kb.out.cell 1
  have z2 := kb.out.cell 2
  simp only [List.getElem?_toArray, List.getElem?_cons_zero, List.getElem?_cons_succ] at z0 z1 z2
  go_wp2_with fail
  refine bodyPost_ret (v := .agg #[.int .i64 2, .int .i64 0, .string s]) ?_ rfl ⟨rfl, ?_⟩
  · exact results_cell_row (P := Tryz.prog) rfl _ _ w.heap.size 38 _ (0, 0) _ rfl (show Blk _ _ _ #[.int .i64 2, .int .i64 0, .string s] from by simpa using ((kb.out.set_ 0 _).set_ 1 _).set_ 2 _) Tryz.underlying38 rfl (by kernel_rfl)
  · exact ((hB.out.setCell (p := ⟨w.heap.size, 0, none⟩) (Nat.le_refl _) _).setCell (p := ⟨w.heap.size, 1, none⟩) (Nat.le_refl _) _).setCell (p := ⟨w.heap.size, 2, none⟩) (Nat.le_refl _) _
set_option maxRecDepth 100000 in
theorem vof_any (n : Int) (w : World) : Calls Tryz.prog 104 #[.int .i64 n] w fun e w' => e = .returned (.agg #[.int .i64 1, .int .i64 n, .string ⟨#[]⟩]) ∧ Below w.heap.size w w' := by
  have hB : Hid (Below w.heap.size w (w.alloc (.cells #[.int .i64 0, .int .i64 0, .string ⟨#[]⟩] 38))) := hid ((Below.refl _ _).alloc (Nat.le_refl _) _)
  have kb := hid (Blk.new w 38 #[.int .i64 0, .int .i64 0, .string ⟨#[]⟩])
  have hn := hid (show w.heap.size < (w.alloc (.cells #[.int .i64 0, .int .i64 0, .string ⟨#[]⟩] 38)).heap.size by simp)
  go_enter Tryz.func104, Tryz.ntmps104
  go_upto_region 1 with fail
  generalize hW : w.alloc (.cells #[.int .i64 0, .int .i64 0, .string ⟨#[]⟩] 38) = W at *
  clear hW
  have fz := fun q => kb.out.frozen q
  have hlt := kb.out.lt
  have z0 := kb.out.cell 0
  have z1 := kb.out.cell 1
  have z2 := kb.out.cell 2
  simp only [List.getElem?_toArray, List.getElem?_cons_zero, List.getElem?_cons_succ] at z0 z1 z2
  go_wp2_with fail
  refine bodyPost_ret (v := .agg #[.int .i64 1, .int .i64 n, .string ⟨#[]⟩]) ?_ rfl ⟨rfl, ?_⟩
  · exact results_cell_row (P := Tryz.prog) rfl _ _ w.heap.size 38 _ (0, 0) _ rfl (show Blk _ _ _ #[.int .i64 1, .int .i64 n, .string ⟨#[]⟩] from by simpa using ((kb.out.set_ 0 _).set_ 1 _).set_ 2 _) Tryz.underlying38 rfl (by kernel_rfl)
  · exact ((hB.out.setCell (p := ⟨w.heap.size, 0, none⟩) (Nat.le_refl _) _).setCell (p := ⟨w.heap.size, 1, none⟩) (Nat.le_refl _) _).setCell (p := ⟨w.heap.size, 2, none⟩) (Nat.le_refl _) _
set_option maxRecDepth 100000 in
theorem word2_any (s : ByteArray) (w : World) : Calls Tryz.prog 100 #[.string s] w fun e w' => e = .returned (.agg #[.int .i64 2, .int .i64 0, .string s]) ∧ Below w.heap.size w w' := by
  have hB : Hid (Below w.heap.size w (w.alloc (.cells #[.int .i64 0, .int .i64 0, .string ⟨#[]⟩] 38))) := hid ((Below.refl _ _).alloc (Nat.le_refl _) _)
  have kb := hid (Blk.new w 38 #[.int .i64 0, .int .i64 0, .string ⟨#[]⟩])
  have hn := hid (show w.heap.size < (w.alloc (.cells #[.int .i64 0, .int .i64 0, .string ⟨#[]⟩] 38)).heap.size by simp)
  go_enter Tryz.func100, Tryz.ntmps100
  go_upto_region 1 with fail
  generalize hW : w.alloc (.cells #[.int .i64 0, .int .i64 0, .string ⟨#[]⟩] 38) = W at *
  clear hW
  have fz := fun q => kb.out.frozen q
  have hlt := kb.out.lt
  have z0 := kb.out.cell 0
  have z1 := kb.out.cell 1
  have z2 := kb.out.cell 2
  simp only [List.getElem?_toArray, List.getElem?_cons_zero, List.getElem?_cons_succ] at z0 z1 z2
  go_wp2_with fail
  refine bodyPost_ret (v := .agg #[.int .i64 2, .int .i64 0, .string s]) ?_ rfl ⟨rfl, ?_⟩
  · exact results_cell_row (P := Tryz.prog) rfl _ _ w.heap.size 38 _ (0, 0) _ rfl (show Blk _ _ _ #[.int .i64 2, .int .i64 0, .string s] from by simpa using ((kb.out.set_ 0 _).set_ 1 _).set_ 2 _) Tryz.underlying38 rfl (by kernel_rfl)
  · exact ((hB.out.setCell (p := ⟨w.heap.size, 0, none⟩) (Nat.le_refl _) _).setCell (p := ⟨w.heap.size, 1, none⟩) (Nat.le_refl _) _).setCell (p := ⟨w.heap.size, 2, none⟩) (Nat.le_refl _) _

end Go.Proofs.YtphglnenafdkaaaGreatDoor

namespace Go.Proofs.YtphglnenafdkaaaGreatDoor
open Go.RowKit
set_option linter.unusedVariables false
set_option linter.unusedSimpArgs false

theorem numF_pos (b : List Nat) (at_ : Nat) : ∀ (k i acc n m : Nat), numF b at_ k i acc = .inl (n, m) → i + 1 ≤ m := by
  intro k
  induction k with
  | zero => intro i acc n m h; simp [numF] at h
  | succ k ih =>
    intro i acc n m h
    unfold numF at h
    split at h
    · cases h
    · split at h
      · cases h
      · split at h
        · split at h
          · cases h
          · simp only [Sum.inl.injEq, Prod.mk.injEq] at h; omega
        · have := ih _ _ _ _ h; omega
theorem num_pos {b : List Nat} {at_ n m : Nat} (h : num b at_ = .inl (n, m)) : 1 ≤ m := numF_pos b at_ 10 0 0 n m h
theorem strOf_bt (l : List Nat) : strOfNums (l.map Int.ofNat) = bt l := by
  unfold strOfNums bt
  rw [List.map_map]
  rfl
theorem convB {S : Nat → Prop} {w : World} {A : Option Addr} {l : List Nat} {n c : Nat} (h : Rd S w 1 A n (bcells l)) (hn : l.length = n) : (convert 41 9 (.slice A n c)).run Tryz.prog w = .ok (.string (bt l)) w := by
  subst hn
  cases l with
  | nil =>
    cases A with
    | none => exact run_convert_bytes_nil w 41 5 Tryz.underlying41 Tryz.underlying5 0 c 9 Tryz.underlying9
    | some a =>
      obtain ⟨b, o, t⟩ := a
      rw [run_convert_bytes_string w 41 9 5 _ _ c Tryz.underlying41 Tryz.underlying5 Tryz.underlying9, run_bytesToString w _ _ c [] (by simp [loadCells, loadCellsFrom])]
      rfl
  | cons x l =>
    obtain ⟨b, o, rfl, _, _, hc⟩ := h.2 (by simp)
    rw [← strOf_bt]
    refine run_convert_bytes_arg w 41 5 Tryz.underlying41 Tryz.underlying5 b o _ c _ (by simp) (fun i hi => hc i _ ?_) 9 Tryz.underlying9
    rw [bcells_at hi]
    have : ((x :: l).map Int.ofNat).getD i 0 = (((x :: l)[i] : Nat) : Int) := by rw [List.getD_eq_getElem?_getD, List.getElem?_map, List.getElem?_eq_getElem hi]; rfl
    rw [this]
/-- what a slice's part reads -/
theorem Rd.part {S : Nat → Prop} {w : World} {A : Option Addr} {l : List Nat} {c k n : Nat} (h : Rd S w 1 A l.length (bcells l)) (hk : k + n ≤ l.length) (hc : l.length ≤ c) : Rd S w 1 (if c = k then A else Option.map (fun x => x.add k) A) n (bcells ((l.drop k).take n)) := by
  have hl : ((l.drop k).take n).length = n := by rw [List.length_take, List.length_drop]; omega
  refine ⟨by unfold bcells; rw [List.length_map]; omega, fun hn => ?_⟩
  obtain ⟨b, o, rfl, hS, hb, hx⟩ := h.2 (by omega)
  rw [if_neg (by omega)]
  refine ⟨b, o + k, by simp [Addr.add_lit], hS, hb, fun j u hu => ?_⟩
  unfold bcells at hu hx
  rw [List.map_take, List.map_drop] at hu
  have hj : j < n := by
    have := (List.getElem?_eq_some_iff.1 hu).1
    simp only [List.length_take, List.length_drop, List.length_map] at this
    omega
  rw [List.getElem?_take_of_lt hj, List.getElem?_drop] at hu
  have := hx (k + j) u hu
  rwa [← Nat.add_assoc] at this
end Go.Proofs.YtphglnenafdkaaaGreatDoor

namespace Go.Proofs.YtphglnenafdkaaaGreatDoor
open Go.RowKit
set_option linter.unusedVariables false
set_option linter.unusedSimpArgs false

/-- the result's cell at w.heap.size holds u -/
structure VZ (w W : World) (u : Vl) : Prop where
  zv : Blk W w.heap.size 38 #[.int .i64 u.k, .int .i64 u.n, .string u.s]
  bel : Below w.heap.size w W
section
variable {w W W' : World} {u : Vl}
theorem VZ.start (w : World) : VZ w (w.alloc (.cells #[.int .i64 0, .int .i64 0, .string ⟨#[]⟩] 38)) vl0 := ⟨Blk.new w _ _, (Below.refl _ _).alloc (Nat.le_refl _) _⟩
theorem VZ.below (h : VZ w W u) (hb : Below W.heap.size W W') : VZ w W' u := ⟨h.zv.below_all hb, h.bel.trans (hb.mono h.bel.size)⟩
theorem VZ.over {N : Nat} (h : VZ w W u) (hb : Below N W W') (hN : w.heap.size < N) : VZ w W' u := ⟨h.zv.below hb hN, h.bel.trans (hb.mono (by omega))⟩
theorem VZ.set (h : VZ w W u) (u' : Vl) : VZ w (((W.setCell ⟨w.heap.size, 0, none⟩ (.int .i64 u'.k)).setCell ⟨w.heap.size, 1, none⟩ (.int .i64 u'.n)).setCell ⟨w.heap.size, 2, none⟩ (.string u'.s)) u' :=
  ⟨by simpa using ((h.zv.set_ 0 (.int .i64 u'.k)).set_ 1 (.int .i64 u'.n)).set_ 2 (.string u'.s), ((h.bel.setCell (p := ⟨w.heap.size, 0, none⟩) (Nat.le_refl _) _).setCell (p := ⟨w.heap.size, 1, none⟩) (Nat.le_refl _) _).setCell (p := ⟨w.heap.size, 2, none⟩) (Nat.le_refl _) _⟩
theorem VZ.drewN (h : VZ w W u) (n : Nat) : VZ w (W.drewN n) u := ⟨h.zv.drewN n, ⟨h.bel.os, h.bel.tape, h.bel.output, h.bel.size, h.bel.block⟩⟩
theorem VZ.facts (h : VZ w W u) : (∀ q, W.frozen? ⟨w.heap.size, q, none⟩ = false) ∧ w.heap.size < W.heap.size ∧ W.cell? ⟨w.heap.size, 0, none⟩ = some (.int .i64 u.k) ∧ W.cell? ⟨w.heap.size, 1, none⟩ = some (.int .i64 u.n) ∧ W.cell? ⟨w.heap.size, 2, none⟩ = some (.string u.s) :=
  ⟨fun q => h.zv.frozen q, h.zv.lt, h.zv.cell 0, h.zv.cell 1, h.zv.cell 2⟩
end
/-- what Parse leaves -/
def PzOut (p : Pz) (w : World) (e : Ending) (w' : World) : Prop := e = .returned (.tuple #[.agg #[.int .i64 p.v.k, .int .i64 p.v.n, .string p.v.s], .int .i64 p.e, .int .i64 (p.at_ : Nat)]) ∧ Below w.heap.size w w'
end Go.Proofs.YtphglnenafdkaaaGreatDoor

namespace Go.Proofs.YtphglnenafdkaaaGreatDoor
open Go.RowKit
set_option linter.unusedVariables false
set_option linter.unusedSimpArgs false

theorem want_step {s : ByteArray} {k : Nat} (hk : k < s.size) {d : UInt8} {q : List UInt8} (i : Nat) : wantL (s.data.toList.drop k) (d :: q) i = if s.data[k]'hk = d then wantL (s.data.toList.drop (k + 1)) q (i + 1) else .bad 21 i := by
  have hk' : k < s.data.toList.length := by rw [Array.length_toList]; exact hk
  rw [List.drop_eq_getElem_cons hk', Array.getElem_toList]
  rfl
theorem drop_end {s : ByteArray} {k : Nat} (hk : s.size ≤ k) : s.data.toList.drop k = [] := List.drop_eq_nil_of_le (by rw [Array.length_toList]; exact hk)
theorem drop_some {s : ByteArray} {k : Nat} (hk : k < s.size) : s.data.toList.drop k = s.data[k]'hk :: s.data.toList.drop (k + 1) := by
  have hk' : k < s.data.toList.length := by rw [Array.length_toList]; exact hk
  rw [List.drop_eq_getElem_cons hk', Array.getElem_toList]

set_option maxRecDepth 100000 in
set_option maxHeartbeats 1000000 in
theorem parseNone_any (s : ByteArray) (w : World) (hs : s.size ≤ 140737488351232) : Calls Tryz.prog 82 #[.string s] w (PzOut (wantL s.data.toList noneT 0) w) := by
  have hz := hid (VZ.start w)
  have hs9 : (s.size : Int) ≤ 9223372036854775807 := by omega
  clear hs
  go_enter Tryz.func82, Tryz.ntmps82
  go_upto_region 1 with fail
  generalize w.alloc (.cells #[.int .i64 0, .int .i64 0, .string ⟨#[]⟩] 38) = W at *
  obtain ⟨fz, hlt, z0, z1, z2⟩ := hz.out.facts
  go_wp2_with fail
  go_loopw [5, 6] (fun _ v wr => ∃ k : Nat, v = .int .i64 k ∧ k ≤ 4 ∧ k ≤ s.size ∧ VZ w wr vl0 ∧ wantL (s.data.toList.drop k) (noneT.drop k) k = wantL s.data.toList noneT 0) (fun _ v _ => 4 - (intOf v).toNat)
  case atStart => exact ⟨0, rfl, by omega, by omega, hz.out, rfl⟩
  case round =>
    clear hz fz hlt z0 z1 z2
    obtain ⟨k, rfl, hk, hks, hz0, hw0⟩ := hrel
    have hw := hid hw0
    have hz := hid hz0
    clear hw0 hz0
    obtain ⟨fz, hlt, z0, z1, z2⟩ := hz.out.facts
    obtain rfl | rfl | rfl | rfl | rfl : k = 0 ∨ k = 1 ∨ k = 2 ∨ k = 3 ∨ k = 4 := by omega
    · clear hk
      by_cases hend : s.size = 0
      · have t1 : (((0 : Nat) : Int) == (s.size : Int)) = true := by rw [hend]; rfl
        have t2 : (s.size : Int) = 0 := by omega
        have hfin : Hid (wantL s.data.toList noneT 0 = .bad 3 0) := hid (by rw [← hw.out, drop_end (by omega)]; rfl)
        clear hend
        go_wp2_with fail
        have hT := hz.out.set ⟨0, 0, ⟨#[]⟩⟩
        dsimp only at hT
        obtain ⟨-, -, z0, z1, z2⟩ := hT.facts
        dsimp only at z0 z1 z2
        refine bodyPost_ret (v := .tuple #[.agg #[.int .i64 (⟨0, 0, ⟨#[]⟩⟩ : Vl).k, .int .i64 (⟨0, 0, ⟨#[]⟩⟩ : Vl).n, .string (⟨0, 0, ⟨#[]⟩⟩ : Vl).s], .int .i64 3, .int .i64 0]) (by simp [results, Tryz.results82, go_sem, z0, z1, z2]) rfl ⟨?_, hT.bel⟩
        rw [hfin.out]; rfl
      · have hlt2 : 0 < s.size := by omega
        have t2 : ¬ ((s.size : Int) = 0) := by omega
        have t4 : ¬ ((0 : Int) = s.size) := by omega
        have t3 : ((0 : Int)) < (s.size : Int) := by omega
        have hst := want_step hlt2 (d := 110) (q := noneT.drop 1) 0
        clear hend
        by_cases hc : s.data[0]'hlt2 = 110
        · have t5 : (s[0]'hlt2).toNat = 110 := by show (s.data[0]'hlt2).toNat = 110; rw [hc]; rfl
          have t6 : (((s[0]'hlt2).toNat : Int) != (((⟨#[110, 111, 110, 101]⟩ : ByteArray)[0]'(by decide)).toNat : Int)) = false := by rw [t5]; rfl
          have hw2 : Hid (wantL (s.data.toList.drop 1) (noneT.drop 1) 1 = wantL s.data.toList noneT 0) := hid (by rw [if_pos hc] at hst; rw [← hst]; exact hw.out)
          clear hst hc hw
          go_upto_region 6 with fail
          go_quiet (fail)
          go_wp2_with fail
          exact ⟨⟨1, rfl, by omega, by omega, hz.out.drewN _, hw2.out⟩, by simp [intOf]⟩
        · have t5 : ¬ ((s[0]'hlt2).toNat = 110) := fun e => hc (UInt8.toNat_inj.1 e)
          have t6 : (((s[0]'hlt2).toNat : Int) != (((⟨#[110, 111, 110, 101]⟩ : ByteArray)[0]'(by decide)).toNat : Int)) = true := by
            have e : (((⟨#[110, 111, 110, 101]⟩ : ByteArray)[0]'(by decide)).toNat : Int) = 110 := rfl
            rw [e]; simp; omega
          have hfin : Hid (wantL s.data.toList noneT 0 = .bad 21 0) := hid (by rw [if_neg hc] at hst; rw [← hst]; exact hw.out.symm)
          clear hst hc hw
          go_upto_region 6 with fail
          go_quiet (fail)
          have hz := hid (hz.out.drewN nq)
          clear fz hlt z0 z1 z2
          obtain ⟨fz, hlt, z0, z1, z2⟩ := hz.out.facts
          go_wp2_with fail
          have hT := hz.out.set ⟨0, 0, ⟨#[]⟩⟩
          dsimp only at hT
          obtain ⟨-, -, z0, z1, z2⟩ := hT.facts
          dsimp only at z0 z1 z2
          refine bodyPost_ret (v := .tuple #[.agg #[.int .i64 (⟨0, 0, ⟨#[]⟩⟩ : Vl).k, .int .i64 (⟨0, 0, ⟨#[]⟩⟩ : Vl).n, .string (⟨0, 0, ⟨#[]⟩⟩ : Vl).s], .int .i64 21, .int .i64 0]) (by simp [results, Tryz.results82, go_sem, z0, z1, z2]) rfl ⟨?_, hT.bel⟩
          rw [hfin.out]; rfl
    · clear hk
      by_cases hend : s.size = 1
      · have t1 : (((1 : Nat) : Int) == (s.size : Int)) = true := by rw [hend]; rfl
        have t2 : (s.size : Int) = 1 := by omega
        have hfin : Hid (wantL s.data.toList noneT 0 = .bad 3 1) := hid (by rw [← hw.out, drop_end (by omega)]; rfl)
        clear hend
        go_wp2_with fail
        have hT := hz.out.set ⟨0, 0, ⟨#[]⟩⟩
        dsimp only at hT
        obtain ⟨-, -, z0, z1, z2⟩ := hT.facts
        dsimp only at z0 z1 z2
        refine bodyPost_ret (v := .tuple #[.agg #[.int .i64 (⟨0, 0, ⟨#[]⟩⟩ : Vl).k, .int .i64 (⟨0, 0, ⟨#[]⟩⟩ : Vl).n, .string (⟨0, 0, ⟨#[]⟩⟩ : Vl).s], .int .i64 3, .int .i64 1]) (by simp [results, Tryz.results82, go_sem, z0, z1, z2]) rfl ⟨?_, hT.bel⟩
        rw [hfin.out]; rfl
      · have hlt2 : 1 < s.size := by omega
        have t2 : ¬ ((s.size : Int) = 1) := by omega
        have t4 : ¬ ((1 : Int) = s.size) := by omega
        have t3 : ((1 : Int)) < (s.size : Int) := by omega
        have hst := want_step hlt2 (d := 111) (q := noneT.drop 2) 1
        clear hend
        by_cases hc : s.data[1]'hlt2 = 111
        · have t5 : (s[1]'hlt2).toNat = 111 := by show (s.data[1]'hlt2).toNat = 111; rw [hc]; rfl
          have t6 : (((s[1]'hlt2).toNat : Int) != (((⟨#[110, 111, 110, 101]⟩ : ByteArray)[1]'(by decide)).toNat : Int)) = false := by rw [t5]; rfl
          have hw2 : Hid (wantL (s.data.toList.drop 2) (noneT.drop 2) 2 = wantL s.data.toList noneT 0) := hid (by rw [if_pos hc] at hst; rw [← hst]; exact hw.out)
          clear hst hc hw
          go_upto_region 6 with fail
          go_quiet (fail)
          go_wp2_with fail
          exact ⟨⟨2, rfl, by omega, by omega, hz.out.drewN _, hw2.out⟩, by simp [intOf]⟩
        · have t5 : ¬ ((s[1]'hlt2).toNat = 111) := fun e => hc (UInt8.toNat_inj.1 e)
          have t6 : (((s[1]'hlt2).toNat : Int) != (((⟨#[110, 111, 110, 101]⟩ : ByteArray)[1]'(by decide)).toNat : Int)) = true := by
            have e : (((⟨#[110, 111, 110, 101]⟩ : ByteArray)[1]'(by decide)).toNat : Int) = 111 := rfl
            rw [e]; simp; omega
          have hfin : Hid (wantL s.data.toList noneT 0 = .bad 21 1) := hid (by rw [if_neg hc] at hst; rw [← hst]; exact hw.out.symm)
          clear hst hc hw
          go_upto_region 6 with fail
          go_quiet (fail)
          have hz := hid (hz.out.drewN nq)
          clear fz hlt z0 z1 z2
          obtain ⟨fz, hlt, z0, z1, z2⟩ := hz.out.facts
          go_wp2_with fail
          have hT := hz.out.set ⟨0, 0, ⟨#[]⟩⟩
          dsimp only at hT
          obtain ⟨-, -, z0, z1, z2⟩ := hT.facts
          dsimp only at z0 z1 z2
          refine bodyPost_ret (v := .tuple #[.agg #[.int .i64 (⟨0, 0, ⟨#[]⟩⟩ : Vl).k, .int .i64 (⟨0, 0, ⟨#[]⟩⟩ : Vl).n, .string (⟨0, 0, ⟨#[]⟩⟩ : Vl).s], .int .i64 21, .int .i64 1]) (by simp [results, Tryz.results82, go_sem, z0, z1, z2]) rfl ⟨?_, hT.bel⟩
          rw [hfin.out]; rfl
    · clear hk
      by_cases hend : s.size = 2
      · have t1 : (((2 : Nat) : Int) == (s.size : Int)) = true := by rw [hend]; rfl
        have t2 : (s.size : Int) = 2 := by omega
        have hfin : Hid (wantL s.data.toList noneT 0 = .bad 3 2) := hid (by rw [← hw.out, drop_end (by omega)]; rfl)
        clear hend
        go_wp2_with fail
        have hT := hz.out.set ⟨0, 0, ⟨#[]⟩⟩
        dsimp only at hT
        obtain ⟨-, -, z0, z1, z2⟩ := hT.facts
        dsimp only at z0 z1 z2
        refine bodyPost_ret (v := .tuple #[.agg #[.int .i64 (⟨0, 0, ⟨#[]⟩⟩ : Vl).k, .int .i64 (⟨0, 0, ⟨#[]⟩⟩ : Vl).n, .string (⟨0, 0, ⟨#[]⟩⟩ : Vl).s], .int .i64 3, .int .i64 2]) (by simp [results, Tryz.results82, go_sem, z0, z1, z2]) rfl ⟨?_, hT.bel⟩
        rw [hfin.out]; rfl
      · have hlt2 : 2 < s.size := by omega
        have t2 : ¬ ((s.size : Int) = 2) := by omega
        have t4 : ¬ ((2 : Int) = s.size) := by omega
        have t3 : ((2 : Int)) < (s.size : Int) := by omega
        have hst := want_step hlt2 (d := 110) (q := noneT.drop 3) 2
        clear hend
        by_cases hc : s.data[2]'hlt2 = 110
        · have t5 : (s[2]'hlt2).toNat = 110 := by show (s.data[2]'hlt2).toNat = 110; rw [hc]; rfl
          have t6 : (((s[2]'hlt2).toNat : Int) != (((⟨#[110, 111, 110, 101]⟩ : ByteArray)[2]'(by decide)).toNat : Int)) = false := by rw [t5]; rfl
          have hw2 : Hid (wantL (s.data.toList.drop 3) (noneT.drop 3) 3 = wantL s.data.toList noneT 0) := hid (by rw [if_pos hc] at hst; rw [← hst]; exact hw.out)
          clear hst hc hw
          go_upto_region 6 with fail
          go_quiet (fail)
          go_wp2_with fail
          exact ⟨⟨3, rfl, by omega, by omega, hz.out.drewN _, hw2.out⟩, by simp [intOf]⟩
        · have t5 : ¬ ((s[2]'hlt2).toNat = 110) := fun e => hc (UInt8.toNat_inj.1 e)
          have t6 : (((s[2]'hlt2).toNat : Int) != (((⟨#[110, 111, 110, 101]⟩ : ByteArray)[2]'(by decide)).toNat : Int)) = true := by
            have e : (((⟨#[110, 111, 110, 101]⟩ : ByteArray)[2]'(by decide)).toNat : Int) = 110 := rfl
            rw [e]; simp; omega
          have hfin : Hid (wantL s.data.toList noneT 0 = .bad 21 2) := hid (by rw [if_neg hc] at hst; rw [← hst]; exact hw.out.symm)
          clear hst hc hw
          go_upto_region 6 with fail
          go_quiet (fail)
          have hz := hid (hz.out.drewN nq)
          clear fz hlt z0 z1 z2
          obtain ⟨fz, hlt, z0, z1, z2⟩ := hz.out.facts
          go_wp2_with fail
          have hT := hz.out.set ⟨0, 0, ⟨#[]⟩⟩
          dsimp only at hT
          obtain ⟨-, -, z0, z1, z2⟩ := hT.facts
          dsimp only at z0 z1 z2
          refine bodyPost_ret (v := .tuple #[.agg #[.int .i64 (⟨0, 0, ⟨#[]⟩⟩ : Vl).k, .int .i64 (⟨0, 0, ⟨#[]⟩⟩ : Vl).n, .string (⟨0, 0, ⟨#[]⟩⟩ : Vl).s], .int .i64 21, .int .i64 2]) (by simp [results, Tryz.results82, go_sem, z0, z1, z2]) rfl ⟨?_, hT.bel⟩
          rw [hfin.out]; rfl
    · clear hk
      by_cases hend : s.size = 3
      · have t1 : (((3 : Nat) : Int) == (s.size : Int)) = true := by rw [hend]; rfl
        have t2 : (s.size : Int) = 3 := by omega
        have hfin : Hid (wantL s.data.toList noneT 0 = .bad 3 3) := hid (by rw [← hw.out, drop_end (by omega)]; rfl)
        clear hend
        go_wp2_with fail
        have hT := hz.out.set ⟨0, 0, ⟨#[]⟩⟩
        dsimp only at hT
        obtain ⟨-, -, z0, z1, z2⟩ := hT.facts
        dsimp only at z0 z1 z2
        refine bodyPost_ret (v := .tuple #[.agg #[.int .i64 (⟨0, 0, ⟨#[]⟩⟩ : Vl).k, .int .i64 (⟨0, 0, ⟨#[]⟩⟩ : Vl).n, .string (⟨0, 0, ⟨#[]⟩⟩ : Vl).s], .int .i64 3, .int .i64 3]) (by simp [results, Tryz.results82, go_sem, z0, z1, z2]) rfl ⟨?_, hT.bel⟩
        rw [hfin.out]; rfl
      · have hlt2 : 3 < s.size := by omega
        have t2 : ¬ ((s.size : Int) = 3) := by omega
        have t4 : ¬ ((3 : Int) = s.size) := by omega
        have t3 : ((3 : Int)) < (s.size : Int) := by omega
        have hst := want_step hlt2 (d := 101) (q := noneT.drop 4) 3
        clear hend
        by_cases hc : s.data[3]'hlt2 = 101
        · have t5 : (s[3]'hlt2).toNat = 101 := by show (s.data[3]'hlt2).toNat = 101; rw [hc]; rfl
          have t6 : (((s[3]'hlt2).toNat : Int) != (((⟨#[110, 111, 110, 101]⟩ : ByteArray)[3]'(by decide)).toNat : Int)) = false := by rw [t5]; rfl
          have hw2 : Hid (wantL (s.data.toList.drop 4) (noneT.drop 4) 4 = wantL s.data.toList noneT 0) := hid (by rw [if_pos hc] at hst; rw [← hst]; exact hw.out)
          clear hst hc hw
          go_upto_region 6 with fail
          go_quiet (fail)
          go_wp2_with fail
          exact ⟨⟨4, rfl, by omega, by omega, hz.out.drewN _, hw2.out⟩, by simp [intOf]⟩
        · have t5 : ¬ ((s[3]'hlt2).toNat = 101) := fun e => hc (UInt8.toNat_inj.1 e)
          have t6 : (((s[3]'hlt2).toNat : Int) != (((⟨#[110, 111, 110, 101]⟩ : ByteArray)[3]'(by decide)).toNat : Int)) = true := by
            have e : (((⟨#[110, 111, 110, 101]⟩ : ByteArray)[3]'(by decide)).toNat : Int) = 101 := rfl
            rw [e]; simp; omega
          have hfin : Hid (wantL s.data.toList noneT 0 = .bad 21 3) := hid (by rw [if_neg hc] at hst; rw [← hst]; exact hw.out.symm)
          clear hst hc hw
          go_upto_region 6 with fail
          go_quiet (fail)
          have hz := hid (hz.out.drewN nq)
          clear fz hlt z0 z1 z2
          obtain ⟨fz, hlt, z0, z1, z2⟩ := hz.out.facts
          go_wp2_with fail
          have hT := hz.out.set ⟨0, 0, ⟨#[]⟩⟩
          dsimp only at hT
          obtain ⟨-, -, z0, z1, z2⟩ := hT.facts
          dsimp only at z0 z1 z2
          refine bodyPost_ret (v := .tuple #[.agg #[.int .i64 (⟨0, 0, ⟨#[]⟩⟩ : Vl).k, .int .i64 (⟨0, 0, ⟨#[]⟩⟩ : Vl).n, .string (⟨0, 0, ⟨#[]⟩⟩ : Vl).s], .int .i64 21, .int .i64 3]) (by simp [results, Tryz.results82, go_sem, z0, z1, z2]) rfl ⟨?_, hT.bel⟩
          rw [hfin.out]; rfl
    · clear hk
      by_cases hend : 4 < s.size
      · have t1 : (4 : Int) < (s.size : Int) := by omega
        have hfin : Hid (wantL s.data.toList noneT 0 = .bad 4 4) := hid (by rw [← hw.out, drop_some hend]; rfl)
        clear hend
        go_wp2_with fail
        have hT := hz.out.set ⟨0, 0, ⟨#[]⟩⟩
        dsimp only at hT
        obtain ⟨-, -, z0, z1, z2⟩ := hT.facts
        dsimp only at z0 z1 z2
        refine bodyPost_ret (v := .tuple #[.agg #[.int .i64 (⟨0, 0, ⟨#[]⟩⟩ : Vl).k, .int .i64 (⟨0, 0, ⟨#[]⟩⟩ : Vl).n, .string (⟨0, 0, ⟨#[]⟩⟩ : Vl).s], .int .i64 4, .int .i64 4]) (by simp [results, Tryz.results82, go_sem, z0, z1, z2]) rfl ⟨?_, hT.bel⟩
        rw [hfin.out]; rfl
      · have t1 : ¬ (4 : Int) < (s.size : Int) := by omega
        have hfin : Hid (wantL s.data.toList noneT 0 = .good vl0) := hid (by rw [← hw.out, drop_end (by omega)]; rfl)
        clear hend
        go_wp2_with fail
        have hT := hz.out.set ⟨0, 0, ⟨#[]⟩⟩
        dsimp only at hT
        obtain ⟨-, -, z0, z1, z2⟩ := hT.facts
        dsimp only at z0 z1 z2
        refine bodyPost_ret (v := .tuple #[.agg #[.int .i64 (⟨0, 0, ⟨#[]⟩⟩ : Vl).k, .int .i64 (⟨0, 0, ⟨#[]⟩⟩ : Vl).n, .string (⟨0, 0, ⟨#[]⟩⟩ : Vl).s], .int .i64 0, .int .i64 0]) (by simp [results, Tryz.results82, go_sem, z0, z1, z2]) rfl ⟨?_, hT.bel⟩
        rw [hfin.out]; rfl

set_option maxRecDepth 100000 in
set_option maxHeartbeats 1000000 in
theorem rnothing_any (s : ByteArray) (w : World) (hs : s.size ≤ 140737488351232) : Calls Tryz.prog 105 #[.string s] w (PzOut (wantL s.data.toList noneT 0) w) := by
  have hz := hid (VZ.start w)
  have hs9 : (s.size : Int) ≤ 9223372036854775807 := by omega
  clear hs
  go_enter Tryz.func105, Tryz.ntmps105
  go_upto_region 1 with fail
  generalize w.alloc (.cells #[.int .i64 0, .int .i64 0, .string ⟨#[]⟩] 38) = W at *
  obtain ⟨fz, hlt, z0, z1, z2⟩ := hz.out.facts
  go_wp2_with fail
  go_loopw [5] (fun v wr => ∃ k : Nat, v = .int .i64 k ∧ k ≤ 4 ∧ k ≤ s.size ∧ VZ w wr vl0 ∧ wantL (s.data.toList.drop k) (noneT.drop k) k = wantL s.data.toList noneT 0) (fun v _ => 4 - (intOf v).toNat)
  case atStart => exact ⟨0, rfl, by omega, by omega, hz.out, rfl⟩
  case round =>
    clear hz fz hlt z0 z1 z2
    obtain ⟨k, rfl, hk, hks, hz0, hw0⟩ := hrel
    have hw := hid hw0
    have hz := hid hz0
    clear hw0 hz0
    obtain ⟨fz, hlt, z0, z1, z2⟩ := hz.out.facts
    obtain rfl | rfl | rfl | rfl | rfl : k = 0 ∨ k = 1 ∨ k = 2 ∨ k = 3 ∨ k = 4 := by omega
    · clear hk
      by_cases hend : s.size = 0
      · have t1 : (((0 : Nat) : Int) == (s.size : Int)) = true := by rw [hend]; rfl
        have t2 : (s.size : Int) = 0 := by omega
        have hfin : Hid (wantL s.data.toList noneT 0 = .bad 3 0) := hid (by rw [← hw.out, drop_end (by omega)]; rfl)
        clear hend
        go_wp2_with fail
        have hT := hz.out.set ⟨0, 0, ⟨#[]⟩⟩
        dsimp only at hT
        obtain ⟨-, -, z0, z1, z2⟩ := hT.facts
        dsimp only at z0 z1 z2
        refine bodyPost_ret (v := .tuple #[.agg #[.int .i64 (⟨0, 0, ⟨#[]⟩⟩ : Vl).k, .int .i64 (⟨0, 0, ⟨#[]⟩⟩ : Vl).n, .string (⟨0, 0, ⟨#[]⟩⟩ : Vl).s], .int .i64 3, .int .i64 0]) (by simp [results, Tryz.results105, go_sem, z0, z1, z2]) rfl ⟨?_, hT.bel⟩
        rw [hfin.out]; rfl
      · have hlt2 : 0 < s.size := by omega
        have t2 : ¬ ((s.size : Int) = 0) := by omega
        have t4 : ¬ ((0 : Int) = s.size) := by omega
        have t3 : ((0 : Int)) < (s.size : Int) := by omega
        have hst := want_step hlt2 (d := 110) (q := noneT.drop 1) 0
        clear hend
        by_cases hc : s.data[0]'hlt2 = 110
        · have t5 : (s[0]'hlt2).toNat = 110 := by show (s.data[0]'hlt2).toNat = 110; rw [hc]; rfl
          have t6 : (((s[0]'hlt2).toNat : Int) != (((⟨#[110, 111, 110, 101]⟩ : ByteArray)[0]'(by decide)).toNat : Int)) = false := by rw [t5]; rfl
          have hw2 : Hid (wantL (s.data.toList.drop 1) (noneT.drop 1) 1 = wantL s.data.toList noneT 0) := hid (by rw [if_pos hc] at hst; rw [← hst]; exact hw.out)
          clear hst hc hw
          go_upto_region 6 with fail
          go_quiet (fail)
          go_wp2_with fail
          exact ⟨⟨1, rfl, by omega, by omega, hz.out.drewN _, hw2.out⟩, by simp [intOf]⟩
        · have t5 : ¬ ((s[0]'hlt2).toNat = 110) := fun e => hc (UInt8.toNat_inj.1 e)
          have t6 : (((s[0]'hlt2).toNat : Int) != (((⟨#[110, 111, 110, 101]⟩ : ByteArray)[0]'(by decide)).toNat : Int)) = true := by
            have e : (((⟨#[110, 111, 110, 101]⟩ : ByteArray)[0]'(by decide)).toNat : Int) = 110 := rfl
            rw [e]; simp; omega
          have hfin : Hid (wantL s.data.toList noneT 0 = .bad 21 0) := hid (by rw [if_neg hc] at hst; rw [← hst]; exact hw.out.symm)
          clear hst hc hw
          go_upto_region 6 with fail
          go_quiet (fail)
          have hz := hid (hz.out.drewN nq)
          clear fz hlt z0 z1 z2
          obtain ⟨fz, hlt, z0, z1, z2⟩ := hz.out.facts
          go_wp2_with fail
          have hT := hz.out.set ⟨0, 0, ⟨#[]⟩⟩
          dsimp only at hT
          obtain ⟨-, -, z0, z1, z2⟩ := hT.facts
          dsimp only at z0 z1 z2
          refine bodyPost_ret (v := .tuple #[.agg #[.int .i64 (⟨0, 0, ⟨#[]⟩⟩ : Vl).k, .int .i64 (⟨0, 0, ⟨#[]⟩⟩ : Vl).n, .string (⟨0, 0, ⟨#[]⟩⟩ : Vl).s], .int .i64 21, .int .i64 0]) (by simp [results, Tryz.results105, go_sem, z0, z1, z2]) rfl ⟨?_, hT.bel⟩
          rw [hfin.out]; rfl
    · clear hk
      by_cases hend : s.size = 1
      · have t1 : (((1 : Nat) : Int) == (s.size : Int)) = true := by rw [hend]; rfl
        have t2 : (s.size : Int) = 1 := by omega
        have hfin : Hid (wantL s.data.toList noneT 0 = .bad 3 1) := hid (by rw [← hw.out, drop_end (by omega)]; rfl)
        clear hend
        go_wp2_with fail
        have hT := hz.out.set ⟨0, 0, ⟨#[]⟩⟩
        dsimp only at hT
        obtain ⟨-, -, z0, z1, z2⟩ := hT.facts
        dsimp only at z0 z1 z2
        refine bodyPost_ret (v := .tuple #[.agg #[.int .i64 (⟨0, 0, ⟨#[]⟩⟩ : Vl).k, .int .i64 (⟨0, 0, ⟨#[]⟩⟩ : Vl).n, .string (⟨0, 0, ⟨#[]⟩⟩ : Vl).s], .int .i64 3, .int .i64 1]) (by simp [results, Tryz.results105, go_sem, z0, z1, z2]) rfl ⟨?_, hT.bel⟩
        rw [hfin.out]; rfl
      · have hlt2 : 1 < s.size := by omega
        have t2 : ¬ ((s.size : Int) = 1) := by omega
        have t4 : ¬ ((1 : Int) = s.size) := by omega
        have t3 : ((1 : Int)) < (s.size : Int) := by omega
        have hst := want_step hlt2 (d := 111) (q := noneT.drop 2) 1
        clear hend
        by_cases hc : s.data[1]'hlt2 = 111
        · have t5 : (s[1]'hlt2).toNat = 111 := by show (s.data[1]'hlt2).toNat = 111; rw [hc]; rfl
          have t6 : (((s[1]'hlt2).toNat : Int) != (((⟨#[110, 111, 110, 101]⟩ : ByteArray)[1]'(by decide)).toNat : Int)) = false := by rw [t5]; rfl
          have hw2 : Hid (wantL (s.data.toList.drop 2) (noneT.drop 2) 2 = wantL s.data.toList noneT 0) := hid (by rw [if_pos hc] at hst; rw [← hst]; exact hw.out)
          clear hst hc hw
          go_upto_region 6 with fail
          go_quiet (fail)
          go_wp2_with fail
          exact ⟨⟨2, rfl, by omega, by omega, hz.out.drewN _, hw2.out⟩, by simp [intOf]⟩
        · have t5 : ¬ ((s[1]'hlt2).toNat = 111) := fun e => hc (UInt8.toNat_inj.1 e)
          have t6 : (((s[1]'hlt2).toNat : Int) != (((⟨#[110, 111, 110, 101]⟩ : ByteArray)[1]'(by decide)).toNat : Int)) = true := by
            have e : (((⟨#[110, 111, 110, 101]⟩ : ByteArray)[1]'(by decide)).toNat : Int) = 111 := rfl
            rw [e]; simp; omega
          have hfin : Hid (wantL s.data.toList noneT 0 = .bad 21 1) := hid (by rw [if_neg hc] at hst; rw [← hst]; exact hw.out.symm)
          clear hst hc hw
          go_upto_region 6 with fail
          go_quiet (fail)
          have hz := hid (hz.out.drewN nq)
          clear fz hlt z0 z1 z2
          obtain ⟨fz, hlt, z0, z1, z2⟩ := hz.out.facts
          go_wp2_with fail
          have hT := hz.out.set ⟨0, 0, ⟨#[]⟩⟩
          dsimp only at hT
          obtain ⟨-, -, z0, z1, z2⟩ := hT.facts
          dsimp only at z0 z1 z2
          refine bodyPost_ret (v := .tuple #[.agg #[.int .i64 (⟨0, 0, ⟨#[]⟩⟩ : Vl).k, .int .i64 (⟨0, 0, ⟨#[]⟩⟩ : Vl).n, .string (⟨0, 0, ⟨#[]⟩⟩ : Vl).s], .int .i64 21, .int .i64 1]) (by simp [results, Tryz.results105, go_sem, z0, z1, z2]) rfl ⟨?_, hT.bel⟩
          rw [hfin.out]; rfl
    · clear hk
      by_cases hend : s.size = 2
      · have t1 : (((2 : Nat) : Int) == (s.size : Int)) = true := by rw [hend]; rfl
        have t2 : (s.size : Int) = 2 := by omega
        have hfin : Hid (wantL s.data.toList noneT 0 = .bad 3 2) := hid (by rw [← hw.out, drop_end (by omega)]; rfl)
        clear hend
        go_wp2_with fail
        have hT := hz.out.set ⟨0, 0, ⟨#[]⟩⟩
        dsimp only at hT
        obtain ⟨-, -, z0, z1, z2⟩ := hT.facts
        dsimp only at z0 z1 z2
        refine bodyPost_ret (v := .tuple #[.agg #[.int .i64 (⟨0, 0, ⟨#[]⟩⟩ : Vl).k, .int .i64 (⟨0, 0, ⟨#[]⟩⟩ : Vl).n, .string (⟨0, 0, ⟨#[]⟩⟩ : Vl).s], .int .i64 3, .int .i64 2]) (by simp [results, Tryz.results105, go_sem, z0, z1, z2]) rfl ⟨?_, hT.bel⟩
        rw [hfin.out]; rfl
      · have hlt2 : 2 < s.size := by omega
        have t2 : ¬ ((s.size : Int) = 2) := by omega
        have t4 : ¬ ((2 : Int) = s.size) := by omega
        have t3 : ((2 : Int)) < (s.size : Int) := by omega
        have hst := want_step hlt2 (d := 110) (q := noneT.drop 3) 2
        clear hend
        by_cases hc : s.data[2]'hlt2 = 110
        · have t5 : (s[2]'hlt2).toNat = 110 := by show (s.data[2]'hlt2).toNat = 110; rw [hc]; rfl
          have t6 : (((s[2]'hlt2).toNat : Int) != (((⟨#[110, 111, 110, 101]⟩ : ByteArray)[2]'(by decide)).toNat : Int)) = false := by rw [t5]; rfl
          have hw2 : Hid (wantL (s.data.toList.drop 3) (noneT.drop 3) 3 = wantL s.data.toList noneT 0) := hid (by rw [if_pos hc] at hst; rw [← hst]; exact hw.out)
          clear hst hc hw
          go_upto_region 6 with fail
          go_quiet (fail)
          go_wp2_with fail
          exact ⟨⟨3, rfl, by omega, by omega, hz.out.drewN _, hw2.out⟩, by simp [intOf]⟩
        · have t5 : ¬ ((s[2]'hlt2).toNat = 110) := fun e => hc (UInt8.toNat_inj.1 e)
          have t6 : (((s[2]'hlt2).toNat : Int) != (((⟨#[110, 111, 110, 101]⟩ : ByteArray)[2]'(by decide)).toNat : Int)) = true := by
            have e : (((⟨#[110, 111, 110, 101]⟩ : ByteArray)[2]'(by decide)).toNat : Int) = 110 := rfl
            rw [e]; simp; omega
          have hfin : Hid (wantL s.data.toList noneT 0 = .bad 21 2) := hid (by rw [if_neg hc] at hst; rw [← hst]; exact hw.out.symm)
          clear hst hc hw
          go_upto_region 6 with fail
          go_quiet (fail)
          have hz := hid (hz.out.drewN nq)
          clear fz hlt z0 z1 z2
          obtain ⟨fz, hlt, z0, z1, z2⟩ := hz.out.facts
          go_wp2_with fail
          have hT := hz.out.set ⟨0, 0, ⟨#[]⟩⟩
          dsimp only at hT
          obtain ⟨-, -, z0, z1, z2⟩ := hT.facts
          dsimp only at z0 z1 z2
          refine bodyPost_ret (v := .tuple #[.agg #[.int .i64 (⟨0, 0, ⟨#[]⟩⟩ : Vl).k, .int .i64 (⟨0, 0, ⟨#[]⟩⟩ : Vl).n, .string (⟨0, 0, ⟨#[]⟩⟩ : Vl).s], .int .i64 21, .int .i64 2]) (by simp [results, Tryz.results105, go_sem, z0, z1, z2]) rfl ⟨?_, hT.bel⟩
          rw [hfin.out]; rfl
    · clear hk
      by_cases hend : s.size = 3
      · have t1 : (((3 : Nat) : Int) == (s.size : Int)) = true := by rw [hend]; rfl
        have t2 : (s.size : Int) = 3 := by omega
        have hfin : Hid (wantL s.data.toList noneT 0 = .bad 3 3) := hid (by rw [← hw.out, drop_end (by omega)]; rfl)
        clear hend
        go_wp2_with fail
        have hT := hz.out.set ⟨0, 0, ⟨#[]⟩⟩
        dsimp only at hT
        obtain ⟨-, -, z0, z1, z2⟩ := hT.facts
        dsimp only at z0 z1 z2
        refine bodyPost_ret (v := .tuple #[.agg #[.int .i64 (⟨0, 0, ⟨#[]⟩⟩ : Vl).k, .int .i64 (⟨0, 0, ⟨#[]⟩⟩ : Vl).n, .string (⟨0, 0, ⟨#[]⟩⟩ : Vl).s], .int .i64 3, .int .i64 3]) (by simp [results, Tryz.results105, go_sem, z0, z1, z2]) rfl ⟨?_, hT.bel⟩
        rw [hfin.out]; rfl
      · have hlt2 : 3 < s.size := by omega
        have t2 : ¬ ((s.size : Int) = 3) := by omega
        have t4 : ¬ ((3 : Int) = s.size) := by omega
        have t3 : ((3 : Int)) < (s.size : Int) := by omega
        have hst := want_step hlt2 (d := 101) (q := noneT.drop 4) 3
        clear hend
        by_cases hc : s.data[3]'hlt2 = 101
        · have t5 : (s[3]'hlt2).toNat = 101 := by show (s.data[3]'hlt2).toNat = 101; rw [hc]; rfl
          have t6 : (((s[3]'hlt2).toNat : Int) != (((⟨#[110, 111, 110, 101]⟩ : ByteArray)[3]'(by decide)).toNat : Int)) = false := by rw [t5]; rfl
          have hw2 : Hid (wantL (s.data.toList.drop 4) (noneT.drop 4) 4 = wantL s.data.toList noneT 0) := hid (by rw [if_pos hc] at hst; rw [← hst]; exact hw.out)
          clear hst hc hw
          go_upto_region 6 with fail
          go_quiet (fail)
          go_wp2_with fail
          exact ⟨⟨4, rfl, by omega, by omega, hz.out.drewN _, hw2.out⟩, by simp [intOf]⟩
        · have t5 : ¬ ((s[3]'hlt2).toNat = 101) := fun e => hc (UInt8.toNat_inj.1 e)
          have t6 : (((s[3]'hlt2).toNat : Int) != (((⟨#[110, 111, 110, 101]⟩ : ByteArray)[3]'(by decide)).toNat : Int)) = true := by
            have e : (((⟨#[110, 111, 110, 101]⟩ : ByteArray)[3]'(by decide)).toNat : Int) = 101 := rfl
            rw [e]; simp; omega
          have hfin : Hid (wantL s.data.toList noneT 0 = .bad 21 3) := hid (by rw [if_neg hc] at hst; rw [← hst]; exact hw.out.symm)
          clear hst hc hw
          go_upto_region 6 with fail
          go_quiet (fail)
          have hz := hid (hz.out.drewN nq)
          clear fz hlt z0 z1 z2
          obtain ⟨fz, hlt, z0, z1, z2⟩ := hz.out.facts
          go_wp2_with fail
          have hT := hz.out.set ⟨0, 0, ⟨#[]⟩⟩
          dsimp only at hT
          obtain ⟨-, -, z0, z1, z2⟩ := hT.facts
          dsimp only at z0 z1 z2
          refine bodyPost_ret (v := .tuple #[.agg #[.int .i64 (⟨0, 0, ⟨#[]⟩⟩ : Vl).k, .int .i64 (⟨0, 0, ⟨#[]⟩⟩ : Vl).n, .string (⟨0, 0, ⟨#[]⟩⟩ : Vl).s], .int .i64 21, .int .i64 3]) (by simp [results, Tryz.results105, go_sem, z0, z1, z2]) rfl ⟨?_, hT.bel⟩
          rw [hfin.out]; rfl
    · clear hk
      by_cases hend : 4 < s.size
      · have t1 : (4 : Int) < (s.size : Int) := by omega
        have hfin : Hid (wantL s.data.toList noneT 0 = .bad 4 4) := hid (by rw [← hw.out, drop_some hend]; rfl)
        clear hend
        go_wp2_with fail
        have hT := hz.out.set ⟨0, 0, ⟨#[]⟩⟩
        dsimp only at hT
        obtain ⟨-, -, z0, z1, z2⟩ := hT.facts
        dsimp only at z0 z1 z2
        refine bodyPost_ret (v := .tuple #[.agg #[.int .i64 (⟨0, 0, ⟨#[]⟩⟩ : Vl).k, .int .i64 (⟨0, 0, ⟨#[]⟩⟩ : Vl).n, .string (⟨0, 0, ⟨#[]⟩⟩ : Vl).s], .int .i64 4, .int .i64 4]) (by simp [results, Tryz.results105, go_sem, z0, z1, z2]) rfl ⟨?_, hT.bel⟩
        rw [hfin.out]; rfl
      · have t1 : ¬ (4 : Int) < (s.size : Int) := by omega
        have hfin : Hid (wantL s.data.toList noneT 0 = .good vl0) := hid (by rw [← hw.out, drop_end (by omega)]; rfl)
        clear hend
        go_wp2_with fail
        have hT := hz.out.set ⟨0, 0, ⟨#[]⟩⟩
        dsimp only at hT
        obtain ⟨-, -, z0, z1, z2⟩ := hT.facts
        dsimp only at z0 z1 z2
        refine bodyPost_ret (v := .tuple #[.agg #[.int .i64 (⟨0, 0, ⟨#[]⟩⟩ : Vl).k, .int .i64 (⟨0, 0, ⟨#[]⟩⟩ : Vl).n, .string (⟨0, 0, ⟨#[]⟩⟩ : Vl).s], .int .i64 0, .int .i64 0]) (by simp [results, Tryz.results105, go_sem, z0, z1, z2]) rfl ⟨?_, hT.bel⟩
        rw [hfin.out]; rfl

end Go.Proofs.YtphglnenafdkaaaGreatDoor

namespace Go.Proofs.YtphglnenafdkaaaGreatDoor
open Go.Shelf
def laysM173_ren : Go.Shelf.Ren := ⟨fun | 173 => 69 | 246 => 90 | 283 => 111 | 284 => 112 | 285 => 113 | 286 => 114 | 129 => 125 | 317 => 146 | 318 => 147 | 319 => 148 | 320 => 149 | 337 => 166 | 338 => 167 | n => n, fun | 2 => 2 | 3 => 3 | 9 => 9 | 4 => 4 | 171 => 145 | 0 => 0 | 53 => 118 | 37 => 41 | 5 => 5 | 173 => 148 | 212 => 171 | 51 => 159 | 20 => 20 | 213 => 172 | 46 => 136 | 232 => 203 | 233 => 204 | n => n, fun | 17 => 2 | 18 => 7 | 19 => 8 | n => n⟩
theorem laysM173 : Go.Proofs.LaysM.n173 Tryz.prog laysM173_ren := {
  mixed := by kernel_rfl
  f129 := Tryz.func125.trans (congrArg some (by kernel_rfl))
  f173 := Tryz.func69.trans (congrArg some (by kernel_rfl))
  f246 := Tryz.func90.trans (congrArg some (by kernel_rfl))
  f283 := Tryz.func111.trans (congrArg some (by kernel_rfl))
  f284 := Tryz.func112.trans (congrArg some (by kernel_rfl))
  f285 := Tryz.func113.trans (congrArg some (by kernel_rfl))
  f286 := Tryz.func114.trans (congrArg some (by kernel_rfl))
  f317 := Tryz.func146.trans (congrArg some (by kernel_rfl))
  f318 := Tryz.func147.trans (congrArg some (by kernel_rfl))
  f319 := Tryz.func148.trans (congrArg some (by kernel_rfl))
  f320 := Tryz.func149.trans (congrArg some (by kernel_rfl))
  f337 := Tryz.func166.trans (congrArg some (by kernel_rfl))
  f338 := Tryz.func167.trans (congrArg some (by kernel_rfl))
  t0 := Tryz.underlying0
  a0 := Tryz.isAgg0
  z0 := Tryz.sizeOf0
  v0 := Tryz.zeroValue0
  t2 := Tryz.underlying2
  a2 := Tryz.isAgg2
  z2 := Tryz.sizeOf2
  v2 := Tryz.zeroValue2
  t3 := Tryz.underlying3
  a3 := Tryz.isAgg3
  z3 := Tryz.sizeOf3
  v3 := Tryz.zeroValue3
  t4 := Tryz.underlying4
  a4 := Tryz.isAgg4
  z4 := Tryz.sizeOf4
  v4 := Tryz.zeroValue4
  t5 := Tryz.underlying5
  a5 := Tryz.isAgg5
  z5 := Tryz.sizeOf5
  v5 := Tryz.zeroValue5
  t9 := Tryz.underlying9
  a9 := Tryz.isAgg9
  z9 := Tryz.sizeOf9
  v9 := Tryz.zeroValue9
  t20 := Tryz.underlying20
  a20 := Tryz.isAgg20
  z20 := Tryz.sizeOf20
  v20 := Tryz.zeroValue20
  t37 := Tryz.underlying41
  a37 := Tryz.isAgg41
  z37 := Tryz.sizeOf41
  v37 := Tryz.zeroValue41
  t46 := Tryz.underlying136
  a46 := Tryz.isAgg136
  z46 := Tryz.sizeOf136
  v46 := Tryz.zeroValue136
  t51 := Tryz.underlying159
  a51 := Tryz.isAgg159
  z51 := Tryz.sizeOf159
  v51 := Tryz.zeroValue159
  t53 := Tryz.underlying118
  a53 := Tryz.isAgg118
  z53 := Tryz.sizeOf118
  v53 := Tryz.zeroValue118
  t171 := Tryz.underlying145
  a171 := Tryz.isAgg145
  z171 := Tryz.sizeOf145
  v171 := Tryz.zeroValue145
  t173 := Tryz.underlying148
  a173 := Tryz.isAgg148
  z173 := Tryz.sizeOf148
  v173 := Tryz.zeroValue148
  t212 := Tryz.underlying171
  a212 := Tryz.isAgg171
  z212 := Tryz.sizeOf171
  v212 := Tryz.zeroValue171
  t213 := Tryz.underlying172
  a213 := Tryz.isAgg172
  z213 := Tryz.sizeOf172
  t232 := Tryz.underlying203
  a232 := Tryz.isAgg203
  z232 := Tryz.sizeOf203
  v232 := Tryz.zeroValue203
  t233 := Tryz.underlying204
  a233 := Tryz.isAgg204
  z233 := Tryz.sizeOf204
  v233 := Tryz.zeroValue204
  g17 := by kernel_rfl
  g18 := by kernel_rfl
  g19 := by kernel_rfl
  i0 := by kernel_rfl
  i2 := by kernel_rfl
  i3 := by kernel_rfl
  i4 := by kernel_rfl
  i5 := by kernel_rfl
  i9 := by kernel_rfl
  i20 := by kernel_rfl
  i37 := by kernel_rfl
  i46 := by kernel_rfl
  i51 := by kernel_rfl
  i53 := by kernel_rfl
  i171 := by kernel_rfl
  i173 := by kernel_rfl
  i212 := by kernel_rfl
  i232 := by kernel_rfl
  i233 := by kernel_rfl
  m17 := by kernel_rfl
  m18 := by kernel_rfl
  m19 := by kernel_rfl }
def laysM183_ren : Go.Shelf.Ren := ⟨fun | 183 => 45 | n => n, fun | 130 => 120 | 37 => 41 | 0 => 0 | 93 => 83 | 3 => 3 | 5 => 5 | 91 => 81 | n => n, fun | n => n⟩
theorem laysM183 : Go.Proofs.LaysM.n183 Tryz.prog laysM183_ren := {
  mixed := by kernel_rfl
  f183 := Tryz.func45.trans (congrArg some (by kernel_rfl))
  t0 := Tryz.underlying0
  a0 := Tryz.isAgg0
  z0 := Tryz.sizeOf0
  v0 := Tryz.zeroValue0
  t3 := Tryz.underlying3
  a3 := Tryz.isAgg3
  z3 := Tryz.sizeOf3
  v3 := Tryz.zeroValue3
  t37 := Tryz.underlying41
  a37 := Tryz.isAgg41
  z37 := Tryz.sizeOf41
  v37 := Tryz.zeroValue41
  t93 := Tryz.underlying83
  a93 := Tryz.isAgg83
  z93 := Tryz.sizeOf83
  v93 := Tryz.zeroValue83
  t130 := Tryz.underlying120
  a130 := Tryz.isAgg120
  z130 := Tryz.sizeOf120
  v130 := Tryz.zeroValue120
  t5 := Tryz.underlying5
  a5 := Tryz.isAgg5
  z5 := Tryz.sizeOf5
  v5 := Tryz.zeroValue5
  t91 := Tryz.underlying81
  a91 := Tryz.isAgg81
  z91 := Tryz.sizeOf81
  v91 := Tryz.zeroValue81
  i0 := by kernel_rfl
  i3 := by kernel_rfl
  i5 := by kernel_rfl
  i37 := by kernel_rfl
  i91 := by kernel_rfl
  i93 := by kernel_rfl
  i130 := by kernel_rfl }
def laysM178_ren : Go.Shelf.Ren := ⟨fun | 178 => 40 | 251 => 67 | 252 => 68 | 181 => 87 | 184 => 88 | 290 => 89 | 324 => 110 | n => n, fun | 130 => 120 | 9 => 9 | 3 => 3 | 75 => 85 | 0 => 0 | 93 => 83 | 91 => 81 | 131 => 95 | 4 => 4 | 37 => 41 | 20 => 20 | 80 => 101 | 5 => 5 | n => n, fun | 14 => 0 | n => n⟩
theorem laysM178 : Go.Proofs.LaysM.n178 Tryz.prog laysM178_ren := {
  mixed := by kernel_rfl
  f178 := Tryz.func40.trans (congrArg some (by kernel_rfl))
  f181 := Tryz.func87.trans (congrArg some (by kernel_rfl))
  f184 := Tryz.func88.trans (congrArg some (by kernel_rfl))
  f251 := Tryz.func67.trans (congrArg some (by kernel_rfl))
  f252 := Tryz.func68.trans (congrArg some (by kernel_rfl))
  f290 := Tryz.func89.trans (congrArg some (by kernel_rfl))
  f324 := Tryz.func110.trans (congrArg some (by kernel_rfl))
  t0 := Tryz.underlying0
  a0 := Tryz.isAgg0
  z0 := Tryz.sizeOf0
  v0 := Tryz.zeroValue0
  t3 := Tryz.underlying3
  a3 := Tryz.isAgg3
  z3 := Tryz.sizeOf3
  v3 := Tryz.zeroValue3
  t4 := Tryz.underlying4
  a4 := Tryz.isAgg4
  z4 := Tryz.sizeOf4
  v4 := Tryz.zeroValue4
  t9 := Tryz.underlying9
  a9 := Tryz.isAgg9
  z9 := Tryz.sizeOf9
  v9 := Tryz.zeroValue9
  t20 := Tryz.underlying20
  a20 := Tryz.isAgg20
  z20 := Tryz.sizeOf20
  v20 := Tryz.zeroValue20
  t37 := Tryz.underlying41
  a37 := Tryz.isAgg41
  z37 := Tryz.sizeOf41
  v37 := Tryz.zeroValue41
  t75 := Tryz.underlying85
  a75 := Tryz.isAgg85
  z75 := Tryz.sizeOf85
  v75 := Tryz.zeroValue85
  t91 := Tryz.underlying81
  a91 := Tryz.isAgg81
  z91 := Tryz.sizeOf81
  v91 := Tryz.zeroValue81
  t93 := Tryz.underlying83
  a93 := Tryz.isAgg83
  z93 := Tryz.sizeOf83
  v93 := Tryz.zeroValue83
  t130 := Tryz.underlying120
  a130 := Tryz.isAgg120
  z130 := Tryz.sizeOf120
  v130 := Tryz.zeroValue120
  t131 := Tryz.underlying95
  a131 := Tryz.isAgg95
  z131 := Tryz.sizeOf95
  v131 := Tryz.zeroValue95
  g14 := by kernel_rfl
  t5 := Tryz.underlying5
  a5 := Tryz.isAgg5
  z5 := Tryz.sizeOf5
  v5 := Tryz.zeroValue5
  t80 := Tryz.underlying101
  a80 := Tryz.isAgg101
  z80 := Tryz.sizeOf101
  v80 := Tryz.zeroValue101
  i0 := by kernel_rfl
  i3 := by kernel_rfl
  i4 := by kernel_rfl
  i5 := by kernel_rfl
  i9 := by kernel_rfl
  i20 := by kernel_rfl
  i37 := by kernel_rfl
  i75 := by kernel_rfl
  i80 := by kernel_rfl
  i91 := by kernel_rfl
  i93 := by kernel_rfl
  i130 := by kernel_rfl
  i131 := by kernel_rfl
  m14 := by kernel_rfl }
open Go.RowKit Go.Sort Go.Lib in
/-- strconv.FormatInt: "FormatInt returns the string representation of i in the given base": AT BASE 10: i's decimal numeral, for every int64. (LAID: no walk: one application.) -/
theorem strconv_FormatInt_10 (n : Int) (h0 : -9223372036854775808 ≤ n) (h1 : n ≤ 9223372036854775807) (w : World) (htab : Lib.TabIs Tryz.prog w "internal/strconv.uint64pow10" .u64 Lib.pow10Tab) :
    Calls Tryz.prog 69 #[.int .i64 n, .int .i64 10] w fun e w' => e = .returned (.string ⟨(Lib.itoa n).toArray⟩) ∧ ∃ k os, w' = grow (w.drewN k) os := Any.strconv_FormatInt_10 laysM173 n h0 h1 w htab
open Go.RowKit in
/-- (*bytes.Buffer).Bytes: "Bytes returns a slice of length b.Len() holding the unread portion of the buffer. .. The slice aliases the buffer content at least until the next buffer modification": A SLICE THAT OWNS THE CELLS bs ('World.ownsRow': nil where nothing was ever written). The world is as it was but for the count of draws. (LAID: no walk: one application.) -/
theorem Buffer_Bytes (B b : Nat) (bs : List Value) (w : World) (h : Lib.IsBuffer 83 5 B b bs w) :
    Calls Tryz.prog 45 #[.pointer (some ⟨b, 0, none⟩)] w fun e w' => ∃ v, e = .returned v ∧ w'.ownsRow B 5 1 v bs.length bs ∧ ∃ n, w' = w.drewN n := Any.Buffer_Bytes laysM183 B b bs w h
open Go.RowKit in
theorem Buffer_WriteString_k (B b : Nat) (bs : List Value) (s : ByteArray) (w : World) (h : Lib.IsBuffer 83 5 B b bs w) (hBw : B ≤ w.heap.size) (h1 : ∀ v ∈ bs, v.oneCell' = true) (hlim : bs.length + s.size ≤ 140737488355328) :
    Calls Tryz.prog 40 #[.pointer (some ⟨b, 0, none⟩), .string s] w fun e w' => e = .returned (.tuple #[.int .i64 s.size, .nilIface]) ∧ Lib.IsBuffer 83 5 B b (bs ++ Lib.byteCells s.data.toList) w' ∧ Below B w w' ∧ Lib.OthersKept 5 (some b) w w' := Any.Buffer_WriteString_k laysM178 B b bs s w h hBw h1 hlim
end Go.Proofs.YtphglnenafdkaaaGreatDoor

namespace Go.Proofs.YtphglnenafdkaaaGreatDoor
open Go.Shelf
def laysC174_ren : Go.Shelf.Ren := ⟨fun | 174 => 103 | 247 => 141 | 245 => 142 | 287 => 161 | 279 => 162 | 280 => 163 | 281 => 164 | 282 => 165 | 321 => 170 | 322 => 171 | 316 => 172 | 171 => 174 | 205 => 173 | 243 => 175 | 246 => 90 | 283 => 111 | 284 => 112 | 285 => 113 | 286 => 114 | 129 => 125 | 317 => 146 | 318 => 147 | 319 => 148 | 320 => 149 | 337 => 166 | 338 => 167 | n => n, fun | 9 => 9 | 3 => 3 | 2 => 2 | 75 => 85 | 85 => 140 | 4 => 4 | 167 => 184 | 5 => 5 | 53 => 118 | 175 => 185 | 46 => 136 | 168 => 187 | 37 => 41 | 0 => 0 | 210 => 201 | 21 => 21 | 127 => 205 | 145 => 208 | 143 => 206 | 171 => 145 | 173 => 148 | 212 => 171 | 51 => 159 | 20 => 20 | 213 => 172 | 232 => 203 | 233 => 204 | 80 => 101 | n => n, fun | 15 => 5 | 16 => 6 | 17 => 2 | 18 => 7 | 19 => 8 | n => n⟩
theorem laysC174 : Go.Proofs.LaysC.n174 Tryz.prog laysC174_ren := {
  mixed := by kernel_rfl
  f129 := Tryz.func125.trans (congrArg some (by kernel_rfl))
  f171 := Tryz.func174.trans (congrArg some (by kernel_rfl))
  f174 := Tryz.func103.trans (congrArg some (by kernel_rfl))
  f205 := Tryz.func173.trans (congrArg some (by kernel_rfl))
  f243 := Tryz.func175.trans (congrArg some (by kernel_rfl))
  f245 := Tryz.func142.trans (congrArg some (by kernel_rfl))
  f246 := Tryz.func90.trans (congrArg some (by kernel_rfl))
  f247 := Tryz.func141.trans (congrArg some (by kernel_rfl))
  f279 := Tryz.func162.trans (congrArg some (by kernel_rfl))
  f280 := Tryz.func163.trans (congrArg some (by kernel_rfl))
  f281 := Tryz.func164.trans (congrArg some (by kernel_rfl))
  f282 := Tryz.func165.trans (congrArg some (by kernel_rfl))
  f283 := Tryz.func111.trans (congrArg some (by kernel_rfl))
  f284 := Tryz.func112.trans (congrArg some (by kernel_rfl))
  f285 := Tryz.func113.trans (congrArg some (by kernel_rfl))
  f286 := Tryz.func114.trans (congrArg some (by kernel_rfl))
  f287 := Tryz.func161.trans (congrArg some (by kernel_rfl))
  f316 := Tryz.func172.trans (congrArg some (by kernel_rfl))
  f317 := Tryz.func146.trans (congrArg some (by kernel_rfl))
  f318 := Tryz.func147.trans (congrArg some (by kernel_rfl))
  f319 := Tryz.func148.trans (congrArg some (by kernel_rfl))
  f320 := Tryz.func149.trans (congrArg some (by kernel_rfl))
  f321 := Tryz.func170.trans (congrArg some (by kernel_rfl))
  f322 := Tryz.func171.trans (congrArg some (by kernel_rfl))
  f337 := Tryz.func166.trans (congrArg some (by kernel_rfl))
  f338 := Tryz.func167.trans (congrArg some (by kernel_rfl))
  t0 := Tryz.underlying0
  a0 := Tryz.isAgg0
  z0 := Tryz.sizeOf0
  v0 := Tryz.zeroValue0
  t2 := Tryz.underlying2
  a2 := Tryz.isAgg2
  z2 := Tryz.sizeOf2
  v2 := Tryz.zeroValue2
  t3 := Tryz.underlying3
  a3 := Tryz.isAgg3
  z3 := Tryz.sizeOf3
  v3 := Tryz.zeroValue3
  t4 := Tryz.underlying4
  a4 := Tryz.isAgg4
  z4 := Tryz.sizeOf4
  v4 := Tryz.zeroValue4
  t5 := Tryz.underlying5
  a5 := Tryz.isAgg5
  z5 := Tryz.sizeOf5
  v5 := Tryz.zeroValue5
  t9 := Tryz.underlying9
  a9 := Tryz.isAgg9
  z9 := Tryz.sizeOf9
  v9 := Tryz.zeroValue9
  t20 := Tryz.underlying20
  a20 := Tryz.isAgg20
  z20 := Tryz.sizeOf20
  v20 := Tryz.zeroValue20
  t21 := Tryz.underlying21
  a21 := Tryz.isAgg21
  z21 := Tryz.sizeOf21
  v21 := Tryz.zeroValue21
  t37 := Tryz.underlying41
  a37 := Tryz.isAgg41
  z37 := Tryz.sizeOf41
  v37 := Tryz.zeroValue41
  t46 := Tryz.underlying136
  a46 := Tryz.isAgg136
  z46 := Tryz.sizeOf136
  v46 := Tryz.zeroValue136
  t51 := Tryz.underlying159
  a51 := Tryz.isAgg159
  z51 := Tryz.sizeOf159
  v51 := Tryz.zeroValue159
  t53 := Tryz.underlying118
  a53 := Tryz.isAgg118
  z53 := Tryz.sizeOf118
  v53 := Tryz.zeroValue118
  t75 := Tryz.underlying85
  a75 := Tryz.isAgg85
  z75 := Tryz.sizeOf85
  v75 := Tryz.zeroValue85
  t85 := Tryz.underlying140
  a85 := Tryz.isAgg140
  z85 := Tryz.sizeOf140
  v85 := Tryz.zeroValue140
  t127 := Tryz.underlying205
  a127 := Tryz.isAgg205
  z127 := Tryz.sizeOf205
  v127 := Tryz.zeroValue205
  t143 := Tryz.underlying206
  a143 := Tryz.isAgg206
  z143 := Tryz.sizeOf206
  v143 := Tryz.zeroValue206
  t145 := Tryz.underlying208
  a145 := Tryz.isAgg208
  z145 := Tryz.sizeOf208
  v145 := Tryz.zeroValue208
  t167 := Tryz.underlying184
  a167 := Tryz.isAgg184
  z167 := Tryz.sizeOf184
  v167 := Tryz.zeroValue184
  t168 := Tryz.underlying187
  a168 := Tryz.isAgg187
  z168 := Tryz.sizeOf187
  v168 := Tryz.zeroValue187
  t171 := Tryz.underlying145
  a171 := Tryz.isAgg145
  z171 := Tryz.sizeOf145
  v171 := Tryz.zeroValue145
  t173 := Tryz.underlying148
  a173 := Tryz.isAgg148
  z173 := Tryz.sizeOf148
  v173 := Tryz.zeroValue148
  t175 := Tryz.underlying185
  a175 := Tryz.isAgg185
  z175 := Tryz.sizeOf185
  v175 := Tryz.zeroValue185
  t210 := Tryz.underlying201
  a210 := Tryz.isAgg201
  z210 := Tryz.sizeOf201
  v210 := Tryz.zeroValue201
  t212 := Tryz.underlying171
  a212 := Tryz.isAgg171
  z212 := Tryz.sizeOf171
  v212 := Tryz.zeroValue171
  t213 := Tryz.underlying172
  a213 := Tryz.isAgg172
  z213 := Tryz.sizeOf172
  t232 := Tryz.underlying203
  a232 := Tryz.isAgg203
  z232 := Tryz.sizeOf203
  v232 := Tryz.zeroValue203
  t233 := Tryz.underlying204
  a233 := Tryz.isAgg204
  z233 := Tryz.sizeOf204
  v233 := Tryz.zeroValue204
  g15 := by kernel_rfl
  g16 := by kernel_rfl
  g17 := by kernel_rfl
  g18 := by kernel_rfl
  g19 := by kernel_rfl
  t80 := Tryz.underlying101
  a80 := Tryz.isAgg101
  z80 := Tryz.sizeOf101
  v80 := Tryz.zeroValue101
  i0 := by kernel_rfl
  i2 := by kernel_rfl
  i3 := by kernel_rfl
  i4 := by kernel_rfl
  i5 := by kernel_rfl
  i9 := by kernel_rfl
  i20 := by kernel_rfl
  i21 := by kernel_rfl
  i37 := by kernel_rfl
  i46 := by kernel_rfl
  i51 := by kernel_rfl
  i53 := by kernel_rfl
  i75 := by kernel_rfl
  i80 := by kernel_rfl
  i85 := by kernel_rfl
  i127 := by kernel_rfl
  i143 := by kernel_rfl
  i145 := by kernel_rfl
  i167 := by kernel_rfl
  i168 := by kernel_rfl
  i171 := by kernel_rfl
  i173 := by kernel_rfl
  i175 := by kernel_rfl
  i210 := by kernel_rfl
  i212 := by kernel_rfl
  i232 := by kernel_rfl
  i233 := by kernel_rfl
  m15 := by kernel_rfl
  m16 := by kernel_rfl
  m17 := by kernel_rfl
  m18 := by kernel_rfl
  m19 := by kernel_rfl
  c0 := by kernel_rfl
  c2 := by kernel_rfl
  c3 := by kernel_rfl
  c4 := by kernel_rfl
  c5 := by kernel_rfl
  c9 := by kernel_rfl
  c20 := by kernel_rfl
  c21 := by kernel_rfl
  c37 := by kernel_rfl
  c46 := by kernel_rfl
  c51 := by kernel_rfl
  c53 := by kernel_rfl
  c75 := by kernel_rfl
  c80 := by kernel_rfl
  c85 := by kernel_rfl
  c127 := by kernel_rfl
  c143 := by kernel_rfl
  c145 := by kernel_rfl
  c167 := by kernel_rfl
  c168 := by kernel_rfl
  c171 := by kernel_rfl
  c173 := by kernel_rfl
  c175 := by kernel_rfl
  c210 := by kernel_rfl
  c212 := by kernel_rfl
  c213 := by kernel_rfl
  c232 := by kernel_rfl
  c233 := by kernel_rfl }
def laysM145_ren : Go.Shelf.Ren := ⟨fun | 145 => 58 | 220 => 79 | 219 => 99 | 217 => 85 | 225 => 138 | 224 => 139 | 267 => 140 | 266 => 109 | 314 => 160 | n => n, fun | 9 => 9 | 4 => 4 | 59 => 107 | 3 => 3 | 5 => 5 | 46 => 136 | 146 => 182 | 51 => 159 | n => n, fun | 1 => 1 | n => n⟩
theorem laysM145 : Go.Proofs.LaysM.n145 Tryz.prog laysM145_ren := {
  mixed := by kernel_rfl
  f145 := Tryz.func58.trans (congrArg some (by kernel_rfl))
  f217 := Tryz.func85.trans (congrArg some (by kernel_rfl))
  f219 := Tryz.func99.trans (congrArg some (by kernel_rfl))
  f220 := Tryz.func79.trans (congrArg some (by kernel_rfl))
  f224 := Tryz.func139.trans (congrArg some (by kernel_rfl))
  f225 := Tryz.func138.trans (congrArg some (by kernel_rfl))
  f266 := Tryz.func109.trans (congrArg some (by kernel_rfl))
  f267 := Tryz.func140.trans (congrArg some (by kernel_rfl))
  f314 := Tryz.func160.trans (congrArg some (by kernel_rfl))
  t3 := Tryz.underlying3
  a3 := Tryz.isAgg3
  z3 := Tryz.sizeOf3
  v3 := Tryz.zeroValue3
  t4 := Tryz.underlying4
  a4 := Tryz.isAgg4
  z4 := Tryz.sizeOf4
  v4 := Tryz.zeroValue4
  t5 := Tryz.underlying5
  a5 := Tryz.isAgg5
  z5 := Tryz.sizeOf5
  v5 := Tryz.zeroValue5
  t9 := Tryz.underlying9
  a9 := Tryz.isAgg9
  z9 := Tryz.sizeOf9
  v9 := Tryz.zeroValue9
  t46 := Tryz.underlying136
  a46 := Tryz.isAgg136
  z46 := Tryz.sizeOf136
  v46 := Tryz.zeroValue136
  t51 := Tryz.underlying159
  a51 := Tryz.isAgg159
  z51 := Tryz.sizeOf159
  v51 := Tryz.zeroValue159
  t59 := Tryz.underlying107
  a59 := Tryz.isAgg107
  z59 := Tryz.sizeOf107
  v59 := Tryz.zeroValue107
  t146 := Tryz.underlying182
  a146 := Tryz.isAgg182
  z146 := Tryz.sizeOf182
  v146 := Tryz.zeroValue182
  g1 := by kernel_rfl
  i3 := by kernel_rfl
  i4 := by kernel_rfl
  i5 := by kernel_rfl
  i9 := by kernel_rfl
  i46 := by kernel_rfl
  i51 := by kernel_rfl
  i59 := by kernel_rfl
  i146 := by kernel_rfl
  m1 := by kernel_rfl
  s1_3 := fun w h => Go.Proofs.cell_of_shapedOpen_int (zero := #[.int .i64 0]) (t := 3) h (of_decide_eq_true (by kernel_rfl)) (by kernel_rfl) rfl (by kernel_rfl) (by kernel_rfl) Tryz.underlying3 }
def laysM146_ren : Go.Shelf.Ren := ⟨fun | 146 => 56 | 221 => 78 | 268 => 96 | 138 => 97 | 143 => 98 | 195 => 135 | 197 => 136 | 218 => 137 | 219 => 99 | 260 => 159 | 217 => 85 | 225 => 138 | 224 => 139 | 267 => 140 | 266 => 109 | 314 => 160 | n => n, fun | 9 => 9 | 31 => 25 | 3 => 3 | 4 => 4 | 0 => 0 | 105 => 166 | 21 => 21 | 5 => 5 | 46 => 136 | 119 => 194 | 139 => 197 | 138 => 196 | 146 => 182 | 51 => 159 | n => n, fun | 1 => 1 | 3 => 3 | 4 => 4 | n => n⟩
theorem laysM146 : Go.Proofs.LaysM.n146 Tryz.prog laysM146_ren := {
  mixed := by kernel_rfl
  f138 := Tryz.func97.trans (congrArg some (by kernel_rfl))
  f143 := Tryz.func98.trans (congrArg some (by kernel_rfl))
  f146 := Tryz.func56.trans (congrArg some (by kernel_rfl))
  f195 := Tryz.func135.trans (congrArg some (by kernel_rfl))
  f197 := Tryz.func136.trans (congrArg some (by kernel_rfl))
  f217 := Tryz.func85.trans (congrArg some (by kernel_rfl))
  f218 := Tryz.func137.trans (congrArg some (by kernel_rfl))
  f219 := Tryz.func99.trans (congrArg some (by kernel_rfl))
  f221 := Tryz.func78.trans (congrArg some (by kernel_rfl))
  f224 := Tryz.func139.trans (congrArg some (by kernel_rfl))
  f225 := Tryz.func138.trans (congrArg some (by kernel_rfl))
  f260 := Tryz.func159.trans (congrArg some (by kernel_rfl))
  f266 := Tryz.func109.trans (congrArg some (by kernel_rfl))
  f267 := Tryz.func140.trans (congrArg some (by kernel_rfl))
  f268 := Tryz.func96.trans (congrArg some (by kernel_rfl))
  f314 := Tryz.func160.trans (congrArg some (by kernel_rfl))
  t0 := Tryz.underlying0
  a0 := Tryz.isAgg0
  z0 := Tryz.sizeOf0
  v0 := Tryz.zeroValue0
  t3 := Tryz.underlying3
  a3 := Tryz.isAgg3
  z3 := Tryz.sizeOf3
  v3 := Tryz.zeroValue3
  t4 := Tryz.underlying4
  a4 := Tryz.isAgg4
  z4 := Tryz.sizeOf4
  v4 := Tryz.zeroValue4
  t5 := Tryz.underlying5
  a5 := Tryz.isAgg5
  z5 := Tryz.sizeOf5
  v5 := Tryz.zeroValue5
  t9 := Tryz.underlying9
  a9 := Tryz.isAgg9
  z9 := Tryz.sizeOf9
  v9 := Tryz.zeroValue9
  t21 := Tryz.underlying21
  a21 := Tryz.isAgg21
  z21 := Tryz.sizeOf21
  v21 := Tryz.zeroValue21
  t31 := Tryz.underlying25
  a31 := Tryz.isAgg25
  z31 := Tryz.sizeOf25
  v31 := Tryz.zeroValue25
  t46 := Tryz.underlying136
  a46 := Tryz.isAgg136
  z46 := Tryz.sizeOf136
  v46 := Tryz.zeroValue136
  t51 := Tryz.underlying159
  a51 := Tryz.isAgg159
  z51 := Tryz.sizeOf159
  v51 := Tryz.zeroValue159
  t105 := Tryz.underlying166
  a105 := Tryz.isAgg166
  z105 := Tryz.sizeOf166
  v105 := Tryz.zeroValue166
  t119 := Tryz.underlying194
  a119 := Tryz.isAgg194
  z119 := Tryz.sizeOf194
  t138 := Tryz.underlying196
  a138 := Tryz.isAgg196
  z138 := Tryz.sizeOf196
  v138 := Tryz.zeroValue196
  t139 := Tryz.underlying197
  a139 := Tryz.isAgg197
  z139 := Tryz.sizeOf197
  v139 := Tryz.zeroValue197
  t146 := Tryz.underlying182
  a146 := Tryz.isAgg182
  z146 := Tryz.sizeOf182
  v146 := Tryz.zeroValue182
  g1 := by kernel_rfl
  g3 := by kernel_rfl
  g4 := by kernel_rfl
  i0 := by kernel_rfl
  i3 := by kernel_rfl
  i4 := by kernel_rfl
  i5 := by kernel_rfl
  i9 := by kernel_rfl
  i21 := by kernel_rfl
  i31 := by kernel_rfl
  i46 := by kernel_rfl
  i51 := by kernel_rfl
  i105 := by kernel_rfl
  i138 := by kernel_rfl
  i139 := by kernel_rfl
  i146 := by kernel_rfl
  m1 := by kernel_rfl
  s1_3 := fun w h => Go.Proofs.cell_of_shapedOpen_int (zero := #[.int .i64 0]) (t := 3) h (of_decide_eq_true (by kernel_rfl)) (by kernel_rfl) rfl (by kernel_rfl) (by kernel_rfl) Tryz.underlying3
  m3 := by kernel_rfl
  m4 := by kernel_rfl }
open Go.RowKit in
/-- strconv.ParseInt(s, 10, 64), AT EVERY STRING THAT SPELLS AN int64 ('Lib.parseIntB 64 s.data.toList = .ok v'): v, AND NO ERROR. (LAID: no walk: one application.) -/
theorem strconv_ParseInt_10_at64_ok (s : ByteArray) (hmax : s.size ≤ 9223372036854775806) (v : Int) (h : Lib.parseIntB 64 s.data.toList = .ok v) (w : World) :
    Calls Tryz.prog 103 #[.string s, .int .i64 10, .int .i64 64] w fun e w' => e = .returned (.tuple #[.int .i64 v, .nilIface]) ∧ (w' = w ∨ ∃ t, w' = Lib.bytesWorld w 5 t) := Any.strconv_ParseInt_10_at64_ok laysC174 s hmax v h w
open Go.RowKit in
theorem strconv_ParseInt_10_at64_range_var (s : ByteArray) (hlim : s.size ≤ 281474976710656) (h : Lib.parseIntB 64 s.data.toList = .range) (tp : TypeId) (p : Value) (w : World) (hvar : w.var? Tryz.prog "strconv.ErrRange" = some #[.iface tp p]) :
    Calls Tryz.prog 103 #[.string s, .int .i64 10, .int .i64 64] w fun e w' => ∃ N, e = .returned (.tuple #[.int .i64 (Lib.intSat 64 s.data.toList), .iface 187 (.pointer (some ⟨N, 0, none⟩))]) ∧ w.heap.size ≤ N ∧ w'.heap[N]? = some (.cells #[.string ⟨#[80, 97, 114, 115, 101, 73, 110, 116]⟩, .string s, .iface tp p] 201 (0, 0)) ∧ Below w.heap.size w w' := Any.strconv_ParseInt_10_at64_range_var laysC174 s hlim h tp p w hvar
open Go.RowKit Go.Lib in
theorem strings_Cut_shaped (s sep : ByteArray) (w : World) (h : w.ShapedOpen Tryz.prog) (hs : s.size < 4294967281) :
    Calls Tryz.prog 58 #[.string s, .string sep] w fun e w' => e = .returned (.tuple #[.string ⟨(Lib.cut s.data.toList sep.data.toList).1.toArray⟩, .string ⟨(Lib.cut s.data.toList sep.data.toList).2.1.toArray⟩, .bool (Lib.cut s.data.toList sep.data.toList).2.2]) ∧ ∃ n, w' = w.drewN n := Any.strings_Cut_shaped laysM145 s sep w h hs
open Go.RowKit Go.Lib in
/-- strings.Split, sep not empty. (LAID: no walk: one application.) -/
theorem strings_Split_shaped (s sep : ByteArray) (w : World) (h : w.ShapedOpen Tryz.prog) (hs : s.size < 4294967281) (h1 : 1 ≤ sep.size) :
    Calls Tryz.prog 56 #[.string s, .string sep] w fun e w' =>
      e = .returned (.slice (some ⟨w.heap.size, 0, none⟩) (Lib.countB s sep + 1) (Lib.countB s sep + 1)) ∧ w' = w.alloc (.cells ((Lib.splitB sep 0 (Lib.countB s sep) s).map Value.string).toArray 9) := Any.strings_Split_shaped laysM146 s sep w h hs h1
end Go.Proofs.YtphglnenafdkaaaGreatDoor

namespace Go.Proofs.YtphglnenafdkaaaGreatDoor
open Go.RowKit
set_option linter.unusedVariables false
set_option linter.unusedSimpArgs false

structure Env (w : World) : Prop where
  pow : Lib.TabIs Tryz.prog w "internal/strconv.uint64pow10" .u64 Lib.pow10Tab
  rng : ∃ tp p, w.var? Tryz.prog "strconv.ErrRange" = some #[.iface tp p]
  big : 9 ≤ w.heap.size
theorem gPow : Tryz.prog.globalNamed "internal/strconv.uint64pow10" = some 2 := by kernel_rfl
theorem gRng : Tryz.prog.globalNamed "strconv.ErrRange" = some 6 := by kernel_rfl
theorem Env.below {w w' : World} (h : Env w) (hb : Below w.heap.size w w') : Env w' := by
  have h6 := h.big
  obtain ⟨tp, p, hr⟩ := h.rng
  exact ⟨var?_below hb gPow (by omega) h.pow, ⟨tp, p, var?_below hb gRng (by omega) hr⟩, by have := hb.size; omega⟩
theorem Env.over {w w' : World} {N : Nat} (h : Env w) (hb : Below N w w') (hN : 9 ≤ N) : Env w' := by
  have h6 := h.big
  obtain ⟨tp, p, hr⟩ := h.rng
  exact ⟨var?_below hb gPow (by omega) h.pow, ⟨tp, p, var?_below hb gRng (by omega) hr⟩, by have := hb.size; omega⟩
theorem parseI_ok (s : ByteArray) (hs : s.size ≤ 140737488351232) (v : Int) (h : Lib.parseIntB 64 s.data.toList = .ok v) (w : World) :
    Calls Tryz.prog 103 #[.string s, .int .i64 10, .int .i64 64] w fun e w' => e = .returned (.tuple #[.int .i64 v, .nilIface]) ∧ Below w.heap.size w w' := by
  refine (strconv_ParseInt_10_at64_ok s (by omega) v h w).mono ?_
  rintro e w' ⟨rfl, hw⟩
  refine ⟨rfl, ?_⟩
  rcases hw with rfl | ⟨t, rfl⟩
  · exact Below.refl _ _
  · exact Lib.bytesWorld_below _ _ _
theorem parseI_rng (s : ByteArray) (hs : s.size ≤ 140737488351232) (h : Lib.parseIntB 64 s.data.toList = .range) (w : World) (he : Env w) :
    Calls Tryz.prog 103 #[.string s, .int .i64 10, .int .i64 64] w fun e w' => ∃ n N, e = .returned (.tuple #[.int .i64 n, .iface 187 (.pointer (some ⟨N, 0, none⟩))]) ∧ Below w.heap.size w w' := by
  obtain ⟨tp, p, hr⟩ := he.rng
  refine (strconv_ParseInt_10_at64_range_var s (by omega) h tp p w hr).mono ?_
  rintro e w' ⟨N, rfl, _, _, hb⟩
  exact ⟨_, N, rfl, hb⟩
theorem fmt_any (n : Int) (h0 : -9223372036854775808 ≤ n) (h1 : n ≤ 9223372036854775807) (w : World) (he : Env w) :
    Calls Tryz.prog 69 #[.int .i64 n, .int .i64 10] w fun e w' => e = .returned (.string ⟨(Lib.itoa n).toArray⟩) ∧ Below w.heap.size w w' := by
  refine (strconv_FormatInt_10 n h0 h1 w he.pow).mono ?_
  rintro e w' ⟨rfl, k, os, rfl⟩
  exact ⟨rfl, rfl, rfl, rfl, by rw [Sort.size_grow]; exact Nat.le_add_right _ _, fun b hb => Array.getElem?_append_left (show b < w.heap.size from hb)⟩
end Go.Proofs.YtphglnenafdkaaaGreatDoor

namespace Go.Proofs.YtphglnenafdkaaaGreatDoor
open Go.RowKit
set_option linter.unusedVariables false
set_option linter.unusedSimpArgs false

theorem digit_any (c : UInt8) (w : World) : Calls Tryz.prog 102 #[.int .u8 (c.toNat : Nat)] w fun e w' => e = .returned (.bool (isD c)) ∧ w' = w := by
  unfold isD
  by_cases h : 48 ≤ c.toNat
  · have t1 : decide ((48 : Int) ≤ (c.toNat : Int)) = true := decide_eq_true (by omega)
    have hc : Hid ((decide (48 ≤ c.toNat) && decide (c.toNat ≤ 57)) = decide ((c.toNat : Int) ≤ 57)) := hid (by rw [decide_eq_true h, Bool.true_and]; exact decide_eq_decide.2 (by omega))
    clear h
    go_enter Tryz.func102, Tryz.ntmps102
    go_wp2_with fail
    go_ret
    exact ⟨by rw [hc.out]; first | rfl | simp, rfl⟩
  · have t1 : decide ((48 : Int) ≤ (c.toNat : Int)) = false := decide_eq_false (by omega)
    have hc : Hid ((decide (48 ≤ c.toNat) && decide (c.toNat ≤ 57)) = false) := hid (by rw [decide_eq_false h, Bool.false_and])
    clear h
    go_enter Tryz.func102, Tryz.ntmps102
    go_wp2_with fail
    go_ret
    exact ⟨by rw [hc.out]; rfl, rfl⟩
theorem takeWhile_take {α : Type} (p : α → Bool) : ∀ (n : Nat) (l : List α), n ≤ l.length → (∀ j (h : j < l.length), j < n → p l[j] = true) → (∀ h : n < l.length, p l[n] = false) → l.takeWhile p = l.take n := by
  intro n
  induction n with
  | zero =>
    intro l _ _ h2
    cases l with
    | nil => rfl
    | cons c r => rw [List.takeWhile_cons, if_neg (by rw [show p c = false from h2 (by simp)]; decide)]; rfl
  | succ n ih =>
    intro l hl h1 h2
    cases l with
    | nil => simp at hl
    | cons c r =>
      rw [List.takeWhile_cons, if_pos (show p c = true from h1 0 (by simp) (by omega)), List.take_succ_cons, ih r (by simpa using hl) (fun j hj hn => h1 (j + 1) (by simpa using hj) (by omega)) (fun h => h2 (by simpa using h))]
theorem parseI_num (neg : Bool) {ds : List UInt8} (hd : ∀ c ∈ ds, isD c = true) (h0 : ds ≠ []) :
    Lib.parseIntB 64 (if neg = true then 45 :: ds else ds) = if (if neg = true then 9223372036854775808 < dval 0 ds else 9223372036854775808 ≤ dval 0 ds) then .range else .ok (if neg = true then -(dval 0 ds : Int) else dval 0 ds) := by
  cases neg with
  | true =>
    simp only [if_true]
    rw [parseI_neg hd h0]
    by_cases h : dval 0 ds ≤ 9223372036854775808
    · rw [if_pos h, if_neg (by omega)]
    · rw [if_neg h, if_pos (by omega)]
  | false =>
    simp only [Bool.false_eq_true, if_false]
    rw [parseI_pos hd h0]
    by_cases h : dval 0 ds < 9223372036854775808
    · rw [if_pos h, if_neg (by omega)]
    · rw [if_neg h, if_pos (by omega)]
/-- the digits stand from f to k -/
structure Dig (s : ByteArray) (neg : Bool) (f k : Nat) : Prop where
  fe : f = if neg = true then 1 else 0
  hd : decide (s.data.toList.head? = some 45) = neg
  le : f ≤ k ∧ k ≤ s.size
  ds : digs s.data.toList = (s.data.toList.drop f).take (k - f)
  len : (digs s.data.toList).length = k - f
  all : ∀ c ∈ digs s.data.toList, isD c = true
section
variable {s : ByteArray} {neg : Bool} {f k : Nat}
theorem Dig.mk' (fe : f = if neg = true then 1 else 0) (hd : decide (s.data.toList.head? = some 45) = neg) (le : f ≤ k ∧ k ≤ s.size) (h1 : ∀ j (hj : j < s.size), f ≤ j → j < k → isD (s.data[j]'hj) = true) (h2 : ∀ h : k < s.size, isD (s.data[k]'h) = false) : Dig s neg f k := by
  have hf : fromL s.data.toList = f := by
    unfold fromL
    rw [fe, ← hd]
    by_cases h : s.data.toList.head? = some 45 <;> simp [h]
  have hl : s.data.toList.length = s.size := by rw [Array.length_toList]; rfl
  have e : digs s.data.toList = (s.data.toList.drop f).take (k - f) := by
    unfold digs
    rw [hf]
    refine takeWhile_take isD (k - f) _ (by rw [List.length_drop, hl]; omega) (fun j hj hn => ?_) (fun h => ?_)
    · rw [List.length_drop, hl] at hj
      rw [List.getElem_drop, Array.getElem_toList]
      exact h1 _ (by omega) (by omega) (by omega)
    · rw [List.length_drop, hl] at h
      rw [List.getElem_drop, Array.getElem_toList]
      have := h2 (by omega)
      simp only [show f + (k - f) = k by omega]
      exact this
  refine ⟨fe, hd, le, e, ?_, by unfold digs; exact takeWhile_mem⟩
  rw [e, List.length_take, List.length_drop, hl]
  omega
theorem Dig.num (h : Dig s neg f k) : numL s.data.toList = numE neg (digs s.data.toList) s.size := by
  unfold numL
  rw [h.hd, Array.length_toList]
  rfl
theorem Dig.f1 (h : Dig s neg f k) : (if neg = true then 1 else 0) = f := h.fe.symm
theorem Dig.c1 (h : Dig s neg f k) (hk : k = f) (he : k = s.size) : numL s.data.toList = .bad 3 k := by
  have e : digs s.data.toList = [] := List.eq_nil_of_length_eq_zero (by rw [h.len]; omega)
  rw [h.num]; unfold numE; simp only; rw [if_pos e, h.f1, if_pos (by omega), hk]
theorem Dig.c2 (h : Dig s neg f k) (hk : k = f) (he : k ≠ s.size) : numL s.data.toList = .bad 21 k := by
  have e : digs s.data.toList = [] := List.eq_nil_of_length_eq_zero (by rw [h.len]; omega)
  rw [h.num]; unfold numE; simp only; rw [if_pos e, h.f1, if_neg (by omega), hk]
theorem Dig.ne (h : Dig s neg f k) (hk : f < k) : digs s.data.toList ≠ [] := fun e => by have := h.len; rw [e] at this; simp at this; omega
theorem Dig.head (h : Dig s neg f k) (hk : f < k) (hf : f < s.size) : (digs s.data.toList).head? = some (s.data[f]'hf) := by
  rw [h.ds, head_take (by omega), drop_some hf]; rfl
theorem Dig.c3 (h : Dig s neg f k) (hk : f < k) (hf : f < s.size) (h48 : s.data[f]'hf = 48) (hn : neg = true) : numL s.data.toList = .bad 21 1 := by
  rw [h.num]; unfold numE; simp only; rw [if_neg (h.ne hk), h.head hk hf, h48, if_pos ⟨rfl, hn⟩]
theorem Dig.c4 (h : Dig s neg f k) (hk : f + 1 < k) (hf : f < s.size) (h48 : s.data[f]'hf = 48) (hn : neg = false) : numL s.data.toList = .bad 21 1 := by
  rw [h.num]; unfold numE; simp only; rw [if_neg (h.ne (by omega)), h.head (by omega) hf, h48, if_neg (by rw [hn]; simp), if_pos ⟨rfl, by rw [h.len]; omega⟩]
def Dig.Big (s : ByteArray) (neg : Bool) : Prop := if neg = true then 9223372036854775808 < dval 0 (digs s.data.toList) else 9223372036854775808 ≤ dval 0 (digs s.data.toList)
def Dig.val (s : ByteArray) (neg : Bool) : Int := if neg = true then -(dval 0 (digs s.data.toList) : Int) else dval 0 (digs s.data.toList)
theorem Dig.c567 (h : Dig s neg f k) (hk : f < k) (hf : f < s.size) (h48 : s.data[f]'hf = 48 → neg = false ∧ k = f + 1) : (Dig.Big s neg → numL s.data.toList = .bad 22 0) ∧ (¬ Dig.Big s neg → k < s.size → numL s.data.toList = .bad 4 k) ∧ (¬ Dig.Big s neg → k = s.size → numL s.data.toList = .good (intV (Dig.val s neg))) := by
  have hE : numL s.data.toList = if (if neg = true then 9223372036854775808 < dval 0 (digs s.data.toList) else 9223372036854775808 ≤ dval 0 (digs s.data.toList)) then .bad 22 0 else if f + (k - f) < s.size then .bad 4 (f + (k - f)) else .good (intV (if neg = true then -(dval 0 (digs s.data.toList) : Int) else dval 0 (digs s.data.toList))) := by
    rw [h.num]
    unfold numE
    simp only
    rw [if_neg (h.ne hk), h.head hk hf, if_neg (by rintro ⟨e, hn⟩; have := h48 (Option.some.inj e); rw [hn] at this; exact absurd this.1 (by decide)), if_neg (by rintro ⟨e, hn⟩; have := h48 (Option.some.inj e); rw [h.len] at hn; omega), h.f1, h.len]
  unfold Dig.Big Dig.val
  refine ⟨fun hb => ?_, fun hb hl => ?_, fun hb hl => ?_⟩
  · rw [hE, if_pos hb]
  · rw [hE, if_neg hb, if_pos (by omega), show f + (k - f) = k by omega]
  · rw [hE, if_neg hb, if_neg (by omega)]
theorem Dig.parse (h : Dig s neg f k) (hk : f < k) : (Dig.Big s neg → Lib.parseIntB 64 (s.extract 0 k).data.toList = .range) ∧ (¬ Dig.Big s neg → Lib.parseIntB 64 (s.extract 0 k).data.toList = .ok (Dig.val s neg)) := by
  have e : (s.extract 0 k).data.toList = if neg = true then 45 :: digs s.data.toList else digs s.data.toList := by
    have e1 : (s.extract 0 k).data.toList = s.data.toList.take k := by
      rw [ByteArray.data_extract, Array.toList_extract, List.extract_eq_take_drop]; simp
    rw [e1, h.ds]
    have hfe := h.fe
    cases neg with
    | false => simp only [Bool.false_eq_true, if_false] at hfe ⊢; subst hfe; simp
    | true =>
      simp only [if_true] at hfe ⊢
      subst hfe
      have h0 : s.data.toList.head? = some 45 := of_decide_eq_true h.hd
      cases hs : s.data.toList with
      | nil => rw [hs] at h0; cases h0
      | cons a r =>
        rw [hs] at h0
        obtain rfl : a = 45 := Option.some.inj h0
        obtain ⟨k', rfl⟩ : ∃ k', k = k' + 1 := ⟨k - 1, by omega⟩
        simp
  rw [e, parseI_num neg h.all (h.ne hk)]
  exact ⟨fun hb => if_pos hb, fun hb => if_neg hb⟩
theorem Dig.rng (h : Dig s neg f k) (hb : ¬ Dig.Big s neg) : -9223372036854775808 ≤ Dig.val s neg ∧ Dig.val s neg ≤ 9223372036854775807 := by
  unfold Dig.Big at hb; unfold Dig.val
  cases neg <;> simp at hb ⊢ <;> omega
end

end Go.Proofs.YtphglnenafdkaaaGreatDoor

namespace Go.Proofs.YtphglnenafdkaaaGreatDoor
open Go.RowKit
set_option linter.unusedVariables false
set_option linter.unusedSimpArgs false

def lb (L : List Nat) : List UInt8 := L.map UInt8.ofNat
theorem lb_len (L : List Nat) : (lb L).length = L.length := List.length_map ..
theorem lb_snoc (L : List Nat) (c : UInt8) : lb (L ++ [c.toNat]) = lb L ++ [c] := by unfold lb; simp
theorem lb_bt (L : List Nat) : (wordV (lb L)).s = bt L := rfl
section
variable {s : ByteArray} {k : Nat} {L : List Nat}
theorem sc_end (hk : s.size ≤ k) (out : List UInt8) : scanL (s.data.toList.drop k) k out = .bad 3 k := by rw [drop_end hk]; rfl
theorem sc_quote (hk : k < s.size) (h : s.data[k]'hk = 34) (out : List UInt8) : scanL (s.data.toList.drop k) k out = if k + 1 < s.size then .bad 4 (k + 1) else .good (wordV out) := by
  rw [drop_some hk, scan_c (by rw [h]; decide), if_pos h]
  by_cases h1 : k + 1 < s.size
  · rw [if_pos h1, if_neg (by rw [drop_some h1]; simp)]
  · rw [if_neg h1, if_pos (drop_end (by omega))]
theorem okB_92 : okB 92 = true := by decide
theorem sc_bad (hk : k < s.size) (h0 : s.data[k]'hk ≠ 34) (h : okB (s.data[k]'hk) = false) (out : List UInt8) : scanL (s.data.toList.drop k) k out = .bad 21 k := by
  have h92 : s.data[k]'hk ≠ 92 := fun e => by rw [e] at h; exact absurd h (by decide)
  rw [drop_some hk, scan_c h92, if_neg h0, if_pos h]
theorem sc_long (hk : k < s.size) (h0 : s.data[k]'hk ≠ 34) (h : okB (s.data[k]'hk) = true) {out : List UInt8} (hl : out.length = 64) : scanL (s.data.toList.drop k) k out = .bad 1 k := by
  rw [drop_some hk]
  by_cases h92 : s.data[k]'hk = 92
  · rw [h92]
    cases s.data.toList.drop (k + 1) with
    | nil => rw [scan_b1, if_pos hl]
    | cons d r => rw [scan_b2, if_pos hl]
  · rw [scan_c h92, if_neg h0, if_neg (by rw [h]; decide), if_pos hl]
theorem sc_one (hk : k < s.size) (h0 : s.data[k]'hk ≠ 34) (h : okB (s.data[k]'hk) = true) {out : List UInt8} (hl : out.length ≠ 64) (h92 : s.data[k]'hk ≠ 92) : scanL (s.data.toList.drop k) k out = scanL (s.data.toList.drop (k + 1)) (k + 1) (out ++ [s.data[k]'hk]) := by
  rw [drop_some hk, scan_c h92, if_neg h0, if_neg (by rw [h]; decide), if_neg hl]
theorem sc_half (hk : k < s.size) {out : List UInt8} (hl : out.length ≠ 64) (h92 : s.data[k]'hk = 92) (he : s.size = k + 1) : scanL (s.data.toList.drop k) k out = .bad 3 s.size := by
  rw [drop_some hk, drop_end (by omega), h92, scan_b1, if_neg hl, he]
theorem sc_two (hk : k < s.size) {out : List UInt8} (hl : out.length ≠ 64) (h92 : s.data[k]'hk = 92) (he : k + 1 < s.size) : scanL (s.data.toList.drop k) k out = if s.data[k + 1]'he = 34 ∨ s.data[k + 1]'he = 92 then scanL (s.data.toList.drop (k + 2)) (k + 2) (out ++ [s.data[k + 1]'he]) else .bad 21 (k + 1) := by
  rw [drop_some hk, drop_some he, h92, scan_b2, if_neg hl]
theorem byte_ne {hk : k < s.size} {c : UInt8} (h : s.data[k]'hk ≠ c) : (s[k]'hk).toNat ≠ c.toNat := fun e => h (UInt8.toNat_inj.1 e)
theorem byte_eq {hk : k < s.size} {c : UInt8} (h : s.data[k]'hk = c) : (s[k]'hk).toNat = c.toNat := by show (s.data[k]'hk).toNat = c.toNat; rw [h]
end

set_option maxRecDepth 100000 in
set_option maxHeartbeats 4000000 in
theorem parseText_any (s : ByteArray) (w : World) (hs : s.size ≤ 140737488351232) (h1s : 1 ≤ s.size) : Calls Tryz.prog 80 #[.string s] w (PzOut (scanL (s.data.toList.drop 1) 1 []) w) := by
  generalize hRR0 : scanL (s.data.toList.drop 1) 1 [] = R
  have hRR := hid hRR0
  clear hRR0
  obtain ⟨ib, hb0, hb1, hb2, hb3⟩ := info_parts info_u8
  have hz := hid (VZ.start w)
  have hs9 : (s.size : Int) ≤ 140737488351232 := by omega
  have hs8 := hid hs
  clear hs
  go_enter Tryz.func80, Tryz.ntmps80
  go_upto_region 1 with fail
  generalize w.alloc (.cells #[.int .i64 0, .int .i64 0, .string ⟨#[]⟩] 38) = W at *
  obtain ⟨fz, hlt, z0, z1, z2⟩ := hz.out.facts
  go_wp2_with fail
  go_loopw [5, 6, 7, 8] (fun v5 v6 _ _ wr => ∃ (k : Nat) (A : Option Addr) (c : Nat) (L : List Nat), v5 = .slice A L.length c ∧ v6 = .int .i64 k ∧ 1 ≤ k ∧ k ≤ s.size ∧ L.length ≤ 64 ∧ wr.ownsRow W.heap.size 5 1 (.slice A L.length c) L.length (bcells L) ∧ Below W.heap.size W wr ∧ scanL (s.data.toList.drop k) k (lb L) = R) (fun _ v6 _ _ _ => s.size - (intOf v6).toNat)
  case atStart => exact ⟨1, none, 0, [], rfl, rfl, Nat.le_refl _, h1s, by decide, World.ownsRow_nil _ _ _ _, Below.refl _ _, hRR.out⟩
  case round =>
    clear fz hlt z0 z1 z2
    obtain ⟨k, A, c, L, rfl, rfl, hk1, hks, hL0, hown0, hB0, hR0⟩ := hrel
    have hL := hid hL0; have hown := hid hown0; have hB := hid hB0; have hR := hid hR0
    have hL9 : (L.length : Int) ≤ 64 := by omega
    clear hL0 hown0 hB0 hR0
    by_cases hlt : k < s.size
    · have i1 : (k : Int) < (s.size : Int) := by omega
      by_cases h34 : s.data[k]'hlt = 34
      · have b1 : (s[k]'hlt).toNat = 34 := byte_eq (hk := hlt) h34
        have b2 : (((s[k]'hlt).toNat : Int) == 34) = true := by rw [b1]; rfl
        have hsc := sc_quote hlt h34 (lb L)
        by_cases hmo : k + 1 < s.size
        · have i2 : (k : Int) + 1 < (s.size : Int) := by omega
          have hfin : Hid (R = .bad 4 (k + 1)) := hid (by rw [← hR.out, hsc, if_pos hmo])
          clear hsc h34 hmo
          have hz := hid (hz.out.below hB.out)
          obtain ⟨fz, hlt, z0, z1, z2⟩ := hz.out.facts
          go_wp2_with fail
          have hT := hz.out.set ⟨0, 0, ⟨#[]⟩⟩
          dsimp only at hT
          obtain ⟨-, -, z0, z1, z2⟩ := hT.facts
          dsimp only at z0 z1 z2
          refine bodyPost_ret (v := .tuple #[.agg #[.int .i64 (⟨0, 0, ⟨#[]⟩⟩ : Vl).k, .int .i64 (⟨0, 0, ⟨#[]⟩⟩ : Vl).n, .string (⟨0, 0, ⟨#[]⟩⟩ : Vl).s], .int .i64 4, .int .i64 ((k + 1 : Nat) : Int)]) (by simp [results, Tryz.results80, go_sem, z0, z1, z2]) rfl ⟨?_, hT.bel⟩
          rw [hfin.out]; rfl
        · have i2 : ¬ ((k : Int) + 1 < (s.size : Int)) := by omega
          have hfin : Hid (R = .good (wordV (lb L))) := hid (by rw [← hR.out, hsc, if_neg hmo])
          clear hsc h34 hmo
          have hcv := convB (Rd.of_own hown.out) (c := c) rfl
          go_wp2_with fail
          refine (word2_any _ _).mono ?_
          rintro e w2 ⟨rfl, hb20⟩
          have hB2 := hid (hB.out.trans (hb20.mono hB.out.size))
          clear hb20 hcv
          have hz := hid (hz.out.below hB2.out)
          obtain ⟨fz, hlt, z0, z1, z2⟩ := hz.out.facts
          go_wp2_with fail
          have hT := hz.out.set ⟨2, 0, bt L⟩
          dsimp only at hT
          obtain ⟨-, -, z0, z1, z2⟩ := hT.facts
          dsimp only at z0 z1 z2
          refine bodyPost_ret (v := .tuple #[.agg #[.int .i64 (⟨2, 0, bt L⟩ : Vl).k, .int .i64 (⟨2, 0, bt L⟩ : Vl).n, .string (⟨2, 0, bt L⟩ : Vl).s], .int .i64 0, .int .i64 0]) (by simp [results, Tryz.results80, go_sem, z0, z1, z2]) rfl ⟨?_, hT.bel⟩
          rw [hfin.out]; rfl
      · have b1 : (s[k]'hlt).toNat ≠ 34 := byte_ne (hk := hlt) h34
        have b2 : (((s[k]'hlt).toNat : Int) == 34) = false := by simp; omega
        cases hok : okB (s.data[k]'hlt) with
        | false =>
          have hpl := hid (mayB hlt hok (plain_any _ wr))
          have hfin : Hid (R = .bad 21 k) := hid (by rw [← hR.out, sc_bad hlt h34 hok])
          clear h34 hok b1
          go_wp2_with fail
          refine hpl.out.mono ?_
          rintro e w2 ⟨rfl, hwq⟩
          obtain rfl := hwq.symm
          clear hpl
          have hz := hid (hz.out.below hB.out)
          obtain ⟨fz, hlt, z0, z1, z2⟩ := hz.out.facts
          go_wp2_with fail
          have hT := hz.out.set ⟨0, 0, ⟨#[]⟩⟩
          dsimp only at hT
          obtain ⟨-, -, z0, z1, z2⟩ := hT.facts
          dsimp only at z0 z1 z2
          refine bodyPost_ret (v := .tuple #[.agg #[.int .i64 (⟨0, 0, ⟨#[]⟩⟩ : Vl).k, .int .i64 (⟨0, 0, ⟨#[]⟩⟩ : Vl).n, .string (⟨0, 0, ⟨#[]⟩⟩ : Vl).s], .int .i64 21, .int .i64 (k : Nat)]) (by simp [results, Tryz.results80, go_sem, z0, z1, z2]) rfl ⟨?_, hT.bel⟩
          rw [hfin.out]; rfl
        | true =>
          have hpl := hid (mayB hlt hok (plain_any _ wr))
          by_cases h64 : L.length = 64
          · have l1 : ((L.length : Int) == 64) = true := by rw [h64]; rfl
            have hfin : Hid (R = .bad 1 k) := hid (by rw [← hR.out, sc_long hlt h34 hok (by rw [lb_len]; exact h64)])
            clear h34 hok b1 h64
            go_wp2_with fail
            refine hpl.out.mono ?_
            rintro e w2 ⟨rfl, hwq⟩
            obtain rfl := hwq.symm
            clear hpl
            have hz := hid (hz.out.below hB.out)
            obtain ⟨fz, hlt, z0, z1, z2⟩ := hz.out.facts
            go_wp2_with fail
            have hT := hz.out.set ⟨0, 0, ⟨#[]⟩⟩
            dsimp only at hT
            obtain ⟨-, -, z0, z1, z2⟩ := hT.facts
            dsimp only at z0 z1 z2
            refine bodyPost_ret (v := .tuple #[.agg #[.int .i64 (⟨0, 0, ⟨#[]⟩⟩ : Vl).k, .int .i64 (⟨0, 0, ⟨#[]⟩⟩ : Vl).n, .string (⟨0, 0, ⟨#[]⟩⟩ : Vl).s], .int .i64 1, .int .i64 (k : Nat)]) (by simp [results, Tryz.results80, go_sem, z0, z1, z2]) rfl ⟨?_, hT.bel⟩
            rw [hfin.out]; rfl
          · have l1 : ((L.length : Int) == 64) = false := by simp; omega
            have hL2 := hid (show L.length + 1 ≤ 64 by have := hL.out; omega)
            by_cases h92 : s.data[k]'hlt = 92
            · have b3 : (s[k]'hlt).toNat = 92 := byte_eq (hk := hlt) h92
              have hpl : Hid (Calls Tryz.prog 101 #[.int .u8 92] wr fun e w' => e = .returned (.bool true) ∧ w' = wr) := hid (by have h := mayB hlt hok (plain_any _ wr); rw [b3] at h; exact h)
              have b4 : (((s[k]'hlt).toNat : Int) == 92) = true := by rw [b3]; rfl
              by_cases hen : s.size = k + 1
              · have e1 : ((k : Int) + 1 == (s.size : Int)) = true := by rw [hen]; simp
                have hfin : Hid (R = .bad 3 s.size) := hid (by rw [← hR.out, sc_half hlt (by rw [lb_len]; exact h64) h92 hen])
                clear h34 hok b1 h64 h92 hen
                go_wp2_with fail
                refine hpl.out.mono ?_
                rintro e w2 ⟨rfl, hwq⟩
                obtain rfl := hwq.symm
                clear hpl
                have hz := hid (hz.out.below hB.out)
                obtain ⟨fz, hlt, z0, z1, z2⟩ := hz.out.facts
                go_wp2_with fail
                have hT := hz.out.set ⟨0, 0, ⟨#[]⟩⟩
                dsimp only at hT
                obtain ⟨-, -, z0, z1, z2⟩ := hT.facts
                dsimp only at z0 z1 z2
                refine bodyPost_ret (v := .tuple #[.agg #[.int .i64 (⟨0, 0, ⟨#[]⟩⟩ : Vl).k, .int .i64 (⟨0, 0, ⟨#[]⟩⟩ : Vl).n, .string (⟨0, 0, ⟨#[]⟩⟩ : Vl).s], .int .i64 3, .int .i64 (s.size : Nat)]) (by simp [results, Tryz.results80, go_sem, z0, z1, z2]) rfl ⟨?_, hT.bel⟩
                rw [hfin.out]; rfl
              · have hl2 : k + 1 < s.size := by omega
                have i2 : (k : Int) + 1 < (s.size : Int) := by omega
                have e1 : ((k : Int) + 1 == (s.size : Int)) = false := by simp; omega
                have hst := sc_two hlt (out := lb L) (by rw [lb_len]; exact h64) h92 hl2
                clear h34 hok b1 h64 h92 hen
                by_cases d34 : s.data[k + 1]'hl2 = 34
                · have d1 : (s[k + 1]'hl2).toNat = 34 := byte_eq (hk := hl2) d34
                  have d2 : (((s[k + 1]'hl2).toNat : Int) != 34) = false := by rw [d1]; rfl
                  have hR2 : Hid (scanL (s.data.toList.drop (k + 2)) (k + 2) (lb (L ++ [34])) = R) := hid (by rw [← hR.out, hst, if_pos (.inl d34), d34, show (34 : Nat) = (34 : UInt8).toNat from rfl, lb_snoc])
                  clear hst d34
                  go_wp2_with fail
                  refine hpl.out.mono ?_
                  rintro e w2 ⟨rfl, hwq⟩
                  obtain rfl := hwq.symm
                  clear hpl
                  go_wp2_with (
                    at_builtin
                    refine wpList_append_rd _ rfl (.tmp 62) (.tmp 64) 41 rfl W.heap.size 5 ib _ 1 1 Tryz.underlying41 hb0 hb1 hb2 hb3 rfl (by omega) (.slice A L.length c) L.length (bcells L) rfl (hown.out.alloc _) (fun b => b = wr.heap.size) (some ⟨wr.heap.size, 0, none⟩) 1 1 [.int .u8 (((34 : Nat) : Int))] rfl (Rd.new wr 5 1 1 #[.int .u8 (((34 : Nat) : Int))] _ rfl rfl) (by intro u hu; simp at hu; subst hu; rfl) (by simp only [maxLen]; have := hL.out; omega) (by have := hL.out; omega) (by have := hB.out.size; simp; omega) ?_
                    intro v9 w9 hown9 hg9 hat9
                    have hB9 := hid ((hB.out.alloc hB.out.size (.cells #[.int .u8 (((34 : Nat) : Int))] 5)).grown hg9 (by have := hB.out.size; simp; omega) fun k hk => (hown.out.lt k hk).1)
                    obtain ⟨A9, c9, rfl, _⟩ := own_form hown9
                    rw [← bcells_snoc] at hown9
                    have hown9 := hid hown9
                    clear hg9 hat9)
                  refine ⟨⟨k + 2, A9, c9, L ++ [34], by simp, by first | rfl | (simp; done) | (simp; omega), by omega, by omega, by have := hL2.out; simp; omega, by simpa using hown9.out, hB9.out, hR2.out⟩, ?_⟩
                  simp [intOf]
                  omega
                · by_cases d92 : s.data[k + 1]'hl2 = 92
                  · have d1 : (s[k + 1]'hl2).toNat = 92 := byte_eq (hk := hl2) d92
                    have d2 : (((s[k + 1]'hl2).toNat : Int) != 34) = true := by rw [d1]; rfl
                    have d3 : (((s[k + 1]'hl2).toNat : Int) != 92) = false := by rw [d1]; rfl
                    have hR2 : Hid (scanL (s.data.toList.drop (k + 2)) (k + 2) (lb (L ++ [92])) = R) := hid (by rw [← hR.out, hst, if_pos (.inr d92), d92, show (92 : Nat) = (92 : UInt8).toNat from rfl, lb_snoc])
                    clear hst d34 d92
                    go_wp2_with fail
                    refine hpl.out.mono ?_
                    rintro e w2 ⟨rfl, hwq⟩
                    obtain rfl := hwq.symm
                    clear hpl
                    go_wp2_with (
                      at_builtin
                      refine wpList_append_rd _ rfl (.tmp 62) (.tmp 64) 41 rfl W.heap.size 5 ib _ 1 1 Tryz.underlying41 hb0 hb1 hb2 hb3 rfl (by omega) (.slice A L.length c) L.length (bcells L) rfl (hown.out.alloc _) (fun b => b = wr.heap.size) (some ⟨wr.heap.size, 0, none⟩) 1 1 [.int .u8 (((92 : Nat) : Int))] rfl (Rd.new wr 5 1 1 #[.int .u8 (((92 : Nat) : Int))] _ rfl rfl) (by intro u hu; simp at hu; subst hu; rfl) (by simp only [maxLen]; have := hL.out; omega) (by have := hL.out; omega) (by have := hB.out.size; simp; omega) ?_
                      intro v9 w9 hown9 hg9 hat9
                      have hB9 := hid ((hB.out.alloc hB.out.size (.cells #[.int .u8 (((92 : Nat) : Int))] 5)).grown hg9 (by have := hB.out.size; simp; omega) fun k hk => (hown.out.lt k hk).1)
                      obtain ⟨A9, c9, rfl, _⟩ := own_form hown9
                      rw [← bcells_snoc] at hown9
                      have hown9 := hid hown9
                      clear hg9 hat9)
                    refine ⟨⟨k + 2, A9, c9, L ++ [92], by simp, by first | rfl | (simp; done) | (simp; omega), by omega, by omega, by have := hL2.out; simp; omega, by simpa using hown9.out, hB9.out, hR2.out⟩, ?_⟩
                    simp [intOf]
                    omega
                  · have d1 : (s[k + 1]'hl2).toNat ≠ 34 := byte_ne (hk := hl2) d34
                    have d1' : (s[k + 1]'hl2).toNat ≠ 92 := byte_ne (hk := hl2) d92
                    have d2 : (((s[k + 1]'hl2).toNat : Int) != 34) = true := by simp; omega
                    have d3 : (((s[k + 1]'hl2).toNat : Int) != 92) = true := by simp; omega
                    have hfin : Hid (R = .bad 21 (k + 1)) := hid (by rw [← hR.out, hst, if_neg (fun e => e.elim d34 d92)])
                    clear hst d34 d92 d1 d1'
                    go_wp2_with fail
                    refine hpl.out.mono ?_
                    rintro e w2 ⟨rfl, hwq⟩
                    obtain rfl := hwq.symm
                    clear hpl
                    have hz := hid (hz.out.below hB.out)
                    obtain ⟨fz, hlt, z0, z1, z2⟩ := hz.out.facts
                    go_wp2_with fail
                    have hT := hz.out.set ⟨0, 0, ⟨#[]⟩⟩
                    dsimp only at hT
                    obtain ⟨-, -, z0, z1, z2⟩ := hT.facts
                    dsimp only at z0 z1 z2
                    refine bodyPost_ret (v := .tuple #[.agg #[.int .i64 (⟨0, 0, ⟨#[]⟩⟩ : Vl).k, .int .i64 (⟨0, 0, ⟨#[]⟩⟩ : Vl).n, .string (⟨0, 0, ⟨#[]⟩⟩ : Vl).s], .int .i64 21, .int .i64 ((k + 1 : Nat) : Int)]) (by simp [results, Tryz.results80, go_sem, z0, z1, z2]) rfl ⟨?_, hT.bel⟩
                    rw [hfin.out]; rfl
            · have b3 : (s[k]'hlt).toNat ≠ 92 := byte_ne (hk := hlt) h92
              have b4 : (((s[k]'hlt).toNat : Int) == 92) = false := by simp; omega
              have hR2 : Hid (scanL (s.data.toList.drop (k + 1)) (k + 1) (lb (L ++ [(s[k]'hlt).toNat])) = R) := hid (by rw [← hR.out, sc_one hlt h34 hok (by rw [lb_len]; exact h64) h92, show (s[k]'hlt).toNat = (s.data[k]'hlt).toNat from rfl, lb_snoc])
              clear h34 hok b1 h64 h92
              go_wp2_with fail
              refine hpl.out.mono ?_
              rintro e w2 ⟨rfl, hwq⟩
              obtain rfl := hwq.symm
              clear hpl
              go_wp2_with (
                at_builtin
                refine wpList_append_rd _ rfl (.tmp 62) (.tmp 64) 41 rfl W.heap.size 5 ib _ 1 1 Tryz.underlying41 hb0 hb1 hb2 hb3 rfl (by omega) (.slice A L.length c) L.length (bcells L) rfl (hown.out.alloc _) (fun b => b = wr.heap.size) (some ⟨wr.heap.size, 0, none⟩) 1 1 [.int .u8 (((s[k]'hlt).toNat : Nat))] rfl (Rd.new wr 5 1 1 #[.int .u8 (((s[k]'hlt).toNat : Nat))] _ rfl rfl) (by intro u hu; simp at hu; subst hu; rfl) (by simp only [maxLen]; have := hL.out; omega) (by have := hL.out; omega) (by have := hB.out.size; simp; omega) ?_
                intro v9 w9 hown9 hg9 hat9
                have hB9 := hid ((hB.out.alloc hB.out.size (.cells #[.int .u8 (((s[k]'hlt).toNat : Nat))] 5)).grown hg9 (by have := hB.out.size; simp; omega) fun k hk => (hown.out.lt k hk).1)
                obtain ⟨A9, c9, rfl, _⟩ := own_form hown9
                rw [← bcells_snoc] at hown9
                have hown9 := hid hown9
                clear hg9 hat9)
              refine ⟨⟨k + 1, A9, c9, L ++ [(s[k]'hlt).toNat], by simp, by first | rfl | (simp; done) | (simp; omega), by omega, by omega, by have := hL2.out; simp; omega, by simpa using hown9.out, hB9.out, hR2.out⟩, ?_⟩
              simp [intOf]
              omega
    · have i1 : ¬ ((k : Int) < (s.size : Int)) := by omega
      have hfin : Hid (R = .bad 3 s.size) := hid (by rw [← hR.out, sc_end (by omega)]; congr 1; omega)
      clear hlt
      have hz := hid (hz.out.below hB.out)
      obtain ⟨fz, hlt, z0, z1, z2⟩ := hz.out.facts
      go_wp2_with fail
      have hT := hz.out.set ⟨0, 0, ⟨#[]⟩⟩
      dsimp only at hT
      obtain ⟨-, -, z0, z1, z2⟩ := hT.facts
      dsimp only at z0 z1 z2
      refine bodyPost_ret (v := .tuple #[.agg #[.int .i64 (⟨0, 0, ⟨#[]⟩⟩ : Vl).k, .int .i64 (⟨0, 0, ⟨#[]⟩⟩ : Vl).n, .string (⟨0, 0, ⟨#[]⟩⟩ : Vl).s], .int .i64 3, .int .i64 (s.size : Nat)]) (by simp [results, Tryz.results80, go_sem, z0, z1, z2]) rfl ⟨?_, hT.bel⟩
      rw [hfin.out]; rfl

end Go.Proofs.YtphglnenafdkaaaGreatDoor

