/- Texts of the proof, joined: KBytes, KBack, KPut, SVal, SPrint, SBytesP, SBytes, SRoomP, SRoom, STurnP, STurnQ, STurnR, Dr. -/
import Derived.Test.YtphglnenafdkaaaGreatDoorT03
import Derived.Test.YtphglnenafdkaaaGreatDoorT10
import Derived.Test.YtphglnenafdkaaaGreatDoorT04
import Derived.Laws.MakeOwn
import Derived.Laws.OwnMore
import Derived.Laws.Bits64
import Derived.Test.YtphglnenafdkaaaGreatDoorT09
import Derived.Test.YtphglnenafdkaaaGreatDoorT05
import Derived.WalkSmall
import Derived.Lib.AtoiErrMem
import Derived.Laws.BytesArg
import Derived.Lib.ItoaLen
import Derived.Test.YtphglnenafdkaaaGreatDoorT08
import Derived.Test.YtphglnenafdkaaaGreatDoorT01
import Derived.Deep.RegionHeld3
namespace Go.Proofs.YtphglnenafdkaaaGreatDoor
set_option linter.unusedVariables false
set_option linter.unusedSimpArgs false

/-- a number's bytes -/
def putF : Nat → Nat → List Nat
  | 0, n => [n]
  | k + 1, n => if 128 ≤ n then (n % 128 + 128) :: putF k (n / 128) else [n]
def putU (n : Nat) : List Nat := putF 9 n
def zig (n : Int) : Nat := if 0 ≤ n then (2 * n).toNat else (2 * (-(n + 1)) + 1).toNat
def zag (u : Nat) : Int := if u % 2 = 0 then ((u / 2 : Nat) : Int) else -((u / 2 : Nat) : Int) - 1
/-- the bytes of a text -/
def tb (s : ByteArray) : List Nat := s.data.toList.map UInt8.toNat
theorem tb_len (s : ByteArray) : (tb s).length = s.size := by unfold tb; rw [List.length_map, Array.length_toList]; rfl
def vput (v : Vl) : List Nat := if v.ok = true then (if v.k = 1 then 1 :: putU (zig v.n) else if v.k = 2 then 2 :: (putU v.s.size ++ tb v.s) else [0]) else []
def iput (i : Is) : List Nat := i.op.toNat :: putU i.n.toNat
def Pr.put (p : Pr) : List Nat := putU p.args.toNat ++ (putU p.cs.length ++ (p.cs.flatMap vput ++ (putU p.code.length ++ p.code.flatMap iput)))
/-! a reader -/
/-- a number at a place, from its byte i on: the number and how many bytes it has, or the error -/
def numF (b : List Nat) (at_ : Nat) : Nat → Nat → Nat → (Nat × Nat) ⊕ Int
  | 0, i, acc => .inr 11
  | k + 1, i, acc => match b[at_ + i]? with
    | none => .inr 3
    | some c => if i = 9 ∧ 1 < c then .inr 11
      else if c < 128 then (if 0 < i ∧ c = 0 then .inr 10 else .inl (acc + c * 128 ^ i, i + 1))
      else numF b at_ k (i + 1) (acc + c % 128 * 128 ^ i)
def num (b : List Nat) (at_ : Nat) : (Nat × Nat) ⊕ Int := numF b at_ 10 0 0
structure Rr where
  b : List Nat
  at_ : Nat
  last : Nat
  e : Int
  spot : Nat
deriving DecidableEq
def Rr.new (b : List Nat) : Rr := ⟨b, 0, 0, 0, 0⟩
def Rr.fails (r : Rr) (e : Int) : Rr := { r with e := e, spot := r.at_ }
def Rr.took (r : Rr) (n : Nat) : Rr := { r with last := r.at_, at_ := r.at_ + n }
def Rr.byte (r : Rr) : Nat × Rr := if r.e ≠ 0 then (0, r) else match r.b[r.at_]? with | none => (0, r.fails 3) | some c => (c, r.took 1)
def Rr.uint (r : Rr) : Nat × Rr := if r.e ≠ 0 then (0, r) else match num r.b r.at_ with | .inr e => (0, r.fails e) | .inl (n, k) => (n, r.took k)
def Rr.int (r : Rr) : Int × Rr := if r.e ≠ 0 then (0, r) else match num r.b r.at_ with | .inr e => (0, r.fails e) | .inl (n, k) => (zag n, r.took k)
def Rr.count (r : Rr) (most : Int) : Nat × Rr := if r.e ≠ 0 then (0, r) else match num r.b r.at_ with | .inr e => (0, r.fails e) | .inl (n, k) => if most < 0 ∨ most < n then (0, r.fails 6) else (n, r.took k)
def bt (l : List Nat) : ByteArray := ⟨(l.map UInt8.ofNat).toArray⟩
def Rr.text (r : Rr) (most : Int) : ByteArray × Rr := if r.e ≠ 0 then (⟨#[]⟩, r) else match num r.b r.at_ with | .inr e => (⟨#[]⟩, r.fails e) | .inl (n, k) => if most < 0 ∨ most < n then (⟨#[]⟩, r.fails 1) else if r.b.length < r.at_ + k + n then (⟨#[]⟩, r.fails 3) else (bt ((r.b.drop (r.at_ + k)).take n), r.took (k + n))
def Rr.fail (r : Rr) (e : Int) : Rr := if r.e = 0 ∧ e ≠ 0 then { r with e := e, spot := r.last } else r
def Rr.end_ (r : Rr) : Rr := if r.e = 0 ∧ r.at_ < r.b.length then r.fails 4 else r
def Rr.rest (r : Rr) : Nat := if r.e ≠ 0 then 0 else r.b.length - r.at_
/-- the value that comes next -/
def Rr.take (r : Rr) : Vl × Rr :=
  let (k, r1) := r.byte
  if k = 0 then (vl0, r1)
  else if k = 1 then (let (n, r2) := r1.int; (if r2.e = 0 then ⟨1, n, ⟨#[]⟩⟩ else vl0, r2))
  else if k = 2 then (let (s, r2) := r1.text 64; if okT s = true then (if r2.e = 0 then ⟨2, 0, s⟩ else vl0, r2) else (vl0, r2.fail 20))
  else (vl0, r1.fail 20)
/-- the constants -/
def getC : Nat → Rr → List Vl → (Rr × List Vl) ⊕ (Int × Nat)
  | 0, r, l => .inl (r, l)
  | k + 1, r, l => if r.e ≠ 0 then .inl (r, l) else
    let (v, r1) := r.take
    if r1.e = 0 ∧ v.k = 0 then .inr (51, r.at_) else getC k r1 (l ++ [v])
/-- the code; where the first operand stands that is too great -/
def getI : Nat → Rr → List Is → Option Nat → Rr × List Is × Option Nat
  | 0, r, l, w => (r, l, w)
  | k + 1, r, l, w => if r.e ≠ 0 then (r, l, w) else
    let (op, r1) := r.byte
    let (n, r2) := r1.uint
    getI k r2 (l ++ [⟨op, ((min n 255 : Nat) : Int)⟩]) (if 255 < n ∧ w = none then some r1.at_ else w)
def getP (b : List Nat) : Pr ⊕ (Int × Nat) :=
  let (a, r) := (Rr.new b).count 8
  let (n, r) := r.count 32
  match getC n r [] with
  | .inr e => .inr e
  | .inl (r, cs) =>
    let (m, r) := r.count 256
    let (r, code, wide) := getI m r [] none
    let r := r.end_
    if r.e ≠ 0 then .inr (r.e, r.spot)
    else match wide with
    | some w => .inr (54, w)
    | none => let p : Pr := ⟨a, cs, code⟩; if p.check.1 ≠ 0 then .inr (p.check.1, p.check.2.toNat) else .inl p
/-! laws -/
theorem putF_len (k : Nat) : ∀ n, 1 ≤ (putF k n).length ∧ (putF k n).length ≤ k + 1 := by
  induction k with
  | zero => intro n; simp [putF]
  | succ k ih =>
    intro n
    unfold putF
    split
    · have := ih (n / 128); simp; omega
    · simp
theorem putF_lt (k : Nat) : ∀ n, n < 128 ^ k * 2 → ∀ x ∈ putF k n, x < 256 := by
  induction k with
  | zero => intro n h x hx; simp [putF] at hx; simp at h; omega
  | succ k ih =>
    intro n h x hx
    unfold putF at hx
    split at hx
    · rcases List.mem_cons.1 hx with rfl | hx
      · omega
      · exact ih (n / 128) (by rw [Nat.pow_succ] at h; omega) x hx
    · simp at hx; omega
theorem num_putF (b : List Nat) (at_ : Nat) : ∀ (k n i acc : Nat), i + k = 9 → n < 128 ^ k * 2 → (0 < i → 0 < n) → (∀ j c, (putF k n)[j]? = some c → b[at_ + i + j]? = some c) → numF b at_ (k + 1) i acc = .inl (acc + n * 128 ^ i, i + (putF k n).length) := by
  intro k
  induction k with
  | zero =>
    intro n i acc hi hn hp hb
    simp at hn
    have h0 := hb 0 n (by simp [putF])
    unfold numF
    rw [show at_ + i = at_ + i + 0 by rfl, h0]
    simp only
    rw [if_neg (by omega), if_pos (by omega), if_neg (by omega)]
    simp [putF]
  | succ k ih =>
    intro n i acc hi hn hp hb
    unfold putF at hb ⊢
    by_cases h : 128 ≤ n
    · rw [if_pos h] at hb ⊢
      have h0 := hb 0 (n % 128 + 128) (by simp)
      unfold numF
      rw [show at_ + i = at_ + i + 0 by rfl, h0]
      simp only
      rw [if_neg (by omega), if_neg (by omega)]
      rw [ih (n / 128) (i + 1) _ (by omega) (by rw [Nat.pow_succ] at hn; omega) (by omega) (fun j c hj => by
        have := hb (j + 1) c (by simpa using hj)
        rwa [show at_ + (i + 1) + j = at_ + i + (j + 1) by omega])]
      have e1 : (n % 128 + 128) % 128 = n % 128 := by omega
      rw [e1]
      congr 1
      · congr 1
        · rw [Nat.pow_succ]
          have : n * 128 ^ i = n % 128 * 128 ^ i + n / 128 * (128 ^ i * 128) := by
            have h2 := Nat.div_add_mod n 128
            calc n * 128 ^ i = (128 * (n / 128) + n % 128) * 128 ^ i := by rw [h2]
              _ = n % 128 * 128 ^ i + n / 128 * (128 ^ i * 128) := by rw [Nat.add_mul, Nat.add_comm, Nat.mul_comm 128, Nat.mul_assoc, Nat.mul_comm 128]
          omega
        · simp; omega
    · rw [if_neg h] at hb ⊢
      have h0 := hb 0 n (by simp)
      unfold numF
      rw [show at_ + i = at_ + i + 0 by rfl, h0]
      simp only
      rw [if_neg (by omega), if_pos (by omega), if_neg (by omega)]
      simp
theorem num_put (pre post : List Nat) (n : Nat) (hn : n < 18446744073709551616) : num (pre ++ (putU n ++ post)) pre.length = .inl (n, (putU n).length) := by
  unfold num
  have h9 : n < 128 ^ 9 * 2 := by
    have : 128 ^ 9 * 2 = 18446744073709551616 := by decide
    omega
  have := num_putF (pre ++ (putU n ++ post)) pre.length 9 n 0 0 rfl h9 (by omega) (fun j c hj => by
    rw [Nat.add_zero, List.getElem?_append_right (by omega), Nat.add_sub_cancel_left, List.getElem?_append_left (by
      have := (List.getElem?_eq_some_iff.1 hj).1; exact this)]
    exact hj)
  simpa [putU] using this
theorem zag_zig (n : Int) : zag (zig n) = n := by
  unfold zag zig
  by_cases h : 0 ≤ n
  · rw [if_pos h, if_pos (by omega)]; omega
  · rw [if_neg h, if_neg (by omega)]; omega
theorem zig_lt {n : Int} (h1 : -9223372036854775808 ≤ n) (h2 : n ≤ 9223372036854775807) : zig n < 18446744073709551616 := by
  unfold zig; split <;> omega
theorem bt_tb (s : ByteArray) : bt (tb s) = s := by
  unfold bt tb
  rw [List.map_map]
  have : (UInt8.ofNat ∘ UInt8.toNat) = id := by funext c; simp
  rw [this, List.map_id]

end Go.Proofs.YtphglnenafdkaaaGreatDoor

namespace Go.Proofs.YtphglnenafdkaaaGreatDoor
set_option linter.unusedVariables false
set_option linter.unusedSimpArgs false

/-- these bytes stand at a place -/
def Has (b : List Nat) (a : Nat) (l : List Nat) : Prop := ∀ j c, l[j]? = some c → b[a + j]? = some c
theorem Has.app {b : List Nat} {a : Nat} {l m : List Nat} (h : Has b a (l ++ m)) : Has b a l ∧ Has b (a + l.length) m := by
  refine ⟨fun j c hj => h j c ?_, fun j c hj => ?_⟩
  · rw [List.getElem?_append_left (List.getElem?_eq_some_iff.1 hj).1]; exact hj
  · rw [Nat.add_assoc]
    refine h _ c ?_
    rw [List.getElem?_append_right (by omega), Nat.add_sub_cancel_left]; exact hj
theorem Has.cons {b : List Nat} {a c : Nat} {m : List Nat} (h : Has b a (c :: m)) : b[a]? = some c ∧ Has b (a + 1) m := ⟨h 0 c rfl, (Has.app (l := [c]) h).2⟩
theorem Has.self (l : List Nat) : Has l 0 l := fun j c hj => by rwa [Nat.zero_add]
theorem Has.len {b : List Nat} {a : Nat} {l : List Nat} (h : Has b a l) (hl : 0 < l.length) : a + l.length ≤ b.length := by
  have := h (l.length - 1) _ (List.getElem?_eq_getElem (by omega))
  have := (List.getElem?_eq_some_iff.1 this).1
  omega
theorem Has.took {b : List Nat} {a : Nat} {l : List Nat} (h : Has b a l) (ha : a + l.length ≤ b.length) : (b.drop a).take l.length = l := by
  apply List.ext_getElem?
  intro j
  by_cases hj : j < l.length
  · rw [List.getElem?_take_of_lt hj, List.getElem?_drop, h j _ (List.getElem?_eq_getElem hj), List.getElem?_eq_getElem hj]
  · rw [List.getElem?_take_eq_none (by omega), List.getElem?_eq_none (by omega)]
theorem num_has {b : List Nat} {a n : Nat} (h : Has b a (putU n)) (hn : n < 18446744073709551616) : num b a = .inl (n, (putU n).length) := by
  unfold num
  have h9 : n < 128 ^ 9 * 2 := by
    have : 128 ^ 9 * 2 = 18446744073709551616 := by decide
    omega
  have := num_putF b a 9 n 0 0 rfl h9 (by omega) (fun j c hj => by rw [Nat.add_zero]; exact h j c hj)
  simpa [putU] using this
section
variable {r : Rr} {n : Nat}
theorem count_has {most : Nat} (he : r.e = 0) (h : Has r.b r.at_ (putU n)) (hm : n ≤ most) (hs : most < 18446744073709551616) : r.count most = (n, r.took (putU n).length) := by
  unfold Rr.count
  rw [if_neg (by simp [he]), num_has h (by omega)]
  simp only
  rw [if_neg (by omega)]
theorem uint_has (he : r.e = 0) (h : Has r.b r.at_ (putU n)) (hs : n < 18446744073709551616) : r.uint = (n, r.took (putU n).length) := by
  unfold Rr.uint
  rw [if_neg (by simp [he]), num_has h (by omega)]
theorem int_has {n : Int} (he : r.e = 0) (h : Has r.b r.at_ (putU (zig n))) (h1 : -9223372036854775808 ≤ n) (h2 : n ≤ 9223372036854775807) : r.int = (n, r.took (putU (zig n)).length) := by
  unfold Rr.int
  rw [if_neg (by simp [he]), num_has h (zig_lt h1 h2)]
  simp only
  rw [zag_zig]
theorem byte_has {c : Nat} (he : r.e = 0) (h : r.b[r.at_]? = some c) : r.byte = (c, r.took 1) := by
  unfold Rr.byte
  rw [if_neg (by simp [he]), h]
theorem text_has {s : ByteArray} (he : r.e = 0) (h : Has r.b r.at_ (putU s.size ++ tb s)) (hs : s.size ≤ 64) : r.text 64 = (s, r.took ((putU s.size).length + s.size)) := by
  obtain ⟨h1, h2⟩ := h.app
  unfold Rr.text
  rw [if_neg (by simp [he]), num_has h1 (by omega)]
  simp only
  have hl := h1.len (by have := putF_len 9 s.size; unfold putU; omega)
  have hr : r.at_ + (putU s.size).length + (tb s).length ≤ r.b.length := by
    by_cases e : (tb s).length = 0
    · omega
    · have := h2.len (by omega); omega
  have ht := h2.took hr
  rw [tb_len] at ht hr
  rw [if_neg (by omega), if_neg (by omega), ht, bt_tb]
theorem vput_len (v : Vl) (h : v.ok = true) : 1 ≤ (vput v).length := by
  unfold vput
  rw [if_pos h]
  split
  · simp
  · split <;> simp
def Vl.rng (v : Vl) : Prop := -9223372036854775808 ≤ v.n ∧ v.n ≤ 9223372036854775807
theorem ok_forms {v : Vl} (h : v.ok = true) : v = vl0 ∨ (v.k = 1 ∧ v.s = ⟨#[]⟩) ∨ (v.k = 2 ∧ v.n = 0 ∧ v.s.size ≤ 64 ∧ okT v.s = true) := by
  unfold Vl.ok at h
  split at h
  · rename_i h1
    simp only [Bool.and_eq_true, decide_eq_true_eq] at h
    obtain ⟨k, n, s⟩ := v
    simp only at h1 h
    exact .inl (by rw [h1, h.1, h.2]; rfl)
  · split at h
    · rename_i h2
      exact .inr (.inl ⟨h2, of_decide_eq_true h⟩)
    · split at h
      · rename_i h3
        simp only [Bool.and_eq_true, decide_eq_true_eq] at h
        exact .inr (.inr ⟨h3, h.1, h.2.1, h.2.2⟩)
      · cases h
theorem took_e (r : Rr) (k : Nat) : (r.took k).e = r.e ∧ (r.took k).b = r.b ∧ (r.took k).at_ = r.at_ + k := ⟨rfl, rfl, rfl⟩
theorem take_has {v : Vl} (he : r.e = 0) (hv : v.ok = true) (hr : v.rng) (h : Has r.b r.at_ (vput v)) : ∃ r', r.take = (v, r') ∧ r'.b = r.b ∧ r'.e = 0 ∧ r'.at_ = r.at_ + (vput v).length := by
  unfold vput at h ⊢
  rw [if_pos hv] at h ⊢
  rcases ok_forms hv with rfl | ⟨h1, h2⟩ | ⟨h1, h2, h3, h4⟩
  · rw [if_neg (by decide), if_neg (by decide)] at h ⊢
    have h0 := h.cons.1
    refine ⟨r.took 1, ?_, rfl, he, rfl⟩
    unfold Rr.take
    rw [byte_has he h0]
    simp
  · rw [if_pos h1] at h ⊢
    obtain ⟨h0, h5⟩ := h.cons
    refine ⟨(r.took 1).took (putU (zig v.n)).length, ?_, rfl, he, ?_⟩
    · unfold Rr.take
      rw [byte_has he h0]
      simp only
      rw [if_neg (by decide)]
      simp only [if_true]
      rw [int_has (r := r.took 1) he h5 hr.1 hr.2]
      simp only
      rw [if_pos (show ((r.took 1).took (putU (zig v.n)).length).e = 0 from he)]
      obtain ⟨k, n, s⟩ := v
      simp only at h1 h2
      rw [h1, h2]
    · show r.at_ + 1 + _ = _
      simp; omega
  · rw [if_neg (by omega), if_pos h1] at h ⊢
    obtain ⟨h0, h5⟩ := h.cons
    refine ⟨(r.took 1).took ((putU v.s.size).length + v.s.size), ?_, rfl, he, ?_⟩
    · unfold Rr.take
      rw [byte_has he h0]
      simp only
      rw [if_neg (by decide), if_neg (by decide)]
      simp only [if_true]
      rw [text_has (r := r.took 1) he h5 h3]
      simp only
      rw [if_pos h4, if_pos (show ((r.took 1).took ((putU v.s.size).length + v.s.size)).e = 0 from he)]
      obtain ⟨k, n, s⟩ := v
      simp only at h1 h2
      rw [h1, h2]
    · show r.at_ + 1 + _ = _
      simp [tb_len]; omega
end
theorem getC_has : ∀ (cs : List Vl) (r : Rr) (l : List Vl), r.e = 0 → (∀ v ∈ cs, v.ok = true ∧ v.k ≠ 0 ∧ v.rng) → Has r.b r.at_ (cs.flatMap vput) → ∃ r', getC cs.length r l = .inl (r', l ++ cs) ∧ r'.b = r.b ∧ r'.e = 0 ∧ r'.at_ = r.at_ + (cs.flatMap vput).length := by
  intro cs
  induction cs with
  | nil => intro r l he _ _; exact ⟨r, by simp [getC], rfl, he, by simp⟩
  | cons v cs ih =>
    intro r l he hv h
    rw [List.flatMap_cons] at h
    obtain ⟨h1, h2⟩ := h.app
    obtain ⟨a1, a2, a3⟩ := hv v List.mem_cons_self
    obtain ⟨r1, b1, b2, b3, b4⟩ := take_has he a1 a3 h1
    obtain ⟨r2, c1, c2, c3, c4⟩ := ih r1 (l ++ [v]) b3 (fun u hu => hv u (List.mem_cons_of_mem _ hu)) (by rw [b2, b4]; exact h2)
    refine ⟨r2, ?_, c2.trans b2, c3, ?_⟩
    · rw [List.length_cons, getC, if_neg (by simp [he]), b1]
      simp only
      rw [if_neg (by rintro ⟨_, h⟩; exact a2 h), c1]
      simp
    · rw [c4, b4, List.flatMap_cons, List.length_append]; omega
theorem getI_has : ∀ (code : List Is) (r : Rr) (l : List Is), r.e = 0 → (∀ i ∈ code, 0 ≤ i.op ∧ 0 ≤ i.n ∧ i.n ≤ 255) → Has r.b r.at_ (code.flatMap iput) → ∃ r', getI code.length r l none = (r', l ++ code, none) ∧ r'.b = r.b ∧ r'.e = 0 ∧ r'.at_ = r.at_ + (code.flatMap iput).length := by
  intro code
  induction code with
  | nil => intro r l he _ _; exact ⟨r, by simp [getI], rfl, he, by simp⟩
  | cons i code ih =>
    intro r l he hv h
    rw [List.flatMap_cons] at h
    obtain ⟨h1, h2⟩ := h.app
    obtain ⟨a1, a2, a3⟩ := hv i List.mem_cons_self
    unfold iput at h1
    obtain ⟨g1, g2⟩ := h1.cons
    obtain ⟨r2, c1, c2, c3, c4⟩ := ih ((r.took 1).took (putU i.n.toNat).length) (l ++ [i]) he (fun u hu => hv u (List.mem_cons_of_mem _ hu)) (by
      show Has r.b (r.at_ + 1 + _) _
      unfold iput at h2
      rw [List.length_cons] at h2
      rwa [show r.at_ + 1 + (putU i.n.toNat).length = r.at_ + ((putU i.n.toNat).length + 1) by omega])
    refine ⟨r2, ?_, c2, c3, ?_⟩
    · rw [List.length_cons, getI, if_neg (by simp [he]), byte_has he g1]
      simp only
      rw [uint_has (r := r.took 1) he g2 (by omega)]
      simp only
      rw [if_neg (by omega), show min i.n.toNat 255 = i.n.toNat by omega, Int.toNat_of_nonneg a1, Int.toNat_of_nonneg a2, c1]
      simp
    · rw [c4, List.flatMap_cons, List.length_append]
      show r.at_ + 1 + _ + _ = _
      unfold iput
      rw [List.length_cons]; omega
/-- what a form that is right says -/
theorem form_ok {p : Pr} (h : p.form.1 = 0) : 0 ≤ p.args ∧ p.args ≤ 8 ∧ p.cs.length ≤ 32 ∧ (∀ v ∈ p.cs, v.ok = true ∧ v.k ≠ 0) ∧ 0 < p.code.length ∧ p.code.length ≤ 256 ∧ ∀ i ∈ p.code, isOp i.op = true ∧ 0 ≤ i.n ∧ i.n < p.most i.op := by
  unfold Pr.form at h
  split at h
  · cases h
  rename_i h1
  split at h
  · cases h
  rename_i h2
  split at h
  · rename_i h3; exact absurd h h3
  rename_i h3
  split at h
  · cases h
  rename_i h4
  refine ⟨by omega, by omega, by omega, fun v hv => ?_, by omega, by omega, fun i hi => ?_⟩
  · obtain ⟨j, hj, rfl⟩ := List.mem_iff_getElem.1 hv
    rcases scan_form (fun i => conE (p.cs.getD i vl0)) p.cs.length 0 with ⟨_, h5⟩ | ⟨q, _, _, h6, h7, _⟩
    · have := h5 j (Nat.zero_le _) (by omega)
      simp only [List.getD_eq_getElem?_getD, List.getElem?_eq_getElem hj, Option.getD_some, conE] at this
      split at this
      · assumption
      · cases this
    · rw [h7] at h3; exact absurd h3 (by simpa using h6)
  · obtain ⟨j, hj, rfl⟩ := List.mem_iff_getElem.1 hi
    rcases scan_form (fun i => p.insE (p.code.getD i is0)) p.code.length 0 with ⟨_, h5⟩ | ⟨q, _, _, h6, h7, _⟩
    · have := h5 j (Nat.zero_le _) (by omega)
      simp only [List.getD_eq_getElem?_getD, List.getElem?_eq_getElem hj, Option.getD_some, Pr.insE] at this
      split at this
      · cases this
      · rename_i h8
        split at this
        · rename_i h9; exact ⟨by simpa using h8, h9.1, h9.2⟩
        · cases this
    · rw [h7] at h; exact absurd h h6
theorem most_le {p : Pr} (h : p.form.1 = 0) (op : Int) : p.most op ≤ 256 := by
  obtain ⟨h1, h2, h3, _, _, h6, _⟩ := form_ok h
  unfold Pr.most
  split
  · omega
  · split
    · omega
    · split <;> omega
theorem get_put {p : Pr} (hc : p.check.1 = 0) (hr : ∀ v ∈ p.cs, v.rng) : getP p.put = .inl p := by
  obtain ⟨d, hd, hf, _⟩ := deps_len hc
  obtain ⟨f1, f2, f3, f4, f5, f6, f7⟩ := form_ok hf
  have h0 := Has.self p.put
  unfold Pr.put at h0
  obtain ⟨g1, h1⟩ := h0.app
  obtain ⟨g2, h2⟩ := h1.app
  obtain ⟨g3, h3⟩ := h2.app
  obtain ⟨g4, g5⟩ := h3.app
  obtain ⟨B, hB⟩ : ∃ B, B = p.put := ⟨_, rfl⟩
  have hB' : putU p.args.toNat ++ (putU p.cs.length ++ (p.cs.flatMap vput ++ (putU p.code.length ++ p.code.flatMap iput))) = B := by rw [hB]; rfl
  rw [hB'] at g1 g2 g3 g4 g5
  rw [← hB]
  unfold getP
  have c1 := count_has (r := Rr.new B) (most := 8) (n := p.args.toNat) rfl g1 (by omega) (by omega)
  rw [show ((8 : Nat) : Int) = 8 from rfl] at c1
  rw [c1]
  simp only
  obtain ⟨R1, hR1⟩ : ∃ R1, R1 = (Rr.new B).took (putU p.args.toNat).length := ⟨_, rfl⟩
  rw [← hR1]
  have b1 : R1.b = B ∧ R1.e = 0 ∧ R1.at_ = 0 + (putU p.args.toNat).length := by subst hR1; exact ⟨rfl, rfl, rfl⟩
  have c2 := count_has (r := R1) (most := 32) (n := p.cs.length) b1.2.1 (by rw [b1.1, b1.2.2]; exact g2) f3 (by omega)
  rw [show ((32 : Nat) : Int) = 32 from rfl] at c2
  rw [c2]
  simp only
  obtain ⟨R2, hR2⟩ : ∃ R2, R2 = R1.took (putU p.cs.length).length := ⟨_, rfl⟩
  rw [← hR2]
  have b2 : R2.b = B ∧ R2.e = 0 ∧ R2.at_ = 0 + (putU p.args.toNat).length + (putU p.cs.length).length := by subst hR2; exact ⟨b1.1, b1.2.1, by show R1.at_ + _ = _; rw [b1.2.2]⟩
  obtain ⟨R3, c3, d1, d2, d3⟩ := getC_has p.cs R2 [] b2.2.1 (fun v hv => ⟨(f4 v hv).1, (f4 v hv).2, hr v hv⟩) (by rw [b2.1, b2.2.2]; exact g3)
  rw [c3]
  simp only [List.nil_append]
  have c4 := count_has (r := R3) (most := 256) (n := p.code.length) d2 (by rw [d1, b2.1, d3, b2.2.2]; exact g4) f6 (by omega)
  rw [show ((256 : Nat) : Int) = 256 from rfl] at c4
  rw [c4]
  simp only
  obtain ⟨R4, hR4⟩ : ∃ R4, R4 = R3.took (putU p.code.length).length := ⟨_, rfl⟩
  rw [← hR4]
  have b4 : R4.b = B ∧ R4.e = 0 ∧ R4.at_ = 0 + (putU p.args.toNat).length + (putU p.cs.length).length + (p.cs.flatMap vput).length + (putU p.code.length).length := by subst hR4; exact ⟨d1.trans b2.1, d2, by show R3.at_ + _ = _; rw [d3, b2.2.2]⟩
  obtain ⟨R5, c5, e1, e2, e3⟩ := getI_has p.code R4 [] b4.2.1 (fun i hi => by
    obtain ⟨q1, q2, q3⟩ := f7 i hi
    have := most_le hf i.op
    unfold isOp at q1
    simp only [Bool.and_eq_true, decide_eq_true_eq] at q1
    exact ⟨by omega, q2, by omega⟩) (by rw [b4.1, b4.2.2]; exact g5)
  rw [c5]
  simp only [List.nil_append]
  have hend : R5.end_ = R5 := by
    unfold Rr.end_
    rw [if_neg]
    rintro ⟨_, h⟩
    rw [e1, b4.1, e3, b4.2.2, ← hB'] at h
    simp only [List.length_append] at h
    omega
  rw [hend, if_neg (by rw [e2]; decide)]
  have hp : (⟨((p.args.toNat : Nat) : Int), p.cs, p.code⟩ : Pr) = p := by
    obtain ⟨a, cs, code⟩ := p
    simp only at f1 ⊢
    rw [Int.toNat_of_nonneg f1]
  rw [hp, if_neg (by rw [hc]; decide)]

end Go.Proofs.YtphglnenafdkaaaGreatDoor

namespace Go.Proofs.YtphglnenafdkaaaGreatDoor
open Go.RowKit
set_option linter.unusedVariables false
set_option linter.unusedSimpArgs false

def bcells (l : List Nat) : List Value := l.map fun c => .int .u8 (c : Nat)
theorem bcells_snoc (l : List Nat) (c : Nat) : bcells (l ++ [c]) = bcells l ++ [.int .u8 (c : Nat)] := by unfold bcells; rw [List.map_append]; rfl
theorem bcells_one (l : List Nat) : ∀ u ∈ bcells l, u.oneCell' = true := fun u hu => by obtain ⟨c, _, rfl⟩ := List.mem_map.1 hu; rfl
theorem info_u8 : (Tryz.prog.info? 5).map (fun i => (i.zero, i.size, i.bytes)) = some (some (.int .u8 0), 1, 1) := by kernel_rfl
theorem u8_or (m : Nat) : bits BinOp.or IntKind.u8 (((m % 256 : Nat)) : Int) 128 = ((m % 128 + 128 : Nat) : Int) := by
  have h : ∀ x : Fin 256, bits BinOp.or IntKind.u8 ((x.val : Nat) : Int) 128 = ((x.val % 128 + 128 : Nat) : Int) := by decide +kernel
  have := h ⟨m % 256, by omega⟩
  simp only at this
  rw [this]
  congr 2
  omega
theorem u8_wrap (m : Nat) : IntKind.u8.wrap (m : Int) = ((m % 256 : Nat) : Int) := by
  simp [IntKind.wrap, IntKind.bits, IntKind.signed]
def natOf : Value → Nat
  | .int _ n => n.toNat
  | _ => 0
end Go.Proofs.YtphglnenafdkaaaGreatDoor

namespace Go.Proofs.YtphglnenafdkaaaGreatDoor
open Go.RowKit
set_option linter.unusedVariables false
set_option linter.unusedSimpArgs false

structure Env (w : World) : Prop where
  pow : Lib.TabIs Tryz.prog w "internal/strconv.uint64pow10" .u64 Lib.pow10Tab
  big : 5 ≤ w.heap.size
theorem gPow : Tryz.prog.globalNamed "internal/strconv.uint64pow10" = some 2 := by kernel_rfl
theorem Env.below {w w' : World} (h : Env w) (hb : Below w.heap.size w w') : Env w' := by
  have h6 := h.big
  exact ⟨var?_below hb gPow (by omega) h.pow, by have := hb.size; omega⟩
theorem Env.over {w w' : World} {N : Nat} (h : Env w) (hb : Below N w w') (hN : 5 ≤ N) : Env w' := by
  have h6 := h.big
  exact ⟨var?_below hb gPow (by omega) h.pow, by have := hb.size; omega⟩
theorem fmt_any (n : Int) (h0 : -9223372036854775808 ≤ n) (h1 : n ≤ 9223372036854775807) (w : World) (he : Env w) :
    Calls Tryz.prog 69 #[.int .i64 n, .int .i64 10] w fun e w' => e = .returned (.string ⟨(Lib.itoa n).toArray⟩) ∧ Below w.heap.size w w' := by
  refine (strconv_FormatInt_10 n h0 h1 w he.pow).mono ?_
  rintro e w' ⟨rfl, k, os, rfl⟩
  exact ⟨rfl, rfl, rfl, rfl, by rw [Sort.size_grow]; exact Nat.le_add_right _ _, fun b hb => Array.getElem?_append_left (show b < w.heap.size from hb)⟩
theorem digits_any (n : Int) (h0 : -9223372036854775808 ≤ n) (h1 : n ≤ 9223372036854775807) (w : World) (he : Env w) :
    Calls Tryz.prog 41 #[.int .i64 n] w fun e w' => e = .returned (.string ⟨(Lib.itoa n).toArray⟩) ∧ Below w.heap.size w w' := by
  have hk := hid (fmt_any n h0 h1 w he)
  clear h0 h1 he
  go_enter Tryz.func41, Tryz.ntmps41
  go_wp2_with fail
  refine hk.out.mono ?_
  rintro e w2 ⟨rfl, hb⟩
  go_wp2_with fail
  go_ret
  exact ⟨rfl, hb⟩
def noneT : List UInt8 := [110, 111, 110, 101]
def escL (l : List UInt8) : List UInt8 := l.flatMap fun c => if c = 34 ∨ c = 92 then [92, c] else [c]
def litL (v : Vl) : List UInt8 := if v.k = 1 then Lib.itoa v.n else if v.k = 0 then noneT else 34 :: (escL v.s.data.toList ++ [34])
def printE (v : Vl) : Int := if v.ok = true then 0 else 20
def printL (v : Vl) : List UInt8 := if v.ok = true then litL v else []
def lb (L : List Nat) : List UInt8 := L.map UInt8.ofNat
theorem lb_len (L : List Nat) : (lb L).length = L.length := List.length_map ..
theorem lb_snoc (L : List Nat) (c : UInt8) : lb (L ++ [c.toNat]) = lb L ++ [c] := by unfold lb; simp
theorem bcells_at {l : List Nat} {k : Nat} (h : k < l.length) : (bcells l)[k]? = some (.int .u8 (l[k] : Nat)) := by unfold bcells; rw [List.getElem?_map, List.getElem?_eq_getElem h]; rfl
theorem strOf_bt (l : List Nat) : strOfNums (l.map Int.ofNat) = bt l := by
  unfold strOfNums bt
  rw [List.map_map]
  rfl
theorem convB {S : Nat → Prop} {w : World} {A : Option Addr} {l : List Nat} {n c : Nat} (h : Rd S w 1 A n (bcells l)) (hn : l.length = n) : (convert 41 9 (.slice A n c)).run Tryz.prog w = .ok (.string (bt l)) w := by
  subst hn
  cases l with
  | nil =>
    cases A with
    | none => exact run_convert_bytes_nil w 41 5 Tryz.underlying41 Tryz.underlying5 0 c 9 Tryz.underlying9
    | some a =>
      obtain ⟨b, o, t⟩ := a
      rw [run_convert_bytes_string w 41 9 5 _ _ c Tryz.underlying41 Tryz.underlying5 Tryz.underlying9, run_bytesToString w _ _ c [] (by simp [loadCells, loadCellsFrom])]
      rfl
  | cons x l =>
    obtain ⟨b, o, rfl, _, _, hc⟩ := h.2 (by simp)
    rw [← strOf_bt]
    refine run_convert_bytes_arg w 41 5 Tryz.underlying41 Tryz.underlying5 b o _ c _ (by simp) (fun i hi => hc i _ ?_) 9 Tryz.underlying9
    rw [bcells_at hi]
    have : ((x :: l).map Int.ofNat).getD i 0 = (((x :: l)[i] : Nat) : Int) := by rw [List.getD_eq_getElem?_getD, List.getElem?_map, List.getElem?_eq_getElem hi]; rfl
    rw [this]
section
variable {s : ByteArray} {k : Nat}
theorem byte_ne {hk : k < s.size} {c : UInt8} (h : s.data[k]'hk ≠ c) : (s[k]'hk).toNat ≠ c.toNat := fun e => h (UInt8.toNat_inj.1 e)
theorem byte_eq {hk : k < s.size} {c : UInt8} (h : s.data[k]'hk = c) : (s[k]'hk).toNat = c.toNat := by show (s.data[k]'hk).toNat = c.toNat; rw [h]
end
end Go.Proofs.YtphglnenafdkaaaGreatDoor

namespace Go.Proofs.YtphglnenafdkaaaGreatDoor
open Go.RowKit
set_option linter.unusedVariables false
set_option linter.unusedSimpArgs false

/-- what Print leaves -/
def PrOut (v : Vl) (w : World) (e : Ending) (w' : World) : Prop := e = .returned (.tuple #[.string ⟨(printL v).toArray⟩, .int .i64 (printE v)]) ∧ Below w.heap.size w w'
theorem esc_step {s : ByteArray} {k : Nat} (hk : k < s.size) : escL (s.data.toList.take (k + 1)) = escL (s.data.toList.take k) ++ (if s.data[k]'hk = 34 ∨ s.data[k]'hk = 92 then [92, s.data[k]'hk] else [s.data[k]'hk]) := by
  have hl : k < s.data.toList.length := by rw [Array.length_toList]; exact hk
  rw [List.take_succ_eq_append_getElem hl, Array.getElem_toList]
  unfold escL
  rw [List.flatMap_append]
  simp
theorem take_all {s : ByteArray} {k : Nat} (hk : s.size ≤ k) : s.data.toList.take k = s.data.toList := List.take_of_length_le (by rw [Array.length_toList]; exact hk)
theorem lit_text {v : Vl} (h : v.ok = true) (hk : v.k = 2) : printL v = 34 :: (escL v.s.data.toList ++ [34]) := by
  unfold printL litL
  rw [if_pos h, hk, if_neg (by decide), if_neg (by decide)]

set_option maxRecDepth 100000 in
set_option maxHeartbeats 4000000 in
theorem print_any (v : Vl) (w : World) (hs : v.s.size ≤ 140737488351232) (hr : v.rng) (he : Env w) : Calls Tryz.prog 44 #[.agg #[.int .i64 v.k, .int .i64 v.n, .string v.s]] w (PrOut v w) := by
  obtain ⟨ib, hb0, hb1, hb2, hb3⟩ := info_parts info_u8
  obtain ⟨W, hW⟩ : ∃ W, W = w.alloc (.cells #[.int .i64 v.k, .int .i64 v.n, .string v.s] 38) := ⟨_, rfl⟩
  have hB0 : Hid (Below w.heap.size w W) := hid (by subst hW; exact (Below.refl _ _).alloc (Nat.le_refl _) _)
  have kb0 : Hid (Blk W w.heap.size 38 #[.int .i64 v.k, .int .i64 v.n, .string v.s]) := hid (by subst hW; exact Blk.new w _ _)
  have hva := hid (valid_any v W (by omega))
  have hx0 : W.cell? ⟨w.heap.size, 0, none⟩ = some (.int .i64 v.k) := kb0.out.cell 0
  have hx1 : W.cell? ⟨w.heap.size, 1, none⟩ = some (.int .i64 v.n) := kb0.out.cell 1
  have hx2 : W.cell? ⟨w.heap.size, 2, none⟩ = some (.string v.s) := kb0.out.cell 2
  have hfz := fun q => kb0.out.frozen q
  have hlz := kb0.out.lt
  have he2 := hid (he.below hB0.out)
  clear he
  cases hok : v.ok with
  | false =>
    have hfin : Hid (printL v = [] ∧ printE v = 20) := hid (by unfold printL printE; rw [hok]; exact ⟨rfl, rfl⟩)
    rw [hok] at hva
    clear hok hs hr
    go_enter Tryz.func44, Tryz.ntmps44
    go_upto_region 1 with fail
    rw [← hW]
    clear hW
    go_wp2_with fail
    refine hva.out.mono ?_
    rintro e w2 ⟨rfl, hb20⟩
    have kb2 := hid (kb0.out.below_all hb20)
    have hB2 := hid (hB0.out.trans (hb20.mono hB0.out.size))
    have hbb2 := hid hb20
    clear hb20 hva hx0 hx1 hx2 hfz hlz kb0 hB0
    have x0 := kb2.out.cell 0
    have x1 := kb2.out.cell 1
    have x2 := kb2.out.cell 2
    simp only [List.getElem?_toArray, List.getElem?_cons_zero, List.getElem?_cons_succ] at x0 x1 x2
    have fz := fun q => kb2.out.frozen q
    have hlt := kb2.out.lt
    go_wp2_with fail
    refine bodyPost_ret (v := .tuple #[.string ⟨#[]⟩, .int .i64 20]) (by simp [results, Tryz.results44, go_sem]) rfl ⟨?_, hB2.out⟩
    rw [hfin.out.1, hfin.out.2]
  | true =>
    have hpe : Hid (printE v = 0) := hid (by unfold printE; rw [hok]; rfl)
    have hpl : printL v = litL v := by unfold printL; rw [hok]; rfl
    rw [hok] at hva
    rcases ok_forms hok with hv | ⟨h1, h2⟩ | ⟨h1, h2, h3, h4⟩
    · have e0 : v.k = 0 := by rw [hv]; rfl
      have hfin : Hid (printL v = noneT) := hid (by rw [hpl]; unfold litL; rw [e0]; rfl)
      have f0 : (v.k == 1) = false := by rw [e0]; rfl
      have f1 : (v.k == 0) = true := by rw [e0]; rfl
      clear hok hs hr hv hpl e0
      go_enter Tryz.func44, Tryz.ntmps44
      go_upto_region 1 with fail
      rw [← hW]
      clear hW
      go_wp2_with fail
      refine hva.out.mono ?_
      rintro e w2 ⟨rfl, hb20⟩
      have kb2 := hid (kb0.out.below_all hb20)
      have hB2 := hid (hB0.out.trans (hb20.mono hB0.out.size))
      have hbb2 := hid hb20
      clear hb20 hva hx0 hx1 hx2 hfz hlz kb0 hB0
      have x0 := kb2.out.cell 0
      have x1 := kb2.out.cell 1
      have x2 := kb2.out.cell 2
      simp only [List.getElem?_toArray, List.getElem?_cons_zero, List.getElem?_cons_succ] at x0 x1 x2
      have fz := fun q => kb2.out.frozen q
      have hlt := kb2.out.lt
      go_wp2_with fail
      refine bodyPost_ret (v := .tuple #[.string ⟨#[110, 111, 110, 101]⟩, .int .i64 0]) (by simp [results, Tryz.results44, go_sem]) rfl ⟨?_, hB2.out⟩
      rw [hfin.out, hpe.out]; rfl
    · have hfin : Hid (printL v = Lib.itoa v.n) := hid (by rw [hpl]; unfold litL; rw [h1]; rfl)
      have f0 : (v.k == 1) = true := by rw [h1]; rfl
      have hrr := hid hr
      clear hok hs hr hpl h1 h2
      go_enter Tryz.func44, Tryz.ntmps44
      go_upto_region 1 with fail
      rw [← hW]
      clear hW
      go_wp2_with fail
      refine hva.out.mono ?_
      rintro e w2 ⟨rfl, hb20⟩
      have kb2 := hid (kb0.out.below_all hb20)
      have hB2 := hid (hB0.out.trans (hb20.mono hB0.out.size))
      have hbb2 := hid hb20
      clear hb20 hva hx0 hx1 hx2 hfz hlz kb0 hB0
      have x0 := kb2.out.cell 0
      have x1 := kb2.out.cell 1
      have x2 := kb2.out.cell 2
      simp only [List.getElem?_toArray, List.getElem?_cons_zero, List.getElem?_cons_succ] at x0 x1 x2
      have fz := fun q => kb2.out.frozen q
      have hlt := kb2.out.lt
      have he3 := hid (he2.out.below (w := W) (w' := w2) (by first | exact hbb2.out))
      go_wp2_with fail
      refine (digits_any v.n hrr.out.1 hrr.out.2 w2 he3.out).mono ?_
      rintro e w3 ⟨rfl, hb30⟩
      have hB3 := hid (hB2.out.trans (hb30.mono hB2.out.size))
      clear hb30 x0 x1 x2 fz hlt
      go_wp2_with fail
      refine bodyPost_ret (v := .tuple #[.string ⟨(Lib.itoa v.n).toArray⟩, .int .i64 0]) (by simp [results, Tryz.results44, go_sem]) rfl ⟨?_, hB3.out⟩
      rw [hfin.out, hpe.out]
    · have hfin : Hid (printL v = 34 :: (escL v.s.data.toList ++ [34])) := hid (lit_text hok h1)
      have hs64 := hid h3
      have hs9 : (v.s.size : Int) ≤ 64 := by omega
      have f0 : (v.k == 1) = false := by rw [h1]; rfl
      have f1 : (v.k == 0) = false := by rw [h1]; rfl
      clear hok hs hr hpl h3 h4 h1 h2
      go_enter Tryz.func44, Tryz.ntmps44
      go_upto_region 1 with fail
      rw [← hW]
      clear hW
      go_wp2_with fail
      refine hva.out.mono ?_
      rintro e w2 ⟨rfl, hb20⟩
      have kb2 := hid (kb0.out.below_all hb20)
      have hB2 := hid (hB0.out.trans (hb20.mono hB0.out.size))
      have hbb2 := hid hb20
      clear hb20 hva hx0 hx1 hx2 hfz hlz kb0 hB0
      have x0 := kb2.out.cell 0
      have x1 := kb2.out.cell 1
      have x2 := kb2.out.cell 2
      simp only [List.getElem?_toArray, List.getElem?_cons_zero, List.getElem?_cons_succ] at x0 x1 x2
      have fz := fun q => kb2.out.frozen q
      have hlt := kb2.out.lt
      go_upto_region 8 with fail
      have ho0 := hid (World.ownsRow_lit (base := w2.heap.size) (e := 5) (size := 1) w2 #[.int .u8 34] 1 (Nat.le_refl _) (by decide) rfl)
      have hB3 : Hid (Below w2.heap.size w2 (w2.alloc (.cells #[.int .u8 34] 5))) := hid ((Below.refl _ _).alloc (Nat.le_refl _) _)
      generalize w2.alloc (.cells #[.int .u8 34] 5) = w3 at *
      have kb3 := hid (kb2.out.below_all hB3.out)
      clear x0 x1 x2 fz hlt
      have x2 : w3.cell? ⟨w.heap.size, 2, none⟩ = some (.string v.s) := kb3.out.cell 2
      have hlt := kb3.out.lt
      go_wp2_with fail
      go_loopw [4, 5, 25] (fun v4 _ v25 wr => ∃ (k : Nat) (A : Option Addr) (c : Nat) (L : List Nat), v4 = .slice A L.length c ∧ v25 = .int .i64 k ∧ k ≤ v.s.size ∧ L.length ≤ 1 + 2 * k ∧ wr.ownsRow w2.heap.size 5 1 (.slice A L.length c) L.length (bcells L) ∧ Below w2.heap.size w2 wr ∧ lb L = 34 :: escL (v.s.data.toList.take k)) (fun _ _ v25 _ => v.s.size - (intOf v25).toNat)
      case atStart => exact ⟨0, some ⟨w2.heap.size, 0, none⟩, 1, [34], rfl, rfl, Nat.zero_le _, by simp, ho0.out, hB3.out, rfl⟩
      case round =>
        clear x2 hlt ho0 hB3 kb3
        obtain ⟨k, A, c, L, rfl, rfl, hks, hL0, hown0, hB0, hR0⟩ := hrel
        have hL := hid hL0; have hown := hid hown0; have hB := hid hB0; have hR := hid hR0
        have hL9 : (L.length : Int) ≤ 200 := by have := hs64.out; omega
        have hL8 := hid (show L.length ≤ 200 by have := hs64.out; omega)
        clear hL0 hown0 hB0 hR0
        have kb4 := hid (kb2.out.below_all hB.out)
        have x2 : wr.cell? ⟨w.heap.size, 2, none⟩ = some (.string v.s) := kb4.out.cell 2
        have hltz := kb4.out.lt
        by_cases hlt : k < v.s.size
        · have i1 : (k : Int) < (v.s.size : Int) := by omega
          have hst := esc_step hlt
          by_cases hq : v.s.data[k]'hlt = 34 ∨ v.s.data[k]'hlt = 92
          · rw [if_pos hq] at hst
            have hR2 : Hid (lb ((L ++ [92]) ++ [(v.s[k]'hlt).toNat]) = 34 :: escL (v.s.data.toList.take (k + 1))) := hid (by
              rw [hst, show (v.s[k]'hlt).toNat = (v.s.data[k]'hlt).toNat from rfl, lb_snoc, show (92 : Nat) = (92 : UInt8).toNat from rfl, lb_snoc, hR.out]; simp)
            clear hst
            have hcase : Hid (((v.s[k]'hlt).toNat = 34) ∨ ((v.s[k]'hlt).toNat ≠ 34 ∧ (v.s[k]'hlt).toNat = 92)) := hid (by
              by_cases h34 : v.s.data[k]'hlt = 34
              · exact .inl (byte_eq (hk := hlt) h34)
              · exact .inr ⟨byte_ne (hk := hlt) h34, byte_eq (hk := hlt) (hq.resolve_left h34)⟩)
            clear hq
            rcases hcase.out with hc | ⟨hc0, hc⟩
            · have b1 : (((v.s[k]'hlt).toNat : Int) == 34) = true := by rw [hc]; rfl
              have b2 : (((v.s[k]'hlt).toNat : Int) == 92) = false := by rw [hc]; rfl
              rw [hc] at hR2
              skip
              go_upto_region 13 with (
                at_builtin
                refine wpList_append_rd _ rfl (.tmp 40) (.tmp 41) 41 rfl w2.heap.size 5 ib _ 1 1 Tryz.underlying41 hb0 hb1 hb2 hb3 rfl (by omega) (.slice A (L.length) c) (L.length) (bcells L) rfl (hown.out.alloc _) (fun b => b = wr.heap.size) (some ⟨wr.heap.size, 0, none⟩) 1 1 [.int .u8 (((92 : Nat) : Int))] rfl (Rd.new wr 5 1 1 #[.int .u8 (((92 : Nat) : Int))] _ rfl rfl) (by intro u hu; simp at hu; subst hu; rfl) (by simp only [maxLen]; have := hL8.out; omega) (by have := hL8.out; omega) (by have := hB.out.size; simp; omega) ?_
                intro v5 w5 hown5 hg5 hat5
                have hB5 := hid ((hB.out.alloc hB.out.size (.cells #[.int .u8 (((92 : Nat) : Int))] 5)).grown hg5 (by have := hB.out.size; simp; omega) fun k hk => (hown.out.lt k hk).1)
                obtain ⟨A5, c5, rfl, _⟩ := own_form hown5
                rw [← bcells_snoc] at hown5
                have hown5 := hid hown5
                skip
                clear hg5 hat5)
              have kb5 := hid (kb2.out.below_all hB5.out)
              clear x2 hltz
              have x2 : w5.cell? ⟨w.heap.size, 2, none⟩ = some (.string v.s) := kb5.out.cell 2
              have hltz := kb5.out.lt
              go_wp2_with (
                at_builtin
                refine wpList_append_rd _ rfl (.tmp 43) (.tmp 48) 41 rfl w2.heap.size 5 ib _ 1 1 Tryz.underlying41 hb0 hb1 hb2 hb3 rfl (by omega) (.slice A5 (L.length + 1) c5) (L.length + 1) (bcells (L ++ [92])) rfl (hown5.out.alloc _) (fun b => b = w5.heap.size) (some ⟨w5.heap.size, 0, none⟩) 1 1 [.int .u8 (((34 : Nat) : Int))] rfl (Rd.new w5 5 1 1 #[.int .u8 (((34 : Nat) : Int))] _ rfl rfl) (by intro u hu; simp at hu; subst hu; rfl) (by simp only [maxLen]; have := hL8.out; omega) (by have := hL8.out; omega) (by have := hB5.out.size; simp; omega) ?_
                intro v9 w9 hown9 hg9 hat9
                have hB9 := hid ((hB5.out.alloc hB5.out.size (.cells #[.int .u8 (((34 : Nat) : Int))] 5)).grown hg9 (by have := hB5.out.size; simp; omega) fun k hk => (hown5.out.lt k hk).1)
                obtain ⟨A9, c9, rfl, _⟩ := own_form hown9
                rw [← bcells_snoc] at hown9
                have hown9 := hid hown9
                skip
                clear hg9 hat9)
              refine ⟨⟨k + 1, A9, c9, (L ++ [92]) ++ [34], by simp, by first | rfl | simp, by omega, by have := hL.out; simp; omega, by simpa using hown9.out, hB9.out, hR2.out⟩, ?_⟩
              simp [intOf]
              omega
            · have b1 : (((v.s[k]'hlt).toNat : Int) == 34) = false := by rw [hc]; rfl
              have b2 : (((v.s[k]'hlt).toNat : Int) == 92) = true := by rw [hc]; rfl
              rw [hc] at hR2
              clear hc0
              go_upto_region 13 with (
                at_builtin
                refine wpList_append_rd _ rfl (.tmp 40) (.tmp 41) 41 rfl w2.heap.size 5 ib _ 1 1 Tryz.underlying41 hb0 hb1 hb2 hb3 rfl (by omega) (.slice A (L.length) c) (L.length) (bcells L) rfl (hown.out.alloc _) (fun b => b = wr.heap.size) (some ⟨wr.heap.size, 0, none⟩) 1 1 [.int .u8 (((92 : Nat) : Int))] rfl (Rd.new wr 5 1 1 #[.int .u8 (((92 : Nat) : Int))] _ rfl rfl) (by intro u hu; simp at hu; subst hu; rfl) (by simp only [maxLen]; have := hL8.out; omega) (by have := hL8.out; omega) (by have := hB.out.size; simp; omega) ?_
                intro v5 w5 hown5 hg5 hat5
                have hB5 := hid ((hB.out.alloc hB.out.size (.cells #[.int .u8 (((92 : Nat) : Int))] 5)).grown hg5 (by have := hB.out.size; simp; omega) fun k hk => (hown.out.lt k hk).1)
                obtain ⟨A5, c5, rfl, _⟩ := own_form hown5
                rw [← bcells_snoc] at hown5
                have hown5 := hid hown5
                skip
                clear hg5 hat5)
              have kb5 := hid (kb2.out.below_all hB5.out)
              clear x2 hltz
              have x2 : w5.cell? ⟨w.heap.size, 2, none⟩ = some (.string v.s) := kb5.out.cell 2
              have hltz := kb5.out.lt
              go_wp2_with (
                at_builtin
                refine wpList_append_rd _ rfl (.tmp 43) (.tmp 48) 41 rfl w2.heap.size 5 ib _ 1 1 Tryz.underlying41 hb0 hb1 hb2 hb3 rfl (by omega) (.slice A5 (L.length + 1) c5) (L.length + 1) (bcells (L ++ [92])) rfl (hown5.out.alloc _) (fun b => b = w5.heap.size) (some ⟨w5.heap.size, 0, none⟩) 1 1 [.int .u8 (((92 : Nat) : Int))] rfl (Rd.new w5 5 1 1 #[.int .u8 (((92 : Nat) : Int))] _ rfl rfl) (by intro u hu; simp at hu; subst hu; rfl) (by simp only [maxLen]; have := hL8.out; omega) (by have := hL8.out; omega) (by have := hB5.out.size; simp; omega) ?_
                intro v9 w9 hown9 hg9 hat9
                have hB9 := hid ((hB5.out.alloc hB5.out.size (.cells #[.int .u8 (((92 : Nat) : Int))] 5)).grown hg9 (by have := hB5.out.size; simp; omega) fun k hk => (hown5.out.lt k hk).1)
                obtain ⟨A9, c9, rfl, _⟩ := own_form hown9
                rw [← bcells_snoc] at hown9
                have hown9 := hid hown9
                skip
                clear hg9 hat9)
              refine ⟨⟨k + 1, A9, c9, (L ++ [92]) ++ [92], by simp, by first | rfl | simp, by omega, by have := hL.out; simp; omega, by simpa using hown9.out, hB9.out, hR2.out⟩, ?_⟩
              simp [intOf]
              omega
          · rw [if_neg hq] at hst
            have c34 : (v.s[k]'hlt).toNat ≠ 34 := byte_ne (hk := hlt) fun e => hq (.inl e)
            have c92 : (v.s[k]'hlt).toNat ≠ 92 := byte_ne (hk := hlt) fun e => hq (.inr e)
            have b1 : (((v.s[k]'hlt).toNat : Int) == 34) = false := by simp; omega
            have b2 : (((v.s[k]'hlt).toNat : Int) == 92) = false := by simp; omega
            have hR2 : Hid (lb (L ++ [(v.s[k]'hlt).toNat]) = 34 :: escL (v.s.data.toList.take (k + 1))) := hid (by
              rw [hst, show (v.s[k]'hlt).toNat = (v.s.data[k]'hlt).toNat from rfl, lb_snoc, hR.out]; simp)
            clear hst hq c34 c92
            go_wp2_with (
              at_builtin
              refine wpList_append_rd _ rfl (.tmp 43) (.tmp 48) 41 rfl w2.heap.size 5 ib _ 1 1 Tryz.underlying41 hb0 hb1 hb2 hb3 rfl (by omega) (.slice A (L.length) c) (L.length) (bcells L) rfl (hown.out.alloc _) (fun b => b = wr.heap.size) (some ⟨wr.heap.size, 0, none⟩) 1 1 [.int .u8 (((v.s[k]'hlt).toNat : Nat))] rfl (Rd.new wr 5 1 1 #[.int .u8 (((v.s[k]'hlt).toNat : Nat))] _ rfl rfl) (by intro u hu; simp at hu; subst hu; rfl) (by simp only [maxLen]; have := hL8.out; omega) (by have := hL8.out; omega) (by have := hB.out.size; simp; omega) ?_
              intro v9 w9 hown9 hg9 hat9
              have hB9 := hid ((hB.out.alloc hB.out.size (.cells #[.int .u8 (((v.s[k]'hlt).toNat : Nat))] 5)).grown hg9 (by have := hB.out.size; simp; omega) fun k hk => (hown.out.lt k hk).1)
              obtain ⟨A9, c9, rfl, _⟩ := own_form hown9
              rw [← bcells_snoc] at hown9
              have hown9 := hid hown9
              skip
              clear hg9 hat9)
            refine ⟨⟨k + 1, A9, c9, L ++ [(v.s[k]'hlt).toNat], by simp, by first | rfl | simp, by omega, by have := hL.out; simp; omega, by simpa using hown9.out, hB9.out, hR2.out⟩, ?_⟩
            simp [intOf]
            omega
        · have i1 : ¬ ((k : Int) < (v.s.size : Int)) := by omega
          have hR2 : Hid (lb (L ++ [34]) = printL v) := hid (by
            rw [hfin.out, show (34 : Nat) = (34 : UInt8).toNat from rfl, lb_snoc, hR.out, take_all (by omega)]; rfl)
          clear hlt
          go_wp2_with (
            at_builtin
            refine wpList_append_rd _ rfl (.tmp 51) (.tmp 52) 41 rfl w2.heap.size 5 ib _ 1 1 Tryz.underlying41 hb0 hb1 hb2 hb3 rfl (by omega) (.slice A (L.length) c) (L.length) (bcells L) rfl (hown.out.alloc _) (fun b => b = wr.heap.size) (some ⟨wr.heap.size, 0, none⟩) 1 1 [.int .u8 (((34 : Nat) : Int))] rfl (Rd.new wr 5 1 1 #[.int .u8 (((34 : Nat) : Int))] _ rfl rfl) (by intro u hu; simp at hu; subst hu; rfl) (by simp only [maxLen]; have := hL8.out; omega) (by have := hL8.out; omega) (by have := hB.out.size; simp; omega) ?_
            intro v9 w9 hown9 hg9 hat9
            have hB9 := hid ((hB.out.alloc hB.out.size (.cells #[.int .u8 (((34 : Nat) : Int))] 5)).grown hg9 (by have := hB.out.size; simp; omega) fun k hk => (hown.out.lt k hk).1)
            obtain ⟨A9, c9, rfl, _⟩ := own_form hown9
            rw [← bcells_snoc] at hown9
            have hown9 := hid hown9
            have hcv := convB (Rd.of_own hown9.out) (c := c9) (by simp)
            clear hg9 hat9)
          have hfb : Hid (Below w.heap.size w w9) := hid (hB2.out.trans (hB9.out.mono hB2.out.size))
          refine bodyPost_ret (v := .tuple #[.string (bt (L ++ [34])), .int .i64 0]) (by simp [results, Tryz.results44, go_sem]) rfl ⟨?_, hfb.out⟩
          rw [← hR2.out, hpe.out]; rfl

end Go.Proofs.YtphglnenafdkaaaGreatDoor

namespace Go.Proofs.YtphglnenafdkaaaGreatDoor
open Go.RowKit
set_option linter.unusedVariables false
set_option linter.unusedSimpArgs false

def lineL (x : Kv) : List UInt8 := x.1.data.toList ++ (32 :: (printL x.2 ++ [10]))
def headL (s : St) : List UInt8 := Lib.itoa s.parts ++ (10 :: (Lib.itoa s.room ++ [10]))
def bytesTo (s : St) (i : Nat) : List UInt8 := headL s ++ (s.L.take i).flatMap lineL
def bytesS (s : St) : List UInt8 := headL s ++ s.L.flatMap lineL
theorem bytesTo_zero (s : St) : bytesTo s 0 = headL s := by simp [bytesTo]
theorem bytesTo_all (s : St) : bytesTo s s.L.length = bytesS s := by unfold bytesTo bytesS; rw [List.take_length]
theorem bytesTo_step (s : St) {i : Nat} (h : i < s.L.length) : bytesTo s (i + 1) = bytesTo s i ++ lineL s.L[i] := by
  unfold bytesTo
  rw [List.take_succ_eq_append_getElem h, List.flatMap_append, List.append_assoc]
  simp
theorem escL_len : ∀ l : List UInt8, (escL l).length ≤ 2 * l.length
  | [] => Nat.le_refl _
  | c :: l => by
    have := escL_len l
    unfold escL at *
    rw [List.flatMap_cons, List.length_append, List.length_cons]
    split <;> simp only [List.length_cons, List.length_nil] <;> omega
theorem print_len {v : Vl} (hok : v.ok = true) (hr : v.rng) : (printL v).length ≤ 200 := by
  unfold printL litL
  rw [if_pos hok]
  split
  · have := Lib.itoa_length_le v.n hr.1 hr.2
    omega
  · split
    · decide
    · have h := ok_forms hok
      have h2 : v.s.size ≤ 64 := by
        rcases h with rfl | ⟨h1, h2⟩ | ⟨h1, h2, h3, h4⟩
        · decide
        · rw [h2]; decide
        · exact h3
      have := escL_len v.s.data.toList
      have e : v.s.data.toList.length = v.s.size := Array.length_toList
      simp
      omega
theorem line_len {x : Kv} (hk : validK x.1 = true) (hok : x.2.ok = true) (hr : x.2.rng) : (lineL x).length ≤ 300 := by
  have h1 := print_len hok hr
  have h2 : x.1.size ≤ 32 := by unfold validK at hk; simp at hk; omega
  have e : x.1.data.toList.length = x.1.size := Array.length_toList
  unfold lineL
  simp only [List.length_append, List.length_cons, List.length_nil]
  omega
theorem flat_le : ∀ {l : List Kv}, (∀ x ∈ l, (lineL x).length ≤ 300) → (l.flatMap lineL).length ≤ 300 * l.length
  | [], _ => Nat.le_refl _
  | x :: l, h => by
    have h1 := h x (List.mem_cons_self ..)
    have h2 := flat_le (l := l) fun y hy => h y (List.mem_cons_of_mem _ hy)
    rw [List.flatMap_cons, List.length_append, List.length_cons]
    omega
theorem bytesTo_len {s : St} (h : ∀ x ∈ s.L, (lineL x).length ≤ 300) (hh : (headL s).length ≤ 60) (hn : s.L.length ≤ 262144) (i : Nat) : (bytesTo s i).length ≤ 100000000 := by
  unfold bytesTo
  have h1 := flat_le (l := s.L.take i) fun x hx => h x (List.mem_of_mem_take hx)
  have h2 : (s.L.take i).length ≤ s.L.length := by rw [List.length_take]; omega
  rw [List.length_append]
  omega
theorem head_len {s : St} (h1 : s.parts ≤ 64) (h2 : s.room ≤ 4096) : (headL s).length ≤ 60 := by
  have a := Lib.itoa_length_le (s.parts : Int) (by omega) (by omega)
  have b := Lib.itoa_length_le (s.room : Int) (by omega) (by omega)
  unfold headL
  simp only [List.length_append, List.length_cons, List.length_nil]
  omega
end Go.Proofs.YtphglnenafdkaaaGreatDoor

namespace Go.Proofs.YtphglnenafdkaaaGreatDoor
open Go.RowKit
set_option linter.unusedVariables false
set_option linter.unusedSimpArgs false

/-- a number's text -/
def dg (n : Int) : ByteArray := ⟨(Lib.itoa n).toArray⟩
theorem dg_size {n : Int} (h0 : -9223372036854775808 ≤ n) (h1 : n ≤ 9223372036854775807) : (dg n).size ≤ 21 := by
  have := Lib.itoa_length_le n h0 h1
  unfold dg ByteArray.size
  simpa using this
theorem digits_dg (n : Int) (h0 : -9223372036854775808 ≤ n) (h1 : n ≤ 9223372036854775807) (w : World) (he : Env w) :
    Calls Tryz.prog 41 #[.int .i64 n] w fun e w' => e = .returned (.string (dg n)) ∧ Below w.heap.size w w' := digits_any n h0 h1 w he
theorem isBuf_below {T e : TypeId} {B b : Nat} {bs : List Value} {w w' : World} (h : Lib.IsBuffer T e B b bs w) (hb : Below w.heap.size w w') : Lib.IsBuffer T e B b bs w' := by
  have hlt := h.lt
  obtain ⟨hB, v, lr, hbk, hown, hne⟩ := h
  exact ⟨hB, v, lr, (hb.block b hlt).trans hbk, own_updB hown (Upd.of_below' hb (fun _ => False)) (fun _ _ _ h => h), hne⟩
theorem byteCells_one (l : List UInt8) : ∀ v ∈ Lib.byteCells l, v.oneCell' = true := by
  intro v hv
  obtain ⟨x, _, rfl⟩ := List.mem_map.1 hv
  rfl
theorem head_text (s : St) : (dg s.parts ++ ⟨#[10]⟩ ++ dg s.room ++ ⟨#[10]⟩ : ByteArray).data.toList = headL s := by
  simp [dg, headL, ByteArray.data_append]
/-- a value's text -/
def pt (v : Vl) : ByteArray := ⟨(printL v).toArray⟩
theorem pt_size {v : Vl} (hok : v.ok = true) (hr : v.rng) : (pt v).size ≤ 200 := by
  have := print_len hok hr
  unfold pt ByteArray.size
  simpa using this
theorem line_text (x : Kv) : (x.1 ++ ⟨#[32]⟩ ++ pt x.2 ++ ⟨#[10]⟩ : ByteArray).data.toList = lineL x := by
  simp [pt, lineL, ByteArray.data_append]
theorem own_others {w w' : World} {base b : Nat} {t u : TypeId} {size n : Nat} {v : Value} {xs : List Value} (h : w.ownsRow base t size v n xs) (hk : Lib.OthersKept u (some b) w w') (hb : b < base) (ht : t ≠ u) : w'.ownsRow base t size v n xs := by
  refine ⟨h.1, ?_⟩
  rcases h.2 with hn | ⟨g, cap, cur, rfl, hg, hh, rest⟩
  · exact .inl hn
  · exact .inr ⟨g, cap, cur, rfl, hg, hk g _ hh (fun e => by injection e with e; omega) (fun c fz e => by injection e with _ e; exact ht e), rest⟩
theorem others_below {u : TypeId} {b : Option Nat} {w w' : World} (h : Below w.heap.size w w') : Lib.OthersKept u b w w' := fun k o hk _ _ => (h.block k (Array.getElem?_eq_some_iff.1 hk).1).trans hk
section
variable {S : Nat → Prop} {w : World} {g : Nat} {s : St}
set_option maxRecDepth 100000 in
theorem parts_any (h : PAt S w g s) : Calls Tryz.prog 42 #[.pointer (some ⟨g, 0, none⟩)] w fun e w' => e = .returned (.int .i64 s.parts) ∧ w' = w := by
  obtain ⟨cb, cc, mb, vb, h⟩ := h
  have c1 := h.cells.2.1
  clear h
  go_enter Tryz.func42, Tryz.ntmps42
  go_wp2_with fail
  go_ret
  exact ⟨rfl, rfl⟩
set_option maxRecDepth 100000 in
set_option maxHeartbeats 4000000 in
theorem bytes_any (h : PAt S w g s) (he : Env w) (hr : ∀ x ∈ s.L, x.2.rng) : Calls Tryz.prog 13 #[.pointer (some ⟨g, 0, none⟩)] w fun e w' => ∃ v, e = .returned v ∧ w'.ownsRow w.heap.size 5 1 v (bytesS s).length (Lib.byteCells (bytesS s)) ∧ Below w.heap.size w w' := by
  have HP := hid h
  have HE := hid he
  have HR := hid hr
  have hB0 : Hid (Below w.heap.size w (w.alloc (.cells #[.slice none 0 0, .int .i64 0, .int .i8 0] 83))) := hid ((Below.refl _ _).alloc (Nat.le_refl _) _)
  have hI0 := hid (Lib.fresh_isBuffer 83 5 w)
  clear h he hr
  go_enter Tryz.func13, Tryz.ntmps13
  go_upto_region 4 with fail
  generalize w.alloc (.cells #[.slice none 0 0, .int .i64 0, .int .i8 0] 83) = w1 at *
  have hkeep := hid (show ∀ W, Below w1.heap.size w1 W → W.cell? ⟨g, 0, none⟩ = some (.int .i64 s.room) from fun W hb => by
    obtain ⟨cb, cc, mb, vb, h⟩ := HP.out.below (hB0.out.trans (hb.mono hB0.out.size))
    exact h.cells.1)
  have hkw := hid (show ∀ W, Below w.heap.size w W → W.cell? ⟨g, 0, none⟩ = some (.int .i64 s.room) from fun W hb => by
    obtain ⟨cb, cc, mb, vb, h⟩ := HP.out.below hb
    exact h.cells.1)
  have hkP := hid (show ∀ W, Below w1.heap.size w1 W → PAt S W g s from fun W hb => HP.out.below (hB0.out.trans (hb.mono hB0.out.size)))
  have hkE := hid (show ∀ W, Below w1.heap.size w1 W → Env W from fun W hb => HE.out.below (hB0.out.trans (hb.mono hB0.out.size)))
  have hpr := hid (show (0 : Int) ≤ s.parts ∧ (s.parts : Int) ≤ 64 by have := HP.out.ok.parts; omega)
  have hrr := hid (show (0 : Int) ≤ s.room ∧ (s.room : Int) ≤ 4096 by have := HP.out.ok.room; omega)
  have z1 : (dg s.parts).size ≤ 21 := dg_size (by omega) (by have := hpr.out; omega)
  have z2 : (dg s.room).size ≤ 21 := dg_size (by omega) (by have := hrr.out; omega)
  have z3 : ByteArray.size ⟨#[10]⟩ = 1 := rfl
  have hs1 : ∀ W, (Op.stringOp .add (dg s.parts) ⟨#[10]⟩).run Tryz.prog W = .ok (.string (dg s.parts ++ ⟨#[10]⟩)) W := fun W => run_string_add_sum W _ _ (by omega)
  have hs2 : ∀ W, (Op.stringOp .add (dg s.parts ++ ⟨#[10]⟩) (dg s.room)).run Tryz.prog W = .ok (.string (dg s.parts ++ ⟨#[10]⟩ ++ dg s.room)) W := fun W => run_string_add_sum W _ _ (by simp only [ByteArray.size_append]; omega)
  have hs3 : ∀ W, (Op.stringOp .add (dg s.parts ++ ⟨#[10]⟩ ++ dg s.room) ⟨#[10]⟩).run Tryz.prog W = .ok (.string (dg s.parts ++ ⟨#[10]⟩ ++ dg s.room ++ ⟨#[10]⟩)) W := fun W => run_string_add_sum W _ _ (by simp only [ByteArray.size_append]; omega)
  go_cut [] (fun wx => Lib.IsBuffer 83 5 w.heap.size w.heap.size (Lib.byteCells (headL s)) wx ∧ Below w.heap.size w wx)
  case first =>
    have hbX : Hid (Below w1.heap.size w1 w1.drew) := hid (Below.refl _ _).drew
    go_region_held3 (fun W => W.cell? ⟨g, 0, none⟩ = some (.int .i64 s.room)) (first | exact hkw.out _ hbY.out | exact hkeep.out _ hbX.out | exact hkeep.out _ hbX.out.drew)
      (first
        | (go_at_call 42; refine (parts_any (hkP.out _ hbX.out)).mono ?_; rintro e wb ⟨rfl, hwq⟩; obtain rfl := hwq.symm)
        | (go_at_call 41; refine (digits_dg _ (by have := hpr.out; have := hrr.out; omega) (by have := hpr.out; have := hrr.out; omega) _ (hkE.out _ hbX.out)).mono ?_; rintro e wb ⟨rfl, hbb⟩; have hbX : Hid (Below w1.heap.size w1 wb) := hid (hbX.out.trans (hbb.mono hbX.out.size)); clear hbb)
        | (go_at_call 40; refine (Buffer_WriteString_k w.heap.size w.heap.size [] _ _ (isBuf_below hI0.out hbX.out) (hB0.out.trans (hbX.out.mono hB0.out.size)).size (by simp) (by simp only [List.length_nil, ByteArray.size_append, z3]; omega)).mono ?_; rintro e wb ⟨rfl, hIb0, hbb, _⟩; have hIb := hid hIb0; have hbY : Hid (Below w.heap.size w wb) := hid ((hB0.out.trans (hbX.out.mono hB0.out.size)).trans hbb); clear hbb hIb0))
    all_goals go_wp2_with fail
    all_goals go_meet
    all_goals exact ⟨by have h := hIb.out; rw [head_text] at h; simpa using h, hbY.out⟩
  case rest =>
    obtain ⟨hI1, hB1⟩ := hcut
    have HI := hid hI1
    have HB := hid hB1
    have hks := hid (keys_any (HP.out.below hB1))
    clear hI1 hB1 hs1 hs2 hs3 z1 z2 hkeep hkw hkP hkE hB0 hI0
    go_wp2_with fail
    refine hks.out.mono ?_
    rintro e wk ⟨A, c, rfl, hown0, hbk⟩
    have hO := hid hown0
    have hI2 := hid (isBuf_below HI.out hbk)
    have hB2 := hid (HB.out.trans (hbk.mono HB.out.size))
    have hbl := hid (HI.out.lt)
    have hln := hid (bytesTo_len (s := s) (fun x hx => line_len (HP.out.ok.key x hx) (HP.out.ok.val x hx) (HR.out x hx)) (head_len (by have := HP.out.ok.parts; omega) (by have := HP.out.ok.room; omega)) HP.out.ok.len)
    clear hown0 hbk HI HB hks
    generalize hlL : s.L.length = n at *
    have hnn : (n : Int) ≤ 262144 := by have := HP.out.ok.len; omega
    go_wp2_with fail
    go_loopw [25] (fun v wr => ∃ i : Nat, v = .int .i64 i ∧ i ≤ n ∧ Lib.IsBuffer 83 5 w.heap.size w.heap.size (Lib.byteCells (bytesTo s i)) wr ∧ Below w.heap.size w wr ∧ Lib.OthersKept 5 (some w.heap.size) wk wr) (fun v _ => n - (intOf v).toNat)
    case atStart => exact ⟨0, rfl, Nat.zero_le _, by rw [bytesTo_zero]; exact hI2.out, hB2.out, .refl _ _ _⟩
    case round =>
      obtain ⟨i, rfl, hi, hI0, hB0, hK0⟩ := hrel
      have hI := hid hI0
      have hB := hid hB0
      have hK := hid hK0
      by_cases hlt : i < n
      · have i1 : (i : Int) < (n : Int) := by omega
        have hlt' : i < s.L.length := by omega
        obtain ⟨x, hx⟩ : ∃ x, x = s.L[i] := ⟨_, rfl⟩
        have hmem : x ∈ s.L := by rw [hx]; exact List.getElem_mem hlt'
        have hOr := own_others hO.out hK0 hbl.out (by decide)
        obtain ⟨b, o, rfl, _, _, y0⟩ := rd_strs (ks := s.L.map (·.1)) (i := i) (by rw [List.length_map, hlL]; exact Rd.of_own' hOr) (by simpa using hlt')
        rw [show (s.L.map (·.1))[i]'(by simpa using hlt') = x.1 by simp [hx]] at y0
        obtain ⟨cb, cc, mb, vb, hin⟩ := HP.out.below hB0
        have c2 := hin.cells.2.2
        have hget := hin.get x.1
        rw [valK_mem HP.out.ok.asc hmem] at hget
        have hvk := hid (HP.out.ok.key x hmem)
        have hvo := hid (HP.out.ok.val x hmem)
        have hvr := hid (HR.out x hmem)
        have hstep := hid (bytesTo_step s hlt')
        have hxx := hid hx
        have hpr9 := hid (print_any x.2 wr (by
          rcases ok_forms hvo.out with e | ⟨_, e⟩ | ⟨_, _, e, _⟩
          · rw [e]; decide
          · rw [e]; decide
          · omega) hvr.out (HE.out.below hB0))
        clear hx hI0 hB0 hK0 hOr hin hmem
        go_wp2_with fail
        refine hpr9.out.mono ?_
        rintro e wq ⟨rfl, hbq⟩
        rw [show (⟨(printL x.2).toArray⟩ : ByteArray) = pt x.2 from rfl]
        have hIq := hid (isBuf_below hI.out hbq)
        have hBq := hid (hB.out.trans (hbq.mono hB.out.size))
        have hKq := hid (hK.out.trans (others_below hbq))
        have z1 : x.1.size ≤ 32 := by have := hvk.out; unfold validK at this; simp at this; omega
        have z2 : (pt x.2).size ≤ 200 := pt_size hvo.out hvr.out
        have z3 : ByteArray.size ⟨#[10]⟩ = 1 := rfl
        have z4 : ByteArray.size ⟨#[32]⟩ = 1 := rfl
        have hsz := hid (show (x.1 ++ ⟨#[32]⟩ ++ pt x.2 ++ ⟨#[10]⟩ : ByteArray).size ≤ 1000 by simp only [ByteArray.size_append]; omega)
        have hs1 : ∀ W, (Op.stringOp .add x.1 ⟨#[32]⟩).run Tryz.prog W = .ok (.string (x.1 ++ ⟨#[32]⟩)) W := fun W => run_string_add_sum W _ _ (by omega)
        have hs2 : ∀ W, (Op.stringOp .add (x.1 ++ ⟨#[32]⟩) (pt x.2)).run Tryz.prog W = .ok (.string (x.1 ++ ⟨#[32]⟩ ++ pt x.2)) W := fun W => run_string_add_sum W _ _ (by simp only [ByteArray.size_append]; omega)
        have hs3 : ∀ W, (Op.stringOp .add (x.1 ++ ⟨#[32]⟩ ++ pt x.2) ⟨#[10]⟩).run Tryz.prog W = .ok (.string (x.1 ++ ⟨#[32]⟩ ++ pt x.2 ++ ⟨#[10]⟩)) W := fun W => run_string_add_sum W _ _ (by simp only [ByteArray.size_append]; omega)
        clear hbq z1 z2 z3 z4 y0 c2 hget hI hB hK hpr9
        go_wp2_with fail
        refine (Buffer_WriteString_k w.heap.size w.heap.size _ _ _ hIq.out hBq.out.size (byteCells_one _) (by have h1 := hln.out i; have h2 := hsz.out; rw [Lib.byteCells_length]; omega)).mono ?_
        rintro e wb ⟨rfl, hIb0, hbb, hkb⟩
        have hfin : Hid (∃ i' : Nat, Value.int .i64 ((i : Int) + 1) = .int .i64 i' ∧ i' ≤ n ∧ Lib.IsBuffer 83 5 w.heap.size w.heap.size (Lib.byteCells (bytesTo s i')) wb ∧ Below w.heap.size w wb ∧ Lib.OthersKept 5 (some w.heap.size) wk wb) := hid ⟨i + 1, by simp, hlt, by rw [hstep.out, Lib.byteCells_append, ← hxx.out, ← line_text]; exact hIb0, hBq.out.trans hbb, hKq.out.trans hkb⟩
        have hj : IntKind.i64.wrap ((i : Int) + 1) = (i : Int) + 1 := by rw [IntKind.wrap_i64]; omega
        clear hIb0 hbb hkb hIq hBq hKq hs1 hs2 hs3
        go_wp2_with fail
        go_roundw
        case rel => exact hfin.out
        case measure => simp [intOf]; omega
      · obtain rfl : i = n := by omega
        have hby := Buffer_Bytes w.heap.size w.heap.size _ wr hI.out
        rw [← hlL, bytesTo_all] at hby
        have hby := hid hby
        clear hlt hI0 hB0 hK0
        go_wp2_with fail
        refine hby.out.mono ?_
        rintro e w9 ⟨v, rfl, hov, q, rfl⟩
        have hfin : Hid ((wr.drewN q).ownsRow w.heap.size 5 1 v (bytesS s).length (Lib.byteCells (bytesS s)) ∧ Below w.heap.size w (wr.drewN q)) := hid ⟨by rw [Lib.byteCells_length] at hov; exact hov, below_drewN hB.out q⟩
        clear hov hby
        go_wp2_with fail
        go_ret
        exact ⟨v, rfl, hfin.out.1, hfin.out.2⟩
end
end Go.Proofs.YtphglnenafdkaaaGreatDoor

namespace Go.Proofs.YtphglnenafdkaaaGreatDoor
open Go.RowKit
set_option linter.unusedVariables false
set_option linter.unusedSimpArgs false

def RngL (L : List Kv) : Prop := ∀ x ∈ L, x.2.rng
theorem rng_vl0 : vl0.rng := by unfold Vl.rng vl0; constructor <;> decide
theorem rng_claim {s : St} {ks : List ByteArray} (h : RngL s.L) : RngL (claimS s ks).L := by
  unfold claimS
  split
  · intro x hx
    rcases insAll_mem hx with ⟨_, e⟩ | hx
    · rw [e]; exact rng_vl0
    · exact h x hx
  · exact h
theorem rng_upAll : ∀ {ws : List Wr} {L : List Kv}, RngL L → (∀ x ∈ ws, x.v.rng) → RngL (upAll L ws)
  | [], L, h, _ => h
  | x :: ws, L, h, hw => rng_upAll (ws := ws) (L := upK x.key x.v L) (fun y hy => by
      rcases up_mem hy with ⟨_, e⟩ | hy
      · rw [e]; exact hw x (List.mem_cons_self ..)
      · exact h y hy) fun y hy => hw y (List.mem_cons_of_mem _ hy)
theorem rng_apply {s : St} {ws : List Wr} (h : RngL s.L) (hw : ∀ x ∈ ws, x.v.rng) : RngL (applyS s ws).L := by
  unfold applyS
  split
  · exact rng_upAll h hw
  · exact h
theorem wrE_ne5 (s : St) (ws : List Wr) (i : Nat) : wrE s ws i ≠ 5 := by
  unfold wrE
  simp only
  split
  · decide
  · split
    · decide
    · split
      · decide
      · split
        · decide
        · split <;> decide
theorem claim_has {s : St} {ks : List ByteArray} (h : claimE s ks = 0) {k : ByteArray} (hk : k ∈ ks) : hasK k (claimS s ks).L = true := by
  unfold claimS
  rw [if_pos h]
  show hasK k (insAll s.L ks) = true
  rw [insAll_has]
  have : ks.any (fun j => decide (j = k)) = true := List.any_eq_true.2 ⟨k, hk, by simp⟩
  rw [this]; rfl
section
variable {S : Nat → Prop} {w : World} {g : Nat} {s : St}
set_option maxRecDepth 100000 in
theorem claims_any (h : PAt S w g s) (p : Nat) (hp : p < s.parts) : Calls Tryz.prog 53 #[.pointer (some ⟨g, 0, none⟩), .int .i64 p] w fun e w' => e = .returned (.int .i64 (cntP s.parts p s.L)) ∧ w' = w := by
  have hpt := hid (parts_any h)
  obtain ⟨cb, cc, mb, vb, h⟩ := h
  have c1 := h.cells.2.1
  have y0 := h.rowc p hp
  have hsz := fun ty => h.size p hp ty
  have t1 : decide ((p : Int) < 0) = false := decide_eq_false (by omega)
  have t2 : decide ((s.parts : Int) ≤ (p : Int)) = false := decide_eq_false (by omega)
  have t3 : decide (s.parts ≤ p) = false := decide_eq_false (by omega)
  have i1 : (p : Int) < (s.parts : Int) := by omega
  clear h hp
  go_enter Tryz.func53, Tryz.ntmps53
  go_wp2_with fail
  refine hpt.out.mono ?_
  rintro e wq ⟨rfl, hwq⟩
  obtain rfl := hwq.symm
  go_wp2_with fail
  go_ret
  exact ⟨rfl, rfl⟩
end
end Go.Proofs.YtphglnenafdkaaaGreatDoor

namespace Go.Proofs.YtphglnenafdkaaaGreatDoor
open Go.RowKit
set_option linter.unusedVariables false
set_option linter.unusedSimpArgs false

theorem long_no {us : List SA} (h : longB us = false) : us.length ≤ 200 ∧ ∀ a ∈ us, a.ks.length ≤ 6000 ∧ a.ws.length ≤ 6000 := by
  unfold longB at h
  simp at h
  refine ⟨by omega, fun a ha => ?_⟩
  have := partsA_mem ha
  unfold partA at this
  omega
theorem good_pr {p r : Int} (h : goodPR p r = true) : ∃ p' r' : Nat, p = p' ∧ r = r' ∧ (1 ≤ p' ∧ p' ≤ 64) ∧ (1 ≤ r' ∧ r' ≤ 4096) := by
  unfold goodPR at h
  simp at h
  exact ⟨p.toNat, r.toNat, by omega, by omega, by omega, by omega⟩
/-- a store's bytes as a text -/
def btS (s : St) : ByteArray := bt ((bytesS s).map UInt8.toNat)
theorem bcells_bytes (l : List UInt8) : Lib.byteCells l = bcells (l.map UInt8.toNat) := by
  unfold Lib.byteCells bcells
  rw [List.map_map]; rfl
theorem bytes_text {S : Nat → Prop} {w : World} {g : Nat} {s : St} (h : PAt S w g s) (he : Env w) (hr : RngL s.L) : Calls Tryz.prog 13 #[.pointer (some ⟨g, 0, none⟩)] w fun e w' => ∃ A n c, e = .returned (.slice A n c) ∧ (convert 41 9 (.slice A n c)).run Tryz.prog w' = .ok (.string (btS s)) w' ∧ Below w.heap.size w w' := by
  refine (bytes_any h he hr).mono ?_
  rintro e w' ⟨v, rfl, ho, hb⟩
  obtain ⟨A, c, rfl, _⟩ := own_form ho
  rw [bcells_bytes] at ho
  exact ⟨A, _, c, rfl, convB (Rd.of_own ho) (by simp), hb⟩
/-- the store, within a round -/
structure RoomRel (g : Nat) (p r : Nat) (w1 wr : World) : Prop where
  st : ∃ S s, PAt S wr g s ∧ (∀ j, S j → w1.heap.size ≤ j) ∧ RngL s.L ∧ s.parts = p ∧ s.room = r
  bel : Below w1.heap.size w1 wr
theorem claimS_pr (s : St) (ks : List ByteArray) : (claimS s ks).parts = s.parts ∧ (claimS s ks).room = s.room := by unfold claimS; split <;> exact ⟨rfl, rfl⟩
theorem applyS_pr (s : St) (ws : List Wr) : (applyS s ws).parts = s.parts ∧ (applyS s ws).room = s.room := by unfold applyS; split <;> exact ⟨rfl, rfl⟩
theorem applyE_ne5 (s : St) (ws : List Wr) : applyE s ws ≠ 5 := by
  have key : ∀ n i, (scan (wrE s ws) n i).1 ≠ 5 := by
    intro n
    induction n with
    | zero => intro i; simp [scan]
    | succ n ih =>
      intro i
      unfold scan
      split
      · exact ih _
      · exact wrE_ne5 s ws i
  exact key _ _
section
variable {w w' : World}
end
end Go.Proofs.YtphglnenafdkaaaGreatDoor

namespace Go.Proofs.YtphglnenafdkaaaGreatDoor
open Go.RowKit
set_option linter.unusedVariables false
set_option linter.unusedSimpArgs false

theorem asc_mem {L : List Kv} (h : Asc L) {x : Kv} : x ∈ L ↔ hasK x.1 L = true ∧ valK x.1 L = x.2 := by
  constructor
  · intro hx
    exact ⟨hasK_mem.2 ⟨x, hx, rfl⟩, valK_mem h hx⟩
  · rintro ⟨h1, h2⟩
    obtain ⟨y, hy, e⟩ := hasK_mem.1 h1
    have h3 := valK_mem h hy
    rw [e] at h3
    have : x = y := Prod.ext e.symm (by rw [← h2, h3])
    rw [this]; exact hy
theorem asc_nd {L : List Kv} (h : Asc L) : L.Nodup := by
  have h1 := asc_nodup h
  rw [List.nodup_iff_pairwise_ne, List.pairwise_map] at h1
  rw [List.nodup_iff_pairwise_ne]
  exact h1.imp fun h e => h (by rw [e])
theorem asc_ext {L M : List Kv} (hL : Asc L) (hM : Asc M) (h1 : ∀ k, hasK k L = hasK k M) (h2 : ∀ k, valK k L = valK k M) : L = M :=
  asc_eq hL hM ((List.perm_ext_iff_of_nodup (asc_nd hL) (asc_nd hM)).2 fun x => by rw [asc_mem hL, asc_mem hM, h1, h2])
/-- claims in whatever order -/
theorem insAll_order {L : List Kv} (h : Asc L) {ks js : List ByteArray} (hk : ∀ k, k ∈ ks ↔ k ∈ js) : insAll L ks = insAll L js := by
  refine asc_ext (insAll_asc h) (insAll_asc h) (fun k => ?_) fun k => by rw [insAll_val h, insAll_val h]
  rw [insAll_has, insAll_has]
  congr 1
  rw [Bool.eq_iff_iff, List.any_eq_true, List.any_eq_true]
  constructor <;> rintro ⟨j, hj, e⟩
  · exact ⟨j, (hk j).1 hj, e⟩
  · exact ⟨j, (hk j).2 hj, e⟩
/-- the i-th of a list that begins at t, round about -/
theorem rot_mem {α : Type} (l : List α) (t : Nat) : ∀ k, k ∈ (l.drop t ++ l.take t) ↔ k ∈ l := fun k => by
  rw [List.mem_append]
  conv => rhs; rw [← List.take_append_drop t l, List.mem_append]
  exact Or.comm
theorem nodup_le {α : Type} [DecidableEq α] : ∀ {l m : List α}, l.Nodup → (∀ x ∈ l, x ∈ m) → l.length ≤ m.length
  | [], _, _, _ => Nat.zero_le _
  | a :: l, m, hn, hs => by
    have h1 := List.nodup_cons.1 hn
    have ha := hs a (List.mem_cons_self ..)
    have h2 := nodup_le (l := l) (m := m.erase a) h1.2 fun x hx => (List.mem_erase_of_ne (show x ≠ a from fun e => h1.1 (by rw [← e]; exact hx))).2 (hs x (List.mem_cons_of_mem _ hx))
    rw [List.length_erase_of_mem ha] at h2
    have := List.length_pos_of_mem ha
    rw [List.length_cons]
    omega
theorem cnt_mono {n p : Nat} {L M : List Kv} (hL : Asc L) (h : ∀ k, hasK k L = true → hasK k M = true) : cntP n p L ≤ cntP n p M := by
  have e : ∀ X : List Kv, cntP n p X = ((X.filter fun x => decide (partK n x.1 = p)).map (·.1)).length := fun X => by
    unfold cntP
    rw [List.length_map, List.countP_eq_length_filter]
  rw [e, e]
  refine nodup_le ((List.filter_sublist.map _).nodup (asc_nodup hL)) fun k hk => ?_
  obtain ⟨x, hx, rfl⟩ := List.mem_map.1 hk
  obtain ⟨h1, h2⟩ := List.mem_filter.1 hx
  obtain ⟨y, hy, e⟩ := hasK_mem.1 (h x.1 (hasK_mem.2 ⟨x, h1, rfl⟩))
  exact List.mem_map.2 ⟨y, List.mem_filter.2 ⟨hy, by rw [e]; exact h2⟩, e⟩
/-- each of claims that all fit fits by itself, some of them having come -/
theorem claim_one {s : St} (hok : s.Ok) {l js : List ByteArray} {k : ByteArray} (h : claimE s l = 0) (hj : ∀ j ∈ js, j ∈ l) (hk : k ∈ l) : claimE { s with L := insAll s.L js } [k] = 0 := by
  have hS := claim_ok hok l
  have hSL : (claimS s l).L = insAll s.L l := by unfold claimS; rw [if_pos h]
  have hSp : (claimS s l).parts = s.parts ∧ (claimS s l).room = s.room := by unfold claimS; rw [if_pos h]; exact ⟨rfl, rfl⟩
  have hval : (l.any fun k => !validK k) = false := by
    cases e : l.any (fun k => !validK k) with
    | false => rfl
    | true => rw [claimE_key e] at h; cases h
  refine claimE_ok ?_ rfl fun p hp hc => ?_
  · rw [List.any_eq_false] at hval
    simpa using hval k hk
  · obtain ⟨h1, h2⟩ := hc
    have ha := insAll_asc (ks := js) hok.asc
    have hm : cntP s.parts p (insK k (insAll s.L js)) ≤ cntP s.parts p (insAll s.L l) := cnt_mono (ins_asc ha) fun y hy => by
      rw [insAll_has]
      rw [hasK_ins, insAll_has] at hy
      simp only [Bool.or_eq_true, decide_eq_true_eq, List.any_eq_true] at hy ⊢
      rcases hy with rfl | ⟨j, hj1, rfl⟩ | hy
      · exact .inl ⟨k, hk, rfl⟩
      · exact .inl ⟨j, hj j hj1, rfl⟩
      · exact .inr hy
    have hr := hS.cnt p (by rw [hSp.1]; exact hp)
    rw [hSL, hSp.1, hSp.2] at hr
    rw [cnt_ins ha] at hm
    have e : moreK { s with L := insAll s.L js } [k] p = if hasK k (insAll s.L js) = false ∧ partK s.parts k = p then 1 else 0 := by
      unfold moreK
      rw [List.countP_cons, List.countP_nil]
      simp only
      cases hasK k (insAll s.L js) <;> by_cases h9 : partK s.parts k = p <;> simp [h9]
    simp only at h2 e
    rw [e] at h2
    omega
/-- the rotation's i-th -/
theorem rot_get {α : Type} (l : List α) {t i : Nat} (ht : t < l.length) (hi : i < l.length) : (l.drop t ++ l.take t)[i]? = l[(i + t) % l.length]? := by
  by_cases h : i < l.length - t
  · rw [List.getElem?_append_left (by rw [List.length_drop]; exact h), List.getElem?_drop, Nat.mod_eq_of_lt (by omega), Nat.add_comm]
  · rw [List.getElem?_append_right (by rw [List.length_drop]; omega), List.length_drop, List.getElem?_take_of_lt (by omega)]
    have e : (i + t) % l.length = i + t - l.length := by
      rw [Nat.mod_eq_sub_mod (by omega), Nat.mod_eq_of_lt (by omega)]
    rw [e]
    congr 1
    omega
end Go.Proofs.YtphglnenafdkaaaGreatDoor

namespace Go.Proofs.YtphglnenafdkaaaGreatDoor
open Go.RowKit
set_option linter.unusedVariables false
set_option linter.unusedSimpArgs false

theorem upAll_out : ∀ {ws : List Wr} {L : List Kv} {j : ByteArray}, (∀ x ∈ ws, x.key ≠ j) → valK j (upAll L ws) = valK j L
  | [], _, _, _ => rfl
  | x :: ws, L, j, h => by
    show valK j (upAll (upK x.key x.v L) ws) = _
    rw [upAll_out (fun y hy => h y (List.mem_cons_of_mem _ hy)), valK_up, if_neg fun e => h x (List.mem_cons_self ..) e.1]
theorem upAll_in : ∀ {ws : List Wr} {L : List Kv} {x : Wr}, (ws.map (·.key)).Nodup → x ∈ ws → hasK x.key L = true → valK x.key (upAll L ws) = x.v
  | y :: ws, L, x, hn, hx, hk => by
    have hn' := List.nodup_cons.1 hn
    show valK x.key (upAll (upK y.key y.v L) ws) = _
    rcases List.mem_cons.1 hx with rfl | hx
    · rw [upAll_out (fun z hz e => hn'.1 (List.mem_map.2 ⟨z, hz, e⟩)), valK_up, if_pos ⟨rfl, hk⟩]
    · exact upAll_in hn'.2 hx (by rw [hasK_up]; exact hk)
/-- writes of unlike keys in whatever order -/
theorem upAll_order {L : List Kv} (h : Asc L) {ws js : List Wr} (hn : (ws.map (·.key)).Nodup) (hm : (js.map (·.key)).Nodup) (he : ∀ x, x ∈ ws ↔ x ∈ js) (hk : ∀ x ∈ ws, hasK x.key L = true) : upAll L ws = upAll L js := by
  have ha : ∀ l, Asc (upAll L l) := fun l => asc_keys upAll_keys h
  refine asc_ext (ha _) (ha _) (fun k => by rw [upAll_has, upAll_has]) fun k => ?_
  by_cases hx : ∃ x ∈ ws, x.key = k
  · obtain ⟨x, hx, rfl⟩ := hx
    rw [upAll_in hn hx (hk x hx), upAll_in hm ((he x).1 hx) (hk x hx)]
  · rw [upAll_out (fun x h1 h2 => hx ⟨x, h1, h2⟩), upAll_out (fun x h1 h2 => hx ⟨x, (he x).2 h1, h2⟩)]
/-- each of writes that may all be applied may be by itself, some of them having come -/
theorem apply_one {s : St} {ws js : List Wr} {x : Wr} (h : applyE s ws = 0) (hx : x ∈ ws) : applyE { s with L := upAll s.L js } [x] = 0 := by
  have hz : ∀ j, j < ws.length → wrE s ws j = 0 := fun j hj => (scan_zero _ _ _).1 h j (Nat.zero_le _) (by omega)
  obtain ⟨j, hj, e⟩ := List.mem_iff_getElem.1 hx
  have h1 := hz j hj
  rw [wrE_at (x := x) (y := ws.getD (j - 1) wr0) (by simp [List.getD_eq_getElem?_getD, hj, e]) rfl] at h1
  refine applyE_zero fun k hk => ?_
  have hk0 : k = 0 := by simp at hk; omega
  subst hk0
  rw [wrE_at (x := x) (y := x) rfl rfl]
  simp only [upAll_has]
  split at h1
  · cases h1
  · rename_i g1
    split at h1
    · cases h1
    · split at h1
      · cases h1
      · rename_i g3
        split at h1
        · cases h1
        · rename_i g4
          split at h1
          · cases h1
          · rename_i g5
            rw [if_neg g1, if_neg (by simp), if_neg g3, if_neg g4, if_neg g5]
theorem apply_keys {s : St} {ws : List Wr} (h : applyE s ws = 0) : (ws.map (·.key)).Nodup ∧ ∀ x ∈ ws, hasK x.key s.L = true := by
  have hz : ∀ j, j < ws.length → wrE s ws j = 0 := fun j hj => (scan_zero _ _ _).1 h j (Nat.zero_le _) (by omega)
  have hc : ∀ j (hj : j < ws.length), hasK ws[j].key s.L = true ∧ (0 < j → ltB (ws.getD (j - 1) wr0).key ws[j].key = true) := fun j hj => by
    have h1 := hz j hj
    rw [wrE_at (x := ws[j]) (y := ws.getD (j - 1) wr0) (by simp [List.getD_eq_getElem?_getD, hj]) rfl] at h1
    split at h1
    · cases h1
    · split at h1
      · cases h1
      · rename_i g2
        split at h1
        · cases h1
        · rename_i g3
          refine ⟨by simpa using g3, fun h0 => ?_⟩
          cases e : ltB (ws.getD (j - 1) wr0).key ws[j].key with
          | true => rfl
          | false => exact absurd ⟨h0, e⟩ g2
  have hlt : ∀ i j (hj : j < ws.length) (hij : i < j), ltB (ws[i]'(by omega)).key ws[j].key = true := by
    intro i j
    induction j with
    | zero => intro hj hij; omega
    | succ j ih =>
      intro hj hij
      have h1 := (hc (j + 1) hj).2 (by omega)
      have e : ws.getD (j + 1 - 1) wr0 = ws[j]'(by omega) := by simp [List.getD_eq_getElem?_getD, show j < ws.length by omega]
      rw [e] at h1
      rcases Nat.lt_or_ge i j with h2 | h2
      · exact ltB_trans (ih (by omega) h2) h1
      · obtain rfl : i = j := by omega
        exact h1
  refine ⟨?_, fun x hx => ?_⟩
  · rw [List.nodup_iff_pairwise_ne, List.pairwise_map, List.pairwise_iff_getElem]
    intro i j hi hj hij
    exact ltB_ne (hlt i j hj hij)
  · obtain ⟨j, hj, rfl⟩ := List.mem_iff_getElem.1 hx
    exact (hc j hj).1
end Go.Proofs.YtphglnenafdkaaaGreatDoor

namespace Go.Proofs.YtphglnenafdkaaaGreatDoor
open Go.RowKit
set_option linter.unusedVariables false
set_option linter.unusedSimpArgs false

def rotL {α : Type} (l : List α) (t : Nat) : List α := l.drop t ++ l.take t
theorem rotL_len {α : Type} (l : List α) (t : Nat) : (rotL l t).length = l.length := by
  unfold rotL; rw [List.length_append, List.length_drop, List.length_take]; omega
theorem rotL_mem {α : Type} (l : List α) (t : Nat) (k : α) : k ∈ rotL l t ↔ k ∈ l := rot_mem l t k
theorem rotL_take {α : Type} (l : List α) {t i : Nat} (ht : t < l.length) (hi : i < l.length) : (rotL l t).take (i + 1) = (rotL l t).take i ++ [l[(i + t) % l.length]'(Nat.mod_lt _ (by omega))] := by
  rw [List.take_add_one]
  have h := rot_get l ht hi
  have : (rotL l t)[i]? = some (l[(i + t) % l.length]'(Nat.mod_lt _ (by omega))) := by
    unfold rotL; rw [h]; exact List.getElem?_eq_getElem _
  rw [this]; rfl
theorem rotL_nodup {α : Type} {l : List α} (h : l.Nodup) (t : Nat) : (rotL l t).Nodup := by
  have hp : (rotL l t).Perm l := by
    have h1 : (l.drop t ++ l.take t).Perm (l.take t ++ l.drop t) := List.perm_append_comm
    rw [List.take_append_drop] at h1
    exact h1
  exact hp.nodup_iff.2 h
theorem rotL_map {α β : Type} (f : α → β) (l : List α) (t : Nat) : (rotL l t).map f = rotL (l.map f) t := by
  unfold rotL; rw [List.map_append, List.map_drop, List.map_take]
/-- the store behind i of the claims -/
def claimR (s : St) (l : List ByteArray) (t i : Nat) : St := { s with L := insAll s.L ((rotL l t).take i) }
theorem claimR_zero (s : St) (l : List ByteArray) (t : Nat) : claimR s l t 0 = s := rfl
theorem claimR_step {s : St} (hok : s.Ok) {l : List ByteArray} {t i : Nat} (h : claimE s l = 0) (ht : t < l.length) (hi : i < l.length) :
    claimE (claimR s l t i) [l[(i + t) % l.length]'(Nat.mod_lt _ (by omega))] = 0 ∧ claimS (claimR s l t i) [l[(i + t) % l.length]'(Nat.mod_lt _ (by omega))] = claimR s l t (i + 1) := by
  have h0 : claimE (claimR s l t i) [l[(i + t) % l.length]'(Nat.mod_lt _ (by omega))] = 0 :=
    claim_one hok h (fun j hj => (rotL_mem l t j).1 (List.mem_of_mem_take hj)) (List.getElem_mem _)
  refine ⟨h0, ?_⟩
  unfold claimS
  rw [if_pos h0]
  unfold claimR
  rw [rotL_take l ht hi]
  unfold insAll
  rw [List.foldl_append]
theorem claimR_end {s : St} (hok : s.Ok) {l : List ByteArray} {t : Nat} (h : claimE s l = 0) : claimR s l t l.length = claimS s l := by
  unfold claimR claimS
  rw [if_pos h, ← rotL_len l t, List.take_length, insAll_order hok.asc (rotL_mem l t)]
/-- the store behind i of the writes -/
def applyR (s : St) (l : List Wr) (t i : Nat) : St := { s with L := upAll s.L ((rotL l t).take i) }
theorem applyR_zero (s : St) (l : List Wr) (t : Nat) : applyR s l t 0 = s := rfl
theorem applyR_step {s : St} {l : List Wr} {t i : Nat} (h : applyE s l = 0) (ht : t < l.length) (hi : i < l.length) :
    applyE (applyR s l t i) [l[(i + t) % l.length]'(Nat.mod_lt _ (by omega))] = 0 ∧ applyS (applyR s l t i) [l[(i + t) % l.length]'(Nat.mod_lt _ (by omega))] = applyR s l t (i + 1) := by
  have h0 : applyE (applyR s l t i) [l[(i + t) % l.length]'(Nat.mod_lt _ (by omega))] = 0 := apply_one h (List.getElem_mem _)
  refine ⟨h0, ?_⟩
  unfold applyS
  rw [if_pos h0]
  unfold applyR
  rw [rotL_take l ht hi]
  unfold upAll
  rw [List.foldl_append]
theorem applyR_end {s : St} (hok : s.Ok) {l : List Wr} {t : Nat} (h : applyE s l = 0) : applyR s l t l.length = applyS s l := by
  obtain ⟨h1, h2⟩ := apply_keys h
  unfold applyR applyS
  rw [if_pos h, ← rotL_len l t, List.take_length]
  rw [← upAll_order hok.asc h1 (by rw [rotL_map]; exact rotL_nodup h1 t) (fun x => (rotL_mem l t x).symm) h2]
/-- the place in the list, as the code reckons it -/
theorem turn_at {n i : Nat} (t : Nat) (hn : 0 < n) : (i + t % n) % n < n := Nat.mod_lt _ hn
end Go.Proofs.YtphglnenafdkaaaGreatDoor

namespace Go.Proofs.YtphglnenafdkaaaGreatDoor
open Go.RowKit
set_option linter.unusedVariables false

theorem wpAnyH_more {P : Program} {md : Region.Mode} {ops : Array Oper} {Q : Exit → Act → World → Prop} {S S' : World → Prop} (h : ∀ w, S' w → S w) :
    ∀ (fuel : Nat) (listed : Array Bool) (a : Act) (w : World), wpAnyH P md ops Q S' fuel listed a w → wpAnyH P md ops Q S fuel listed a w
  | 0, _, _, _, hx => hx
  | n + 1, listed, a, w, hx => ⟨hx.1, fun i hi => wpOp_mono (fun a' w' h3 => ⟨h _ h3.1, wpAnyH_more h n _ _ _ h3.2⟩) (hx.2 i hi)⟩
end Go.Proofs.YtphglnenafdkaaaGreatDoor

