/- codec, value, proc: bytes, put and read again: the plain laws. -/
import Derived.Test.YtnbbdjbjbjlcpaaDoorKPlain
namespace Go.Proofs.YtnbbdjbjbjlcpaaDoor
set_option linter.unusedVariables false
set_option linter.unusedSimpArgs false

/-- a number's bytes -/
def putF : Nat → Nat → List Nat
  | 0, n => [n]
  | k + 1, n => if 128 ≤ n then (n % 128 + 128) :: putF k (n / 128) else [n]
def putU (n : Nat) : List Nat := putF 9 n
def zig (n : Int) : Nat := if 0 ≤ n then (2 * n).toNat else (2 * (-(n + 1)) + 1).toNat
def zag (u : Nat) : Int := if u % 2 = 0 then ((u / 2 : Nat) : Int) else -((u / 2 : Nat) : Int) - 1
/-- the bytes of a text -/
def tb (s : ByteArray) : List Nat := s.data.toList.map UInt8.toNat
theorem tb_len (s : ByteArray) : (tb s).length = s.size := by unfold tb; rw [List.length_map, Array.length_toList]; rfl
def vput (v : Vl) : List Nat := if v.ok = true then (if v.k = 1 then 1 :: putU (zig v.n) else if v.k = 2 then 2 :: (putU v.s.size ++ tb v.s) else [0]) else []
def iput (i : Is) : List Nat := i.op.toNat :: putU i.n.toNat
def Pr.put (p : Pr) : List Nat := putU p.args.toNat ++ (putU p.cs.length ++ (p.cs.flatMap vput ++ (putU p.code.length ++ p.code.flatMap iput)))
/-! a reader -/
/-- a number at a place, from its byte i on: the number and how many bytes it has, or the error -/
def numF (b : List Nat) (at_ : Nat) : Nat → Nat → Nat → (Nat × Nat) ⊕ Int
  | 0, i, acc => .inr 11
  | k + 1, i, acc => match b[at_ + i]? with
    | none => .inr 3
    | some c => if i = 9 ∧ 1 < c then .inr 11
      else if c < 128 then (if 0 < i ∧ c = 0 then .inr 10 else .inl (acc + c * 128 ^ i, i + 1))
      else numF b at_ k (i + 1) (acc + c % 128 * 128 ^ i)
def num (b : List Nat) (at_ : Nat) : (Nat × Nat) ⊕ Int := numF b at_ 10 0 0
structure Rr where
  b : List Nat
  at_ : Nat
  last : Nat
  e : Int
  spot : Nat
deriving DecidableEq
def Rr.new (b : List Nat) : Rr := ⟨b, 0, 0, 0, 0⟩
def Rr.fails (r : Rr) (e : Int) : Rr := { r with e := e, spot := r.at_ }
def Rr.took (r : Rr) (n : Nat) : Rr := { r with last := r.at_, at_ := r.at_ + n }
def Rr.byte (r : Rr) : Nat × Rr := if r.e ≠ 0 then (0, r) else match r.b[r.at_]? with | none => (0, r.fails 3) | some c => (c, r.took 1)
def Rr.uint (r : Rr) : Nat × Rr := if r.e ≠ 0 then (0, r) else match num r.b r.at_ with | .inr e => (0, r.fails e) | .inl (n, k) => (n, r.took k)
def Rr.int (r : Rr) : Int × Rr := if r.e ≠ 0 then (0, r) else match num r.b r.at_ with | .inr e => (0, r.fails e) | .inl (n, k) => (zag n, r.took k)
def Rr.count (r : Rr) (most : Int) : Nat × Rr := if r.e ≠ 0 then (0, r) else match num r.b r.at_ with | .inr e => (0, r.fails e) | .inl (n, k) => if most < 0 ∨ most < n then (0, r.fails 6) else (n, r.took k)
def bt (l : List Nat) : ByteArray := ⟨(l.map UInt8.ofNat).toArray⟩
def Rr.text (r : Rr) (most : Int) : ByteArray × Rr := if r.e ≠ 0 then (⟨#[]⟩, r) else match num r.b r.at_ with | .inr e => (⟨#[]⟩, r.fails e) | .inl (n, k) => if most < 0 ∨ most < n then (⟨#[]⟩, r.fails 1) else if r.b.length < r.at_ + k + n then (⟨#[]⟩, r.fails 3) else (bt ((r.b.drop (r.at_ + k)).take n), r.took (k + n))
def Rr.fail (r : Rr) (e : Int) : Rr := if r.e = 0 ∧ e ≠ 0 then { r with e := e, spot := r.last } else r
def Rr.end_ (r : Rr) : Rr := if r.e = 0 ∧ r.at_ < r.b.length then r.fails 4 else r
def Rr.rest (r : Rr) : Nat := if r.e ≠ 0 then 0 else r.b.length - r.at_
/-- the value that comes next -/
def Rr.take (r : Rr) : Vl × Rr :=
  let (k, r1) := r.byte
  if k = 0 then (vl0, r1)
  else if k = 1 then (let (n, r2) := r1.int; (if r2.e = 0 then ⟨1, n, ⟨#[]⟩⟩ else vl0, r2))
  else if k = 2 then (let (s, r2) := r1.text 64; if okT s = true then (if r2.e = 0 then ⟨2, 0, s⟩ else vl0, r2) else (vl0, r2.fail 20))
  else (vl0, r1.fail 20)
/-- the constants -/
def getC : Nat → Rr → List Vl → (Rr × List Vl) ⊕ (Int × Nat)
  | 0, r, l => .inl (r, l)
  | k + 1, r, l => if r.e ≠ 0 then .inl (r, l) else
    let (v, r1) := r.take
    if r1.e = 0 ∧ v.k = 0 then .inr (51, r.at_) else getC k r1 (l ++ [v])
/-- the code; where the first operand stands that is too great -/
def getI : Nat → Rr → List Is → Option Nat → Rr × List Is × Option Nat
  | 0, r, l, w => (r, l, w)
  | k + 1, r, l, w => if r.e ≠ 0 then (r, l, w) else
    let (op, r1) := r.byte
    let (n, r2) := r1.uint
    getI k r2 (l ++ [⟨op, ((min n 255 : Nat) : Int)⟩]) (if 255 < n ∧ w = none then some r1.at_ else w)
def getP (b : List Nat) : Pr ⊕ (Int × Nat) :=
  let (a, r) := (Rr.new b).count 8
  let (n, r) := r.count 32
  match getC n r [] with
  | .inr e => .inr e
  | .inl (r, cs) =>
    let (m, r) := r.count 256
    let (r, code, wide) := getI m r [] none
    let r := r.end_
    if r.e ≠ 0 then .inr (r.e, r.spot)
    else match wide with
    | some w => .inr (54, w)
    | none => let p : Pr := ⟨a, cs, code⟩; if p.check.1 ≠ 0 then .inr (p.check.1, p.check.2.toNat) else .inl p
/-! laws -/
theorem putF_len (k : Nat) : ∀ n, 1 ≤ (putF k n).length ∧ (putF k n).length ≤ k + 1 := by
  induction k with
  | zero => intro n; simp [putF]
  | succ k ih =>
    intro n
    unfold putF
    split
    · have := ih (n / 128); simp; omega
    · simp
theorem putF_lt (k : Nat) : ∀ n, n < 128 ^ k * 2 → ∀ x ∈ putF k n, x < 256 := by
  induction k with
  | zero => intro n h x hx; simp [putF] at hx; simp at h; omega
  | succ k ih =>
    intro n h x hx
    unfold putF at hx
    split at hx
    · rcases List.mem_cons.1 hx with rfl | hx
      · omega
      · exact ih (n / 128) (by rw [Nat.pow_succ] at h; omega) x hx
    · simp at hx; omega
theorem num_putF (b : List Nat) (at_ : Nat) : ∀ (k n i acc : Nat), i + k = 9 → n < 128 ^ k * 2 → (0 < i → 0 < n) → (∀ j c, (putF k n)[j]? = some c → b[at_ + i + j]? = some c) → numF b at_ (k + 1) i acc = .inl (acc + n * 128 ^ i, i + (putF k n).length) := by
  intro k
  induction k with
  | zero =>
    intro n i acc hi hn hp hb
    simp at hn
    have h0 := hb 0 n (by simp [putF])
    unfold numF
    rw [show at_ + i = at_ + i + 0 by rfl, h0]
    simp only
    rw [if_neg (by omega), if_pos (by omega), if_neg (by omega)]
    simp [putF]
  | succ k ih =>
    intro n i acc hi hn hp hb
    unfold putF at hb ⊢
    by_cases h : 128 ≤ n
    · rw [if_pos h] at hb ⊢
      have h0 := hb 0 (n % 128 + 128) (by simp)
      unfold numF
      rw [show at_ + i = at_ + i + 0 by rfl, h0]
      simp only
      rw [if_neg (by omega), if_neg (by omega)]
      rw [ih (n / 128) (i + 1) _ (by omega) (by rw [Nat.pow_succ] at hn; omega) (by omega) (fun j c hj => by
        have := hb (j + 1) c (by simpa using hj)
        rwa [show at_ + (i + 1) + j = at_ + i + (j + 1) by omega])]
      have e1 : (n % 128 + 128) % 128 = n % 128 := by omega
      rw [e1]
      congr 1
      · congr 1
        · rw [Nat.pow_succ]
          have : n * 128 ^ i = n % 128 * 128 ^ i + n / 128 * (128 ^ i * 128) := by
            have h2 := Nat.div_add_mod n 128
            calc n * 128 ^ i = (128 * (n / 128) + n % 128) * 128 ^ i := by rw [h2]
              _ = n % 128 * 128 ^ i + n / 128 * (128 ^ i * 128) := by rw [Nat.add_mul, Nat.add_comm, Nat.mul_comm 128, Nat.mul_assoc, Nat.mul_comm 128]
          omega
        · simp; omega
    · rw [if_neg h] at hb ⊢
      have h0 := hb 0 n (by simp)
      unfold numF
      rw [show at_ + i = at_ + i + 0 by rfl, h0]
      simp only
      rw [if_neg (by omega), if_pos (by omega), if_neg (by omega)]
      simp
theorem num_put (pre post : List Nat) (n : Nat) (hn : n < 18446744073709551616) : num (pre ++ (putU n ++ post)) pre.length = .inl (n, (putU n).length) := by
  unfold num
  have h9 : n < 128 ^ 9 * 2 := by
    have : 128 ^ 9 * 2 = 18446744073709551616 := by decide
    omega
  have := num_putF (pre ++ (putU n ++ post)) pre.length 9 n 0 0 rfl h9 (by omega) (fun j c hj => by
    rw [Nat.add_zero, List.getElem?_append_right (by omega), Nat.add_sub_cancel_left, List.getElem?_append_left (by
      have := (List.getElem?_eq_some_iff.1 hj).1; exact this)]
    exact hj)
  simpa [putU] using this
theorem zag_zig (n : Int) : zag (zig n) = n := by
  unfold zag zig
  by_cases h : 0 ≤ n
  · rw [if_pos h, if_pos (by omega)]; omega
  · rw [if_neg h, if_neg (by omega)]; omega
theorem zig_lt {n : Int} (h1 : -9223372036854775808 ≤ n) (h2 : n ≤ 9223372036854775807) : zig n < 18446744073709551616 := by
  unfold zig; split <;> omega
theorem bt_tb (s : ByteArray) : bt (tb s) = s := by
  unfold bt tb
  rw [List.map_map]
  have : (UInt8.ofNat ∘ UInt8.toNat) = id := by funext c; simp
  rw [this, List.map_id]

end Go.Proofs.YtnbbdjbjbjlcpaaDoor
