/- Texts of the proof, joined: KBytes, KBack, KPut, KValid, SVal, SPrint, SBytesP, SBytes, SClaim, SMay, SApply, SRoomP. -/
import Derived.Test.YtphglnenafdkaaaGreatDoorP03
import Derived.Test.YtphglnenafdkaaaGreatDoorP06
import Derived.Test.YtphglnenafdkaaaGreatDoorP04
import Derived.Laws.MakeOwn
import Derived.Laws.OwnMore
import Derived.Laws.Bits64
import Derived.Test.YtphglnenafdkaaaGreatDoorP05
import Derived.WalkSmall
import Derived.Lib.AtoiErrMem
import Derived.Laws.BytesArg
import Derived.Lib.ItoaLen
namespace Go.Proofs.YtphglnenafdkaaaGreatDoor
set_option linter.unusedVariables false
set_option linter.unusedSimpArgs false

/-- a number's bytes -/
def putF : Nat → Nat → List Nat
  | 0, n => [n]
  | k + 1, n => if 128 ≤ n then (n % 128 + 128) :: putF k (n / 128) else [n]
def putU (n : Nat) : List Nat := putF 9 n
def zig (n : Int) : Nat := if 0 ≤ n then (2 * n).toNat else (2 * (-(n + 1)) + 1).toNat
def zag (u : Nat) : Int := if u % 2 = 0 then ((u / 2 : Nat) : Int) else -((u / 2 : Nat) : Int) - 1
/-- the bytes of a text -/
def tb (s : ByteArray) : List Nat := s.data.toList.map UInt8.toNat
theorem tb_len (s : ByteArray) : (tb s).length = s.size := by unfold tb; rw [List.length_map, Array.length_toList]; rfl
def vput (v : Vl) : List Nat := if v.ok = true then (if v.k = 1 then 1 :: putU (zig v.n) else if v.k = 2 then 2 :: (putU v.s.size ++ tb v.s) else [0]) else []
def iput (i : Is) : List Nat := i.op.toNat :: putU i.n.toNat
def Pr.put (p : Pr) : List Nat := putU p.args.toNat ++ (putU p.cs.length ++ (p.cs.flatMap vput ++ (putU p.code.length ++ p.code.flatMap iput)))
/-! a reader -/
/-- a number at a place, from its byte i on: the number and how many bytes it has, or the error -/
def numF (b : List Nat) (at_ : Nat) : Nat → Nat → Nat → (Nat × Nat) ⊕ Int
  | 0, i, acc => .inr 11
  | k + 1, i, acc => match b[at_ + i]? with
    | none => .inr 3
    | some c => if i = 9 ∧ 1 < c then .inr 11
      else if c < 128 then (if 0 < i ∧ c = 0 then .inr 10 else .inl (acc + c * 128 ^ i, i + 1))
      else numF b at_ k (i + 1) (acc + c % 128 * 128 ^ i)
def num (b : List Nat) (at_ : Nat) : (Nat × Nat) ⊕ Int := numF b at_ 10 0 0
structure Rr where
  b : List Nat
  at_ : Nat
  last : Nat
  e : Int
  spot : Nat
deriving DecidableEq
def Rr.new (b : List Nat) : Rr := ⟨b, 0, 0, 0, 0⟩
def Rr.fails (r : Rr) (e : Int) : Rr := { r with e := e, spot := r.at_ }
def Rr.took (r : Rr) (n : Nat) : Rr := { r with last := r.at_, at_ := r.at_ + n }
def Rr.byte (r : Rr) : Nat × Rr := if r.e ≠ 0 then (0, r) else match r.b[r.at_]? with | none => (0, r.fails 3) | some c => (c, r.took 1)
def Rr.uint (r : Rr) : Nat × Rr := if r.e ≠ 0 then (0, r) else match num r.b r.at_ with | .inr e => (0, r.fails e) | .inl (n, k) => (n, r.took k)
def Rr.int (r : Rr) : Int × Rr := if r.e ≠ 0 then (0, r) else match num r.b r.at_ with | .inr e => (0, r.fails e) | .inl (n, k) => (zag n, r.took k)
def Rr.count (r : Rr) (most : Int) : Nat × Rr := if r.e ≠ 0 then (0, r) else match num r.b r.at_ with | .inr e => (0, r.fails e) | .inl (n, k) => if most < 0 ∨ most < n then (0, r.fails 6) else (n, r.took k)
def bt (l : List Nat) : ByteArray := ⟨(l.map UInt8.ofNat).toArray⟩
def Rr.text (r : Rr) (most : Int) : ByteArray × Rr := if r.e ≠ 0 then (⟨#[]⟩, r) else match num r.b r.at_ with | .inr e => (⟨#[]⟩, r.fails e) | .inl (n, k) => if most < 0 ∨ most < n then (⟨#[]⟩, r.fails 1) else if r.b.length < r.at_ + k + n then (⟨#[]⟩, r.fails 3) else (bt ((r.b.drop (r.at_ + k)).take n), r.took (k + n))
def Rr.fail (r : Rr) (e : Int) : Rr := if r.e = 0 ∧ e ≠ 0 then { r with e := e, spot := r.last } else r
def Rr.end_ (r : Rr) : Rr := if r.e = 0 ∧ r.at_ < r.b.length then r.fails 4 else r
def Rr.rest (r : Rr) : Nat := if r.e ≠ 0 then 0 else r.b.length - r.at_
/-- the value that comes next -/
def Rr.take (r : Rr) : Vl × Rr :=
  let (k, r1) := r.byte
  if k = 0 then (vl0, r1)
  else if k = 1 then (let (n, r2) := r1.int; (if r2.e = 0 then ⟨1, n, ⟨#[]⟩⟩ else vl0, r2))
  else if k = 2 then (let (s, r2) := r1.text 64; if okT s = true then (if r2.e = 0 then ⟨2, 0, s⟩ else vl0, r2) else (vl0, r2.fail 20))
  else (vl0, r1.fail 20)
/-- the constants -/
def getC : Nat → Rr → List Vl → (Rr × List Vl) ⊕ (Int × Nat)
  | 0, r, l => .inl (r, l)
  | k + 1, r, l => if r.e ≠ 0 then .inl (r, l) else
    let (v, r1) := r.take
    if r1.e = 0 ∧ v.k = 0 then .inr (51, r.at_) else getC k r1 (l ++ [v])
/-- the code; where the first operand stands that is too great -/
def getI : Nat → Rr → List Is → Option Nat → Rr × List Is × Option Nat
  | 0, r, l, w => (r, l, w)
  | k + 1, r, l, w => if r.e ≠ 0 then (r, l, w) else
    let (op, r1) := r.byte
    let (n, r2) := r1.uint
    getI k r2 (l ++ [⟨op, ((min n 255 : Nat) : Int)⟩]) (if 255 < n ∧ w = none then some r1.at_ else w)
def getP (b : List Nat) : Pr ⊕ (Int × Nat) :=
  let (a, r) := (Rr.new b).count 8
  let (n, r) := r.count 32
  match getC n r [] with
  | .inr e => .inr e
  | .inl (r, cs) =>
    let (m, r) := r.count 256
    let (r, code, wide) := getI m r [] none
    let r := r.end_
    if r.e ≠ 0 then .inr (r.e, r.spot)
    else match wide with
    | some w => .inr (54, w)
    | none => let p : Pr := ⟨a, cs, code⟩; if p.check.1 ≠ 0 then .inr (p.check.1, p.check.2.toNat) else .inl p
/-! laws -/
theorem putF_len (k : Nat) : ∀ n, 1 ≤ (putF k n).length ∧ (putF k n).length ≤ k + 1 := by
  induction k with
  | zero => intro n; simp [putF]
  | succ k ih =>
    intro n
    unfold putF
    split
    · have := ih (n / 128); simp; omega
    · simp
theorem putF_lt (k : Nat) : ∀ n, n < 128 ^ k * 2 → ∀ x ∈ putF k n, x < 256 := by
  induction k with
  | zero => intro n h x hx; simp [putF] at hx; simp at h; omega
  | succ k ih =>
    intro n h x hx
    unfold putF at hx
    split at hx
    · rcases List.mem_cons.1 hx with rfl | hx
      · omega
      · exact ih (n / 128) (by rw [Nat.pow_succ] at h; omega) x hx
    · simp at hx; omega
theorem num_putF (b : List Nat) (at_ : Nat) : ∀ (k n i acc : Nat), i + k = 9 → n < 128 ^ k * 2 → (0 < i → 0 < n) → (∀ j c, (putF k n)[j]? = some c → b[at_ + i + j]? = some c) → numF b at_ (k + 1) i acc = .inl (acc + n * 128 ^ i, i + (putF k n).length) := by
  intro k
  induction k with
  | zero =>
    intro n i acc hi hn hp hb
    simp at hn
    have h0 := hb 0 n (by simp [putF])
    unfold numF
    rw [show at_ + i = at_ + i + 0 by rfl, h0]
    simp only
    rw [if_neg (by omega), if_pos (by omega), if_neg (by omega)]
    simp [putF]
  | succ k ih =>
    intro n i acc hi hn hp hb
    unfold putF at hb ⊢
    by_cases h : 128 ≤ n
    · rw [if_pos h] at hb ⊢
      have h0 := hb 0 (n % 128 + 128) (by simp)
      unfold numF
      rw [show at_ + i = at_ + i + 0 by rfl, h0]
      simp only
      rw [if_neg (by omega), if_neg (by omega)]
      rw [ih (n / 128) (i + 1) _ (by omega) (by rw [Nat.pow_succ] at hn; omega) (by omega) (fun j c hj => by
        have := hb (j + 1) c (by simpa using hj)
        rwa [show at_ + (i + 1) + j = at_ + i + (j + 1) by omega])]
      have e1 : (n % 128 + 128) % 128 = n % 128 := by omega
      rw [e1]
      congr 1
      · congr 1
        · rw [Nat.pow_succ]
          have : n * 128 ^ i = n % 128 * 128 ^ i + n / 128 * (128 ^ i * 128) := by
            have h2 := Nat.div_add_mod n 128
            calc n * 128 ^ i = (128 * (n / 128) + n % 128) * 128 ^ i := by rw [h2]
              _ = n % 128 * 128 ^ i + n / 128 * (128 ^ i * 128) := by rw [Nat.add_mul, Nat.add_comm, Nat.mul_comm 128, Nat.mul_assoc, Nat.mul_comm 128]
          omega
        · simp; omega
    · rw [if_neg h] at hb ⊢
      have h0 := hb 0 n (by simp)
      unfold numF
      rw [show at_ + i = at_ + i + 0 by rfl, h0]
      simp only
      rw [if_neg (by omega), if_pos (by omega), if_neg (by omega)]
      simp
theorem num_put (pre post : List Nat) (n : Nat) (hn : n < 18446744073709551616) : num (pre ++ (putU n ++ post)) pre.length = .inl (n, (putU n).length) := by
  unfold num
  have h9 : n < 128 ^ 9 * 2 := by
    have : 128 ^ 9 * 2 = 18446744073709551616 := by decide
    omega
  have := num_putF (pre ++ (putU n ++ post)) pre.length 9 n 0 0 rfl h9 (by omega) (fun j c hj => by
    rw [Nat.add_zero, List.getElem?_append_right (by omega), Nat.add_sub_cancel_left, List.getElem?_append_left (by
      have := (List.getElem?_eq_some_iff.1 hj).1; exact this)]
    exact hj)
  simpa [putU] using this
theorem zag_zig (n : Int) : zag (zig n) = n := by
  unfold zag zig
  by_cases h : 0 ≤ n
  · rw [if_pos h, if_pos (by omega)]; omega
  · rw [if_neg h, if_neg (by omega)]; omega
theorem zig_lt {n : Int} (h1 : -9223372036854775808 ≤ n) (h2 : n ≤ 9223372036854775807) : zig n < 18446744073709551616 := by
  unfold zig; split <;> omega
theorem bt_tb (s : ByteArray) : bt (tb s) = s := by
  unfold bt tb
  rw [List.map_map]
  have : (UInt8.ofNat ∘ UInt8.toNat) = id := by funext c; simp
  rw [this, List.map_id]

end Go.Proofs.YtphglnenafdkaaaGreatDoor

namespace Go.Proofs.YtphglnenafdkaaaGreatDoor
set_option linter.unusedVariables false
set_option linter.unusedSimpArgs false

/-- these bytes stand at a place -/
def Has (b : List Nat) (a : Nat) (l : List Nat) : Prop := ∀ j c, l[j]? = some c → b[a + j]? = some c
theorem Has.app {b : List Nat} {a : Nat} {l m : List Nat} (h : Has b a (l ++ m)) : Has b a l ∧ Has b (a + l.length) m := by
  refine ⟨fun j c hj => h j c ?_, fun j c hj => ?_⟩
  · rw [List.getElem?_append_left (List.getElem?_eq_some_iff.1 hj).1]; exact hj
  · rw [Nat.add_assoc]
    refine h _ c ?_
    rw [List.getElem?_append_right (by omega), Nat.add_sub_cancel_left]; exact hj
theorem Has.cons {b : List Nat} {a c : Nat} {m : List Nat} (h : Has b a (c :: m)) : b[a]? = some c ∧ Has b (a + 1) m := ⟨h 0 c rfl, (Has.app (l := [c]) h).2⟩
theorem Has.self (l : List Nat) : Has l 0 l := fun j c hj => by rwa [Nat.zero_add]
theorem Has.len {b : List Nat} {a : Nat} {l : List Nat} (h : Has b a l) (hl : 0 < l.length) : a + l.length ≤ b.length := by
  have := h (l.length - 1) _ (List.getElem?_eq_getElem (by omega))
  have := (List.getElem?_eq_some_iff.1 this).1
  omega
theorem Has.took {b : List Nat} {a : Nat} {l : List Nat} (h : Has b a l) (ha : a + l.length ≤ b.length) : (b.drop a).take l.length = l := by
  apply List.ext_getElem?
  intro j
  by_cases hj : j < l.length
  · rw [List.getElem?_take_of_lt hj, List.getElem?_drop, h j _ (List.getElem?_eq_getElem hj), List.getElem?_eq_getElem hj]
  · rw [List.getElem?_take_eq_none (by omega), List.getElem?_eq_none (by omega)]
theorem num_has {b : List Nat} {a n : Nat} (h : Has b a (putU n)) (hn : n < 18446744073709551616) : num b a = .inl (n, (putU n).length) := by
  unfold num
  have h9 : n < 128 ^ 9 * 2 := by
    have : 128 ^ 9 * 2 = 18446744073709551616 := by decide
    omega
  have := num_putF b a 9 n 0 0 rfl h9 (by omega) (fun j c hj => by rw [Nat.add_zero]; exact h j c hj)
  simpa [putU] using this
section
variable {r : Rr} {n : Nat}
theorem count_has {most : Nat} (he : r.e = 0) (h : Has r.b r.at_ (putU n)) (hm : n ≤ most) (hs : most < 18446744073709551616) : r.count most = (n, r.took (putU n).length) := by
  unfold Rr.count
  rw [if_neg (by simp [he]), num_has h (by omega)]
  simp only
  rw [if_neg (by omega)]
theorem uint_has (he : r.e = 0) (h : Has r.b r.at_ (putU n)) (hs : n < 18446744073709551616) : r.uint = (n, r.took (putU n).length) := by
  unfold Rr.uint
  rw [if_neg (by simp [he]), num_has h (by omega)]
theorem int_has {n : Int} (he : r.e = 0) (h : Has r.b r.at_ (putU (zig n))) (h1 : -9223372036854775808 ≤ n) (h2 : n ≤ 9223372036854775807) : r.int = (n, r.took (putU (zig n)).length) := by
  unfold Rr.int
  rw [if_neg (by simp [he]), num_has h (zig_lt h1 h2)]
  simp only
  rw [zag_zig]
theorem byte_has {c : Nat} (he : r.e = 0) (h : r.b[r.at_]? = some c) : r.byte = (c, r.took 1) := by
  unfold Rr.byte
  rw [if_neg (by simp [he]), h]
theorem text_has {s : ByteArray} (he : r.e = 0) (h : Has r.b r.at_ (putU s.size ++ tb s)) (hs : s.size ≤ 64) : r.text 64 = (s, r.took ((putU s.size).length + s.size)) := by
  obtain ⟨h1, h2⟩ := h.app
  unfold Rr.text
  rw [if_neg (by simp [he]), num_has h1 (by omega)]
  simp only
  have hl := h1.len (by have := putF_len 9 s.size; unfold putU; omega)
  have hr : r.at_ + (putU s.size).length + (tb s).length ≤ r.b.length := by
    by_cases e : (tb s).length = 0
    · omega
    · have := h2.len (by omega); omega
  have ht := h2.took hr
  rw [tb_len] at ht hr
  rw [if_neg (by omega), if_neg (by omega), ht, bt_tb]
theorem vput_len (v : Vl) (h : v.ok = true) : 1 ≤ (vput v).length := by
  unfold vput
  rw [if_pos h]
  split
  · simp
  · split <;> simp
def Vl.rng (v : Vl) : Prop := -9223372036854775808 ≤ v.n ∧ v.n ≤ 9223372036854775807
theorem ok_forms {v : Vl} (h : v.ok = true) : v = vl0 ∨ (v.k = 1 ∧ v.s = ⟨#[]⟩) ∨ (v.k = 2 ∧ v.n = 0 ∧ v.s.size ≤ 64 ∧ okT v.s = true) := by
  unfold Vl.ok at h
  split at h
  · rename_i h1
    simp only [Bool.and_eq_true, decide_eq_true_eq] at h
    obtain ⟨k, n, s⟩ := v
    simp only at h1 h
    exact .inl (by rw [h1, h.1, h.2]; rfl)
  · split at h
    · rename_i h2
      exact .inr (.inl ⟨h2, of_decide_eq_true h⟩)
    · split at h
      · rename_i h3
        simp only [Bool.and_eq_true, decide_eq_true_eq] at h
        exact .inr (.inr ⟨h3, h.1, h.2.1, h.2.2⟩)
      · cases h
theorem took_e (r : Rr) (k : Nat) : (r.took k).e = r.e ∧ (r.took k).b = r.b ∧ (r.took k).at_ = r.at_ + k := ⟨rfl, rfl, rfl⟩
theorem take_has {v : Vl} (he : r.e = 0) (hv : v.ok = true) (hr : v.rng) (h : Has r.b r.at_ (vput v)) : ∃ r', r.take = (v, r') ∧ r'.b = r.b ∧ r'.e = 0 ∧ r'.at_ = r.at_ + (vput v).length := by
  unfold vput at h ⊢
  rw [if_pos hv] at h ⊢
  rcases ok_forms hv with rfl | ⟨h1, h2⟩ | ⟨h1, h2, h3, h4⟩
  · rw [if_neg (by decide), if_neg (by decide)] at h ⊢
    have h0 := h.cons.1
    refine ⟨r.took 1, ?_, rfl, he, rfl⟩
    unfold Rr.take
    rw [byte_has he h0]
    simp
  · rw [if_pos h1] at h ⊢
    obtain ⟨h0, h5⟩ := h.cons
    refine ⟨(r.took 1).took (putU (zig v.n)).length, ?_, rfl, he, ?_⟩
    · unfold Rr.take
      rw [byte_has he h0]
      simp only
      rw [if_neg (by decide)]
      simp only [if_true]
      rw [int_has (r := r.took 1) he h5 hr.1 hr.2]
      simp only
      rw [if_pos (show ((r.took 1).took (putU (zig v.n)).length).e = 0 from he)]
      obtain ⟨k, n, s⟩ := v
      simp only at h1 h2
      rw [h1, h2]
    · show r.at_ + 1 + _ = _
      simp; omega
  · rw [if_neg (by omega), if_pos h1] at h ⊢
    obtain ⟨h0, h5⟩ := h.cons
    refine ⟨(r.took 1).took ((putU v.s.size).length + v.s.size), ?_, rfl, he, ?_⟩
    · unfold Rr.take
      rw [byte_has he h0]
      simp only
      rw [if_neg (by decide), if_neg (by decide)]
      simp only [if_true]
      rw [text_has (r := r.took 1) he h5 h3]
      simp only
      rw [if_pos h4, if_pos (show ((r.took 1).took ((putU v.s.size).length + v.s.size)).e = 0 from he)]
      obtain ⟨k, n, s⟩ := v
      simp only at h1 h2
      rw [h1, h2]
    · show r.at_ + 1 + _ = _
      simp [tb_len]; omega
end
theorem getC_has : ∀ (cs : List Vl) (r : Rr) (l : List Vl), r.e = 0 → (∀ v ∈ cs, v.ok = true ∧ v.k ≠ 0 ∧ v.rng) → Has r.b r.at_ (cs.flatMap vput) → ∃ r', getC cs.length r l = .inl (r', l ++ cs) ∧ r'.b = r.b ∧ r'.e = 0 ∧ r'.at_ = r.at_ + (cs.flatMap vput).length := by
  intro cs
  induction cs with
  | nil => intro r l he _ _; exact ⟨r, by simp [getC], rfl, he, by simp⟩
  | cons v cs ih =>
    intro r l he hv h
    rw [List.flatMap_cons] at h
    obtain ⟨h1, h2⟩ := h.app
    obtain ⟨a1, a2, a3⟩ := hv v List.mem_cons_self
    obtain ⟨r1, b1, b2, b3, b4⟩ := take_has he a1 a3 h1
    obtain ⟨r2, c1, c2, c3, c4⟩ := ih r1 (l ++ [v]) b3 (fun u hu => hv u (List.mem_cons_of_mem _ hu)) (by rw [b2, b4]; exact h2)
    refine ⟨r2, ?_, c2.trans b2, c3, ?_⟩
    · rw [List.length_cons, getC, if_neg (by simp [he]), b1]
      simp only
      rw [if_neg (by rintro ⟨_, h⟩; exact a2 h), c1]
      simp
    · rw [c4, b4, List.flatMap_cons, List.length_append]; omega
theorem getI_has : ∀ (code : List Is) (r : Rr) (l : List Is), r.e = 0 → (∀ i ∈ code, 0 ≤ i.op ∧ 0 ≤ i.n ∧ i.n ≤ 255) → Has r.b r.at_ (code.flatMap iput) → ∃ r', getI code.length r l none = (r', l ++ code, none) ∧ r'.b = r.b ∧ r'.e = 0 ∧ r'.at_ = r.at_ + (code.flatMap iput).length := by
  intro code
  induction code with
  | nil => intro r l he _ _; exact ⟨r, by simp [getI], rfl, he, by simp⟩
  | cons i code ih =>
    intro r l he hv h
    rw [List.flatMap_cons] at h
    obtain ⟨h1, h2⟩ := h.app
    obtain ⟨a1, a2, a3⟩ := hv i List.mem_cons_self
    unfold iput at h1
    obtain ⟨g1, g2⟩ := h1.cons
    obtain ⟨r2, c1, c2, c3, c4⟩ := ih ((r.took 1).took (putU i.n.toNat).length) (l ++ [i]) he (fun u hu => hv u (List.mem_cons_of_mem _ hu)) (by
      show Has r.b (r.at_ + 1 + _) _
      unfold iput at h2
      rw [List.length_cons] at h2
      rwa [show r.at_ + 1 + (putU i.n.toNat).length = r.at_ + ((putU i.n.toNat).length + 1) by omega])
    refine ⟨r2, ?_, c2, c3, ?_⟩
    · rw [List.length_cons, getI, if_neg (by simp [he]), byte_has he g1]
      simp only
      rw [uint_has (r := r.took 1) he g2 (by omega)]
      simp only
      rw [if_neg (by omega), show min i.n.toNat 255 = i.n.toNat by omega, Int.toNat_of_nonneg a1, Int.toNat_of_nonneg a2, c1]
      simp
    · rw [c4, List.flatMap_cons, List.length_append]
      show r.at_ + 1 + _ + _ = _
      unfold iput
      rw [List.length_cons]; omega
/-- what a form that is right says -/
theorem form_ok {p : Pr} (h : p.form.1 = 0) : 0 ≤ p.args ∧ p.args ≤ 8 ∧ p.cs.length ≤ 32 ∧ (∀ v ∈ p.cs, v.ok = true ∧ v.k ≠ 0) ∧ 0 < p.code.length ∧ p.code.length ≤ 256 ∧ ∀ i ∈ p.code, isOp i.op = true ∧ 0 ≤ i.n ∧ i.n < p.most i.op := by
  unfold Pr.form at h
  split at h
  · cases h
  rename_i h1
  split at h
  · cases h
  rename_i h2
  split at h
  · rename_i h3; exact absurd h h3
  rename_i h3
  split at h
  · cases h
  rename_i h4
  refine ⟨by omega, by omega, by omega, fun v hv => ?_, by omega, by omega, fun i hi => ?_⟩
  · obtain ⟨j, hj, rfl⟩ := List.mem_iff_getElem.1 hv
    rcases scan_form (fun i => conE (p.cs.getD i vl0)) p.cs.length 0 with ⟨_, h5⟩ | ⟨q, _, _, h6, h7, _⟩
    · have := h5 j (Nat.zero_le _) (by omega)
      simp only [List.getD_eq_getElem?_getD, List.getElem?_eq_getElem hj, Option.getD_some, conE] at this
      split at this
      · assumption
      · cases this
    · rw [h7] at h3; exact absurd h3 (by simpa using h6)
  · obtain ⟨j, hj, rfl⟩ := List.mem_iff_getElem.1 hi
    rcases scan_form (fun i => p.insE (p.code.getD i is0)) p.code.length 0 with ⟨_, h5⟩ | ⟨q, _, _, h6, h7, _⟩
    · have := h5 j (Nat.zero_le _) (by omega)
      simp only [List.getD_eq_getElem?_getD, List.getElem?_eq_getElem hj, Option.getD_some, Pr.insE] at this
      split at this
      · cases this
      · rename_i h8
        split at this
        · rename_i h9; exact ⟨by simpa using h8, h9.1, h9.2⟩
        · cases this
    · rw [h7] at h; exact absurd h h6
theorem most_le {p : Pr} (h : p.form.1 = 0) (op : Int) : p.most op ≤ 256 := by
  obtain ⟨h1, h2, h3, _, _, h6, _⟩ := form_ok h
  unfold Pr.most
  split
  · omega
  · split
    · omega
    · split <;> omega
theorem get_put {p : Pr} (hc : p.check.1 = 0) (hr : ∀ v ∈ p.cs, v.rng) : getP p.put = .inl p := by
  obtain ⟨d, hd, hf, _⟩ := deps_len hc
  obtain ⟨f1, f2, f3, f4, f5, f6, f7⟩ := form_ok hf
  have h0 := Has.self p.put
  unfold Pr.put at h0
  obtain ⟨g1, h1⟩ := h0.app
  obtain ⟨g2, h2⟩ := h1.app
  obtain ⟨g3, h3⟩ := h2.app
  obtain ⟨g4, g5⟩ := h3.app
  obtain ⟨B, hB⟩ : ∃ B, B = p.put := ⟨_, rfl⟩
  have hB' : putU p.args.toNat ++ (putU p.cs.length ++ (p.cs.flatMap vput ++ (putU p.code.length ++ p.code.flatMap iput))) = B := by rw [hB]; rfl
  rw [hB'] at g1 g2 g3 g4 g5
  rw [← hB]
  unfold getP
  have c1 := count_has (r := Rr.new B) (most := 8) (n := p.args.toNat) rfl g1 (by omega) (by omega)
  rw [show ((8 : Nat) : Int) = 8 from rfl] at c1
  rw [c1]
  simp only
  obtain ⟨R1, hR1⟩ : ∃ R1, R1 = (Rr.new B).took (putU p.args.toNat).length := ⟨_, rfl⟩
  rw [← hR1]
  have b1 : R1.b = B ∧ R1.e = 0 ∧ R1.at_ = 0 + (putU p.args.toNat).length := by subst hR1; exact ⟨rfl, rfl, rfl⟩
  have c2 := count_has (r := R1) (most := 32) (n := p.cs.length) b1.2.1 (by rw [b1.1, b1.2.2]; exact g2) f3 (by omega)
  rw [show ((32 : Nat) : Int) = 32 from rfl] at c2
  rw [c2]
  simp only
  obtain ⟨R2, hR2⟩ : ∃ R2, R2 = R1.took (putU p.cs.length).length := ⟨_, rfl⟩
  rw [← hR2]
  have b2 : R2.b = B ∧ R2.e = 0 ∧ R2.at_ = 0 + (putU p.args.toNat).length + (putU p.cs.length).length := by subst hR2; exact ⟨b1.1, b1.2.1, by show R1.at_ + _ = _; rw [b1.2.2]⟩
  obtain ⟨R3, c3, d1, d2, d3⟩ := getC_has p.cs R2 [] b2.2.1 (fun v hv => ⟨(f4 v hv).1, (f4 v hv).2, hr v hv⟩) (by rw [b2.1, b2.2.2]; exact g3)
  rw [c3]
  simp only [List.nil_append]
  have c4 := count_has (r := R3) (most := 256) (n := p.code.length) d2 (by rw [d1, b2.1, d3, b2.2.2]; exact g4) f6 (by omega)
  rw [show ((256 : Nat) : Int) = 256 from rfl] at c4
  rw [c4]
  simp only
  obtain ⟨R4, hR4⟩ : ∃ R4, R4 = R3.took (putU p.code.length).length := ⟨_, rfl⟩
  rw [← hR4]
  have b4 : R4.b = B ∧ R4.e = 0 ∧ R4.at_ = 0 + (putU p.args.toNat).length + (putU p.cs.length).length + (p.cs.flatMap vput).length + (putU p.code.length).length := by subst hR4; exact ⟨d1.trans b2.1, d2, by show R3.at_ + _ = _; rw [d3, b2.2.2]⟩
  obtain ⟨R5, c5, e1, e2, e3⟩ := getI_has p.code R4 [] b4.2.1 (fun i hi => by
    obtain ⟨q1, q2, q3⟩ := f7 i hi
    have := most_le hf i.op
    unfold isOp at q1
    simp only [Bool.and_eq_true, decide_eq_true_eq] at q1
    exact ⟨by omega, q2, by omega⟩) (by rw [b4.1, b4.2.2]; exact g5)
  rw [c5]
  simp only [List.nil_append]
  have hend : R5.end_ = R5 := by
    unfold Rr.end_
    rw [if_neg]
    rintro ⟨_, h⟩
    rw [e1, b4.1, e3, b4.2.2, ← hB'] at h
    simp only [List.length_append] at h
    omega
  rw [hend, if_neg (by rw [e2]; decide)]
  have hp : (⟨((p.args.toNat : Nat) : Int), p.cs, p.code⟩ : Pr) = p := by
    obtain ⟨a, cs, code⟩ := p
    simp only at f1 ⊢
    rw [Int.toNat_of_nonneg f1]
  rw [hp, if_neg (by rw [hc]; decide)]

end Go.Proofs.YtphglnenafdkaaaGreatDoor

namespace Go.Proofs.YtphglnenafdkaaaGreatDoor
open Go.RowKit
set_option linter.unusedVariables false
set_option linter.unusedSimpArgs false

def bcells (l : List Nat) : List Value := l.map fun c => .int .u8 (c : Nat)
theorem bcells_snoc (l : List Nat) (c : Nat) : bcells (l ++ [c]) = bcells l ++ [.int .u8 (c : Nat)] := by unfold bcells; rw [List.map_append]; rfl
theorem bcells_one (l : List Nat) : ∀ u ∈ bcells l, u.oneCell' = true := fun u hu => by obtain ⟨c, _, rfl⟩ := List.mem_map.1 hu; rfl
theorem info_u8 : (Tryz.prog.info? 5).map (fun i => (i.zero, i.size, i.bytes)) = some (some (.int .u8 0), 1, 1) := by kernel_rfl
theorem u8_or (m : Nat) : bits BinOp.or IntKind.u8 (((m % 256 : Nat)) : Int) 128 = ((m % 128 + 128 : Nat) : Int) := by
  have h : ∀ x : Fin 256, bits BinOp.or IntKind.u8 ((x.val : Nat) : Int) 128 = ((x.val % 128 + 128 : Nat) : Int) := by decide +kernel
  have := h ⟨m % 256, by omega⟩
  simp only at this
  rw [this]
  congr 2
  omega
theorem u8_wrap (m : Nat) : IntKind.u8.wrap (m : Int) = ((m % 256 : Nat) : Int) := by
  simp [IntKind.wrap, IntKind.bits, IntKind.signed]
def natOf : Value → Nat
  | .int _ n => n.toNat
  | _ => 0
end Go.Proofs.YtphglnenafdkaaaGreatDoor

namespace Go.Proofs.YtphglnenafdkaaaGreatDoor
open Go.RowKit
set_option linter.unusedVariables false
set_option linter.unusedSimpArgs false

theorem plain_any (c : Nat) (w : World) : Calls Tryz.prog 101 #[.int .u8 c] w fun e w' => e = .returned (.bool (decide (32 ≤ c) && decide (c ≤ 126))) ∧ w' = w := by
  by_cases h : 32 ≤ c
  · have t1 : decide ((32 : Int) ≤ (c : Int)) = true := decide_eq_true (by omega)
    have hc : Hid ((decide (32 ≤ c) && decide (c ≤ 126)) = decide ((c : Int) ≤ 126)) := hid (by rw [decide_eq_true h, Bool.true_and]; exact decide_eq_decide.2 (by omega))
    clear h
    go_enter Tryz.func101, Tryz.ntmps101
    go_wp2_with fail
    go_ret
    exact ⟨by rw [hc.out]; first | rfl | simp, rfl⟩
  · have t1 : decide ((32 : Int) ≤ (c : Int)) = false := decide_eq_false (by omega)
    have hc : Hid ((decide (32 ≤ c) && decide (c ≤ 126)) = false) := hid (by rw [decide_eq_false h, Bool.false_and])
    clear h
    go_enter Tryz.func101, Tryz.ntmps101
    go_wp2_with fail
    go_ret
    exact ⟨by rw [hc.out]; rfl, rfl⟩
theorem rmay_any (c : Nat) (w : World) : Calls Tryz.prog 72 #[.int .u8 c] w fun e w' => e = .returned (.bool (decide (32 ≤ c) && decide (c ≤ 126))) ∧ w' = w := by
  by_cases h : 32 ≤ c
  · have t1 : decide ((32 : Int) ≤ (c : Int)) = true := decide_eq_true (by omega)
    have hc : Hid ((decide (32 ≤ c) && decide (c ≤ 126)) = decide ((c : Int) ≤ 126)) := hid (by rw [decide_eq_true h, Bool.true_and]; exact decide_eq_decide.2 (by omega))
    clear h
    go_enter Tryz.func72, Tryz.ntmps72
    go_wp2_with fail
    go_ret
    exact ⟨by rw [hc.out]; first | rfl | simp, rfl⟩
  · have t1 : decide ((32 : Int) ≤ (c : Int)) = false := decide_eq_false (by omega)
    have hc : Hid ((decide (32 ≤ c) && decide (c ≤ 126)) = false) := hid (by rw [decide_eq_false h, Bool.false_and])
    clear h
    go_enter Tryz.func72, Tryz.ntmps72
    go_wp2_with fail
    go_ret
    exact ⟨by rw [hc.out]; rfl, rfl⟩

theorem okT_at {s : ByteArray} {k : Nat} (h : k < s.size) (hb : okB (s.data[k]'h) = false) : okT s = false := by
  unfold okT
  rw [List.all_eq_false]
  exact ⟨s.data[k]'h, by rw [Array.mem_toList_iff]; exact Array.getElem_mem h, by rw [hb]; decide⟩
theorem okT_all {s : ByteArray} (h : ∀ k (hk : k < s.size), okB (s.data[k]'hk) = true) : okT s = true := by
  unfold okT
  rw [List.all_eq_true]
  intro c hc
  rw [Array.mem_toList_iff] at hc
  obtain ⟨k, hk, rfl⟩ := Array.mem_iff_getElem.1 hc
  exact h k hk
theorem mayB {F : FuncId} {s : ByteArray} {k : Nat} {w : World} {b : Bool} (hk : k < s.size) (hc : okB (s.data[k]'hk) = b) (h : Calls Tryz.prog F #[.int .u8 ((s[k]'hk).toNat : Nat)] w fun e w' => e = .returned (.bool (decide (32 ≤ (s[k]'hk).toNat) && decide ((s[k]'hk).toNat ≤ 126))) ∧ w' = w) :
    Calls Tryz.prog F #[.int .u8 ((s[k]'hk).toNat : Nat)] w fun e w' => e = .returned (.bool b) ∧ w' = w := by
  rwa [show (decide (32 ≤ (s[k]'hk).toNat) && decide ((s[k]'hk).toNat ≤ 126)) = b from hc] at h
set_option maxRecDepth 100000 in
theorem printable_any (s : ByteArray) (w : World) (hs : s.size ≤ 9223372036854775806) : Calls Tryz.prog 86 #[.string s] w fun e w' => e = .returned (.bool (okT s)) ∧ w' = w := by
  go_enter Tryz.func86, Tryz.ntmps86
  go_wp2_with fail
  go_loopw [6] (fun v wr => ∃ k : Nat, v = .int .i64 k ∧ k ≤ s.size ∧ wr = w ∧ ∀ j (hj : j < s.size), j < k → okB (s.data[j]'hj) = true) (fun v _ => s.size - (intOf v).toNat)
  case atStart => exact ⟨0, rfl, Nat.zero_le _, rfl, fun j _ h => by omega⟩
  case round =>
    obtain ⟨k, rfl, hk, rfl, ha0⟩ := hrel
    have ha := hid ha0
    clear ha0
    by_cases hlt : k < s.size
    · have i1 : (k : Int) < (s.size : Int) := by omega
      have hs9 : (s.size : Int) ≤ 9223372036854775806 := by omega
      cases hc : okB (s.data[k]'hlt) with
      | true =>
        have hpl := hid (mayB hlt hc (plain_any _ wr))
        have hc := hid hc
        go_wp2_with fail
        refine hpl.out.mono ?_
        rintro e w2 ⟨rfl, rfl⟩
        go_wp2_with fail
        go_roundw
        case rel => exact ⟨k + 1, by go_num, hlt, by first | rfl | trivial, fun j hj hjk => by
          by_cases e : j = k
          · subst e; exact hc.out
          · exact ha.out j hj (by omega)⟩
        case measure => simp [intOf]; omega
      | false =>
        have hpl := hid (mayB hlt hc (plain_any _ wr))
        have hfin : Hid (okT s = false) := hid (okT_at hlt hc)
        clear hc
        go_wp2_with fail
        refine hpl.out.mono ?_
        rintro e w2 ⟨rfl, rfl⟩
        go_wp2_with fail
        go_ret
        exact ⟨by rw [hfin.out]; rfl, by first | rfl | trivial⟩
    · obtain rfl : k = s.size := by omega
      have hfin : Hid (okT s = true) := hid (okT_all fun j hj => ha.out j hj hj)
      go_wp2_with fail
      go_ret
      exact ⟨by rw [hfin.out]; rfl, by first | rfl | trivial⟩
theorem run_eqVal (a b : Vl) (w : World) :
    (Op.equalIn 10000 38 (.agg #[.int .i64 a.k, .int .i64 a.n, .string a.s]) (.agg #[.int .i64 b.k, .int .i64 b.n, .string b.s])).run Tryz.prog w = .ok (decide (a = b)) w := by
  have ht : Tryz.prog.underlying 38 = some (.struct (Tryz.prog.fieldsOf 38)) := by kernel_rfl
  have hp : Tryz.prog.stoodInHeld 38 = false := by kernel_rfl
  rw [run_equalIn_agg w 9999 _ _ _ ht hp]
  have e : decide (a = b) = (a.k == b.k && (a.n == b.n && (a.s.toList == b.s.toList))) := by
    rw [bytes_dec, Bool.eq_iff_iff]
    simp only [decide_eq_true_eq, Bool.and_eq_true, beq_iff_eq]
    exact ⟨fun e => by subst e; simp, fun ⟨h1, h2, h3⟩ => by cases a; cases b; simp_all⟩
  rw [e]
  clear ht hp e
  simp only [Program.fieldsOf, Tryz.underlying38]
  go_simp
  by_cases h1 : a.k = b.k <;> by_cases h2 : a.n = b.n <;> by_cases h3 : a.s.toList = b.s.toList <;> simp [h1, h2, h3]
theorem guardVal : Tryz.prog.eqGuardType Tryz.prog.depth 38 = false := by kernel_rfl
theorem eql_zero (k n : Int) (s : ByteArray) (w : World) : (binOp .eql 38 (.agg #[.int .i64 k, .int .i64 n, .string s]) (.agg #[.int .i64 0, .int .i64 0, .string ⟨#[]⟩])).run Tryz.prog w = .ok (.bool (decide ((⟨k, n, s⟩ : Vl) = vl0))) w := by
  have h := run_eqVal ⟨k, n, s⟩ vl0 w
  have e : vl0 = ⟨0, 0, ⟨#[]⟩⟩ := rfl
  rw [e] at h ⊢
  simp only at h
  rw [run_eql_struct, h]
  simp only [Result.andThen]
theorem ok_none (n : Int) (s : ByteArray) : Vl.ok ⟨0, n, s⟩ = decide ((⟨0, n, s⟩ : Vl) = vl0) := by
  unfold Vl.ok vl0
  rw [if_pos rfl, Bool.eq_iff_iff]
  simp
theorem str_nil {s : ByteArray} (h : s ≠ ⟨#[]⟩) : (s.toList == (⟨#[]⟩ : ByteArray).toList) = false ∧ (s.toList == []) = false ∧ ¬ s.toList = [] := by
  have h1 : (s.toList == (⟨#[]⟩ : ByteArray).toList) = false := by rw [bytes_dec]; exact decide_eq_false h
  have h2 : (⟨#[]⟩ : ByteArray).toList = [] := by rw [ByteArray.toList_eq]
  rw [h2] at h1
  exact ⟨by rw [h2]; exact h1, h1, by simpa using h1⟩
set_option maxRecDepth 100000 in
theorem valid_any (v : Vl) (w : World) (hs : v.s.size ≤ 9223372036854775806) : Calls Tryz.prog 66 #[.agg #[.int .i64 v.k, .int .i64 v.n, .string v.s]] w fun e w' => e = .returned (.bool v.ok) ∧ Below w.heap.size w w' := by
  obtain ⟨k, n, s⟩ := v
  have hgd := guardVal
  simp only at hs
  have hB : Hid (Below w.heap.size w (w.alloc (.cells #[.int .i64 k, .int .i64 n, .string s] 38))) := hid ((Below.refl _ _).alloc (Nat.le_refl _) _)
  have kb := Blk.new w 38 #[.int .i64 k, .int .i64 n, .string s]
  have x0 := kb.cell 0
  have x1 := kb.cell 1
  have x2 := kb.cell 2
  simp only [List.getElem?_toArray, List.getElem?_cons_zero, List.getElem?_cons_succ] at x0 x1 x2
  have hs9 := hid hs
  clear kb hs
  by_cases hk0 : k = 0
  · subst hk0
    have hz := eql_zero 0 n s
    have hok := hid (ok_none n s)
    generalize decide ((⟨0, n, s⟩ : Vl) = vl0) = b at *
    go_enter Tryz.func66, Tryz.ntmps66
    go_upto_region 1 with fail
    generalize w.alloc (.cells #[.int .i64 0, .int .i64 n, .string s] 38) = w1 at *
    go_wp2_with fail
    go_ret
    exact ⟨by rw [hok.out]; rfl, hB.out⟩
  have n0 : (k == 0) = false := by simpa using hk0
  by_cases hk1 : k = 1
  · subst hk1
    by_cases he : s = ⟨#[]⟩
    · subst he
      have hok : Hid (Vl.ok ⟨1, n, ⟨#[]⟩⟩ = true) := hid rfl
      go_enter Tryz.func66, Tryz.ntmps66
      go_upto_region 1 with fail
      generalize w.alloc (.cells #[.int .i64 1, .int .i64 n, .string ⟨#[]⟩] 38) = w1 at *
      go_wp2_with fail
      go_ret
      exact ⟨by rw [hok.out]; rfl, hB.out⟩
    · have hok : Hid (Vl.ok ⟨1, n, s⟩ = false) := hid (by unfold Vl.ok; simp only; rw [if_neg (by decide)]; simp only [if_true]; exact decide_eq_false he)
      obtain ⟨e1, e2, e3⟩ := str_nil he
      go_enter Tryz.func66, Tryz.ntmps66
      go_upto_region 1 with fail
      generalize w.alloc (.cells #[.int .i64 1, .int .i64 n, .string s] 38) = w1 at *
      go_wp2_with fail
      go_ret
      exact ⟨by rw [hok.out]; rfl, hB.out⟩
  have n1 : (k == 1) = false := by simpa using hk1
  by_cases hk2 : k = 2
  · subst hk2
    have hok : Hid (Vl.ok ⟨2, n, s⟩ = (decide (n = 0) && (decide (s.size ≤ 64) && okT s))) := hid rfl
    clear hk0 hk1 n0 n1
    by_cases hn : n = 0
    · subst hn
      by_cases hz : s.size ≤ 64
      · have z1 : decide ((s.size : Int) ≤ 64) = true := decide_eq_true (by omega)
        have z2 : decide (s.size ≤ 64) = true := decide_eq_true hz
        have hpr := hid fun w => printable_any s w (by omega)
        have hf : Hid (Vl.ok ⟨2, 0, s⟩ = okT s) := hid (by rw [hok.out, z2]; simp)
        clear hz
        go_enter Tryz.func66, Tryz.ntmps66
        go_upto_region 1 with fail
        generalize w.alloc (.cells #[.int .i64 2, .int .i64 0, .string s] 38) = w1 at *
        go_wp2_with fail
        refine (hpr.out _).mono ?_
        rintro e w2 ⟨rfl, rfl⟩
        go_wp2_with fail
        go_ret
        exact ⟨by rw [hf.out]; rfl, hB.out⟩
      · have z1 : decide ((s.size : Int) ≤ 64) = false := decide_eq_false (by omega)
        have z2 : decide (s.size ≤ 64) = false := decide_eq_false hz
        have hf : Hid (Vl.ok ⟨2, 0, s⟩ = false) := hid (by rw [hok.out, z2]; simp)
        clear hz
        go_enter Tryz.func66, Tryz.ntmps66
        go_upto_region 1 with fail
        generalize w.alloc (.cells #[.int .i64 2, .int .i64 0, .string s] 38) = w1 at *
        go_wp2_with fail
        go_ret
        exact ⟨by rw [hf.out]; rfl, hB.out⟩
    · have n1 : (n == 0) = false := by simpa using hn
      have hf : Hid (Vl.ok ⟨2, n, s⟩ = false) := hid (by rw [hok.out, decide_eq_false hn]; rfl)
      clear hn
      go_enter Tryz.func66, Tryz.ntmps66
      go_upto_region 1 with fail
      generalize w.alloc (.cells #[.int .i64 2, .int .i64 n, .string s] 38) = w1 at *
      go_wp2_with fail
      go_ret
      exact ⟨by rw [hf.out]; rfl, hB.out⟩
  have n2 : (k == 2) = false := by simpa using hk2
  have hf : Hid (Vl.ok ⟨k, n, s⟩ = false) := hid (by unfold Vl.ok; simp only; rw [if_neg hk0, if_neg hk1, if_neg hk2])
  clear hk0 hk1 hk2
  go_enter Tryz.func66, Tryz.ntmps66
  go_upto_region 1 with fail
  generalize w.alloc (.cells #[.int .i64 k, .int .i64 n, .string s] 38) = w1 at *
  go_wp2_with fail
  go_ret
  exact ⟨by rw [hf.out]; rfl, hB.out⟩
set_option maxRecDepth 100000 in
theorem rvalid_any (v : Vl) (w : World) (hs : v.s.size ≤ 9223372036854775806) : Calls Tryz.prog 49 #[.agg #[.int .i64 v.k, .int .i64 v.n, .string v.s]] w fun e w' => e = .returned (.bool v.ok) ∧ Below w.heap.size w w' := by
  obtain ⟨k, n, s⟩ := v
  have hgd := guardVal
  simp only at hs
  have hB : Hid (Below w.heap.size w (w.alloc (.cells #[.int .i64 k, .int .i64 n, .string s] 38))) := hid ((Below.refl _ _).alloc (Nat.le_refl _) _)
  have kb := Blk.new w 38 #[.int .i64 k, .int .i64 n, .string s]
  have x0 := kb.cell 0
  have x1 := kb.cell 1
  have x2 := kb.cell 2
  simp only [List.getElem?_toArray, List.getElem?_cons_zero, List.getElem?_cons_succ] at x0 x1 x2
  have hs9 := hid hs
  clear kb hs
  by_cases hk0 : k = 0
  · subst hk0
    by_cases hn : n = 0
    · subst hn
      by_cases he : s = ⟨#[]⟩
      · subst he
        have hok : Hid (Vl.ok ⟨0, 0, ⟨#[]⟩⟩ = true) := hid rfl
        go_enter Tryz.func49, Tryz.ntmps49
        go_upto_region 1 with fail
        generalize w.alloc (.cells #[.int .i64 0, .int .i64 0, .string ⟨#[]⟩] 38) = w1 at *
        go_wp2_with fail
        go_ret
        exact ⟨by rw [hok.out]; rfl, hB.out⟩
      · have hok : Hid (Vl.ok ⟨0, 0, s⟩ = false) := hid (by rw [ok_none]; exact decide_eq_false fun h => he (by unfold vl0 at h; simpa using h))
        obtain ⟨e1, e2, e3⟩ := str_nil he
        go_enter Tryz.func49, Tryz.ntmps49
        go_upto_region 1 with fail
        generalize w.alloc (.cells #[.int .i64 0, .int .i64 0, .string s] 38) = w1 at *
        go_wp2_with fail
        go_ret
        exact ⟨by rw [hok.out]; rfl, hB.out⟩
    · have hok : Hid (Vl.ok ⟨0, n, s⟩ = false) := hid (by rw [ok_none]; exact decide_eq_false fun h => hn (by unfold vl0 at h; simp at h; exact h.1))
      have n1 : (n == 0) = false := by simpa using hn
      clear hn
      go_enter Tryz.func49, Tryz.ntmps49
      go_upto_region 1 with fail
      generalize w.alloc (.cells #[.int .i64 0, .int .i64 n, .string s] 38) = w1 at *
      go_wp2_with fail
      go_ret
      exact ⟨by rw [hok.out]; rfl, hB.out⟩
  have n0 : (k == 0) = false := by simpa using hk0
  by_cases hk1 : k = 1
  · subst hk1
    by_cases he : s = ⟨#[]⟩
    · subst he
      have hok : Hid (Vl.ok ⟨1, n, ⟨#[]⟩⟩ = true) := hid rfl
      go_enter Tryz.func49, Tryz.ntmps49
      go_upto_region 1 with fail
      generalize w.alloc (.cells #[.int .i64 1, .int .i64 n, .string ⟨#[]⟩] 38) = w1 at *
      go_wp2_with fail
      go_ret
      exact ⟨by rw [hok.out]; rfl, hB.out⟩
    · have hok : Hid (Vl.ok ⟨1, n, s⟩ = false) := hid (by unfold Vl.ok; simp only; rw [if_neg (by decide)]; simp only [if_true]; exact decide_eq_false he)
      obtain ⟨e1, e2, e3⟩ := str_nil he
      go_enter Tryz.func49, Tryz.ntmps49
      go_upto_region 1 with fail
      generalize w.alloc (.cells #[.int .i64 1, .int .i64 n, .string s] 38) = w1 at *
      go_wp2_with fail
      go_ret
      exact ⟨by rw [hok.out]; rfl, hB.out⟩
  have n1 : (k == 1) = false := by simpa using hk1
  by_cases hk2 : k = 2
  · subst hk2
    have hok : Hid (Vl.ok ⟨2, n, s⟩ = (decide (n = 0) && (decide (s.size ≤ 64) && okT s))) := hid rfl
    clear hk0 hk1 n0 n1
    go_enter Tryz.func49, Tryz.ntmps49
    go_upto_region 1 with fail
    generalize w.alloc (.cells #[.int .i64 2, .int .i64 n, .string s] 38) = w1 at *
    go_wp2_with fail
    go_loopw [3] (fun v wr => ∃ k : Nat, v = .int .i64 k ∧ k ≤ s.size ∧ wr = w1 ∧ ∀ j (hj : j < s.size), j < k → okB (s.data[j]'hj) = true) (fun v _ => s.size - (intOf v).toNat)
    case atStart => exact ⟨0, rfl, Nat.zero_le _, rfl, fun j _ h => by omega⟩
    case round =>
      obtain ⟨k, rfl, hk, rfl, ha0⟩ := hrel
      have ha := hid ha0
      clear ha0
      by_cases hlt : k < s.size
      · have i1 : (k : Int) < (s.size : Int) := by omega
        have hw : IntKind.i64.wrap ((k : Int) + 1) = (k : Int) + 1 := IntWalk.i64_in _ (by have := hs9.out; omega)
        cases hc : okB (s.data[k]'hlt) with
        | true =>
          have hpl := hid (mayB hlt hc (rmay_any _ wr))
          have hc := hid hc
          go_wp2_with fail
          refine hpl.out.mono ?_
          rintro e w2 ⟨rfl, rfl⟩
          go_wp2_with fail
          go_roundw
          case rel => exact ⟨k + 1, by go_num, hlt, by first | rfl | trivial, fun j hj hjk => by
            by_cases e : j = k
            · subst e; exact hc.out
            · exact ha.out j hj (by omega)⟩
          case measure => simp [intOf]; omega
        | false =>
          have hpl := hid (mayB hlt hc (rmay_any _ wr))
          have hfin : Hid (Vl.ok ⟨2, n, s⟩ = false) := hid (by rw [hok.out, okT_at hlt hc]; simp)
          clear hc
          go_wp2_with fail
          refine hpl.out.mono ?_
          rintro e w2 ⟨rfl, rfl⟩
          go_wp2_with fail
          go_ret
          exact ⟨by rw [hfin.out]; rfl, hB.out⟩
      · obtain rfl : k = s.size := by omega
        have hfin : Hid (okT s = true) := hid (okT_all fun j hj => ha.out j hj hj)
        by_cases hn : n = 0
        · subst hn
          have hf : Hid (Vl.ok ⟨2, 0, s⟩ = decide (s.size ≤ 64)) := hid (by rw [hok.out, hfin.out]; simp)
          have hz : Hid (decide (s.size ≤ 64) = decide ((s.size : Int) ≤ 64)) := hid (decide_eq_decide.2 (by omega))
          go_wp2_with fail
          go_ret
          exact ⟨by rw [hf.out]; first | rfl | (rw [hz.out]; rfl) | simp, hB.out⟩
        · have n1 : (n == 0) = false := by simpa using hn
          have hf : Hid (Vl.ok ⟨2, n, s⟩ = false) := hid (by rw [hok.out, decide_eq_false hn]; rfl)
          clear hn
          go_wp2_with fail
          go_ret
          exact ⟨by rw [hf.out]; rfl, hB.out⟩
  have n2 : (k == 2) = false := by simpa using hk2
  have hf : Hid (Vl.ok ⟨k, n, s⟩ = false) := hid (by unfold Vl.ok; simp only; rw [if_neg hk0, if_neg hk1, if_neg hk2])
  clear hk0 hk1 hk2
  go_enter Tryz.func49, Tryz.ntmps49
  go_upto_region 1 with fail
  generalize w.alloc (.cells #[.int .i64 k, .int .i64 n, .string s] 38) = w1 at *
  go_wp2_with fail
  go_ret
  exact ⟨by rw [hf.out]; rfl, hB.out⟩

end Go.Proofs.YtphglnenafdkaaaGreatDoor

namespace Go.Proofs.YtphglnenafdkaaaGreatDoor
open Go.RowKit
set_option linter.unusedVariables false
set_option linter.unusedSimpArgs false

structure Env (w : World) : Prop where
  pow : Lib.TabIs Tryz.prog w "internal/strconv.uint64pow10" .u64 Lib.pow10Tab
  big : 5 ≤ w.heap.size
theorem gPow : Tryz.prog.globalNamed "internal/strconv.uint64pow10" = some 2 := by kernel_rfl
theorem Env.below {w w' : World} (h : Env w) (hb : Below w.heap.size w w') : Env w' := by
  have h6 := h.big
  exact ⟨var?_below hb gPow (by omega) h.pow, by have := hb.size; omega⟩
theorem Env.over {w w' : World} {N : Nat} (h : Env w) (hb : Below N w w') (hN : 5 ≤ N) : Env w' := by
  have h6 := h.big
  exact ⟨var?_below hb gPow (by omega) h.pow, by have := hb.size; omega⟩
theorem fmt_any (n : Int) (h0 : -9223372036854775808 ≤ n) (h1 : n ≤ 9223372036854775807) (w : World) (he : Env w) :
    Calls Tryz.prog 69 #[.int .i64 n, .int .i64 10] w fun e w' => e = .returned (.string ⟨(Lib.itoa n).toArray⟩) ∧ Below w.heap.size w w' := by
  refine (strconv_FormatInt_10 n h0 h1 w he.pow).mono ?_
  rintro e w' ⟨rfl, k, os, rfl⟩
  exact ⟨rfl, rfl, rfl, rfl, by rw [Sort.size_grow]; exact Nat.le_add_right _ _, fun b hb => Array.getElem?_append_left (show b < w.heap.size from hb)⟩
theorem digits_any (n : Int) (h0 : -9223372036854775808 ≤ n) (h1 : n ≤ 9223372036854775807) (w : World) (he : Env w) :
    Calls Tryz.prog 41 #[.int .i64 n] w fun e w' => e = .returned (.string ⟨(Lib.itoa n).toArray⟩) ∧ Below w.heap.size w w' := by
  have hk := hid (fmt_any n h0 h1 w he)
  clear h0 h1 he
  go_enter Tryz.func41, Tryz.ntmps41
  go_wp2_with fail
  refine hk.out.mono ?_
  rintro e w2 ⟨rfl, hb⟩
  go_wp2_with fail
  go_ret
  exact ⟨rfl, hb⟩
def noneT : List UInt8 := [110, 111, 110, 101]
def escL (l : List UInt8) : List UInt8 := l.flatMap fun c => if c = 34 ∨ c = 92 then [92, c] else [c]
def litL (v : Vl) : List UInt8 := if v.k = 1 then Lib.itoa v.n else if v.k = 0 then noneT else 34 :: (escL v.s.data.toList ++ [34])
def printE (v : Vl) : Int := if v.ok = true then 0 else 20
def printL (v : Vl) : List UInt8 := if v.ok = true then litL v else []
def lb (L : List Nat) : List UInt8 := L.map UInt8.ofNat
theorem lb_len (L : List Nat) : (lb L).length = L.length := List.length_map ..
theorem lb_snoc (L : List Nat) (c : UInt8) : lb (L ++ [c.toNat]) = lb L ++ [c] := by unfold lb; simp
theorem bcells_at {l : List Nat} {k : Nat} (h : k < l.length) : (bcells l)[k]? = some (.int .u8 (l[k] : Nat)) := by unfold bcells; rw [List.getElem?_map, List.getElem?_eq_getElem h]; rfl
theorem strOf_bt (l : List Nat) : strOfNums (l.map Int.ofNat) = bt l := by
  unfold strOfNums bt
  rw [List.map_map]
  rfl
theorem convB {S : Nat → Prop} {w : World} {A : Option Addr} {l : List Nat} {n c : Nat} (h : Rd S w 1 A n (bcells l)) (hn : l.length = n) : (convert 41 9 (.slice A n c)).run Tryz.prog w = .ok (.string (bt l)) w := by
  subst hn
  cases l with
  | nil =>
    cases A with
    | none => exact run_convert_bytes_nil w 41 5 Tryz.underlying41 Tryz.underlying5 0 c 9 Tryz.underlying9
    | some a =>
      obtain ⟨b, o, t⟩ := a
      rw [run_convert_bytes_string w 41 9 5 _ _ c Tryz.underlying41 Tryz.underlying5 Tryz.underlying9, run_bytesToString w _ _ c [] (by simp [loadCells, loadCellsFrom])]
      rfl
  | cons x l =>
    obtain ⟨b, o, rfl, _, _, hc⟩ := h.2 (by simp)
    rw [← strOf_bt]
    refine run_convert_bytes_arg w 41 5 Tryz.underlying41 Tryz.underlying5 b o _ c _ (by simp) (fun i hi => hc i _ ?_) 9 Tryz.underlying9
    rw [bcells_at hi]
    have : ((x :: l).map Int.ofNat).getD i 0 = (((x :: l)[i] : Nat) : Int) := by rw [List.getD_eq_getElem?_getD, List.getElem?_map, List.getElem?_eq_getElem hi]; rfl
    rw [this]
section
variable {s : ByteArray} {k : Nat}
theorem byte_ne {hk : k < s.size} {c : UInt8} (h : s.data[k]'hk ≠ c) : (s[k]'hk).toNat ≠ c.toNat := fun e => h (UInt8.toNat_inj.1 e)
theorem byte_eq {hk : k < s.size} {c : UInt8} (h : s.data[k]'hk = c) : (s[k]'hk).toNat = c.toNat := by show (s.data[k]'hk).toNat = c.toNat; rw [h]
end
end Go.Proofs.YtphglnenafdkaaaGreatDoor

namespace Go.Proofs.YtphglnenafdkaaaGreatDoor
open Go.RowKit
set_option linter.unusedVariables false
set_option linter.unusedSimpArgs false

/-- what Print leaves -/
def PrOut (v : Vl) (w : World) (e : Ending) (w' : World) : Prop := e = .returned (.tuple #[.string ⟨(printL v).toArray⟩, .int .i64 (printE v)]) ∧ Below w.heap.size w w'
theorem esc_step {s : ByteArray} {k : Nat} (hk : k < s.size) : escL (s.data.toList.take (k + 1)) = escL (s.data.toList.take k) ++ (if s.data[k]'hk = 34 ∨ s.data[k]'hk = 92 then [92, s.data[k]'hk] else [s.data[k]'hk]) := by
  have hl : k < s.data.toList.length := by rw [Array.length_toList]; exact hk
  rw [List.take_succ_eq_append_getElem hl, Array.getElem_toList]
  unfold escL
  rw [List.flatMap_append]
  simp
theorem take_all {s : ByteArray} {k : Nat} (hk : s.size ≤ k) : s.data.toList.take k = s.data.toList := List.take_of_length_le (by rw [Array.length_toList]; exact hk)
theorem lit_text {v : Vl} (h : v.ok = true) (hk : v.k = 2) : printL v = 34 :: (escL v.s.data.toList ++ [34]) := by
  unfold printL litL
  rw [if_pos h, hk, if_neg (by decide), if_neg (by decide)]

set_option maxRecDepth 100000 in
set_option maxHeartbeats 4000000 in
theorem print_any (v : Vl) (w : World) (hs : v.s.size ≤ 140737488351232) (hr : v.rng) (he : Env w) : Calls Tryz.prog 44 #[.agg #[.int .i64 v.k, .int .i64 v.n, .string v.s]] w (PrOut v w) := by
  obtain ⟨ib, hb0, hb1, hb2, hb3⟩ := info_parts info_u8
  obtain ⟨W, hW⟩ : ∃ W, W = w.alloc (.cells #[.int .i64 v.k, .int .i64 v.n, .string v.s] 38) := ⟨_, rfl⟩
  have hB0 : Hid (Below w.heap.size w W) := hid (by subst hW; exact (Below.refl _ _).alloc (Nat.le_refl _) _)
  have kb0 : Hid (Blk W w.heap.size 38 #[.int .i64 v.k, .int .i64 v.n, .string v.s]) := hid (by subst hW; exact Blk.new w _ _)
  have hva := hid (valid_any v W (by omega))
  have hx0 : W.cell? ⟨w.heap.size, 0, none⟩ = some (.int .i64 v.k) := kb0.out.cell 0
  have hx1 : W.cell? ⟨w.heap.size, 1, none⟩ = some (.int .i64 v.n) := kb0.out.cell 1
  have hx2 : W.cell? ⟨w.heap.size, 2, none⟩ = some (.string v.s) := kb0.out.cell 2
  have hfz := fun q => kb0.out.frozen q
  have hlz := kb0.out.lt
  have he2 := hid (he.below hB0.out)
  clear he
  cases hok : v.ok with
  | false =>
    have hfin : Hid (printL v = [] ∧ printE v = 20) := hid (by unfold printL printE; rw [hok]; exact ⟨rfl, rfl⟩)
    rw [hok] at hva
    clear hok hs hr
    go_enter Tryz.func44, Tryz.ntmps44
    go_upto_region 1 with fail
    rw [← hW]
    clear hW
    go_wp2_with fail
    refine hva.out.mono ?_
    rintro e w2 ⟨rfl, hb20⟩
    have kb2 := hid (kb0.out.below_all hb20)
    have hB2 := hid (hB0.out.trans (hb20.mono hB0.out.size))
    have hbb2 := hid hb20
    clear hb20 hva hx0 hx1 hx2 hfz hlz kb0 hB0
    have x0 := kb2.out.cell 0
    have x1 := kb2.out.cell 1
    have x2 := kb2.out.cell 2
    simp only [List.getElem?_toArray, List.getElem?_cons_zero, List.getElem?_cons_succ] at x0 x1 x2
    have fz := fun q => kb2.out.frozen q
    have hlt := kb2.out.lt
    go_wp2_with fail
    refine bodyPost_ret (v := .tuple #[.string ⟨#[]⟩, .int .i64 20]) (by simp [results, Tryz.results44, go_sem]) rfl ⟨?_, hB2.out⟩
    rw [hfin.out.1, hfin.out.2]
  | true =>
    have hpe : Hid (printE v = 0) := hid (by unfold printE; rw [hok]; rfl)
    have hpl : printL v = litL v := by unfold printL; rw [hok]; rfl
    rw [hok] at hva
    rcases ok_forms hok with hv | ⟨h1, h2⟩ | ⟨h1, h2, h3, h4⟩
    · have e0 : v.k = 0 := by rw [hv]; rfl
      have hfin : Hid (printL v = noneT) := hid (by rw [hpl]; unfold litL; rw [e0]; rfl)
      have f0 : (v.k == 1) = false := by rw [e0]; rfl
      have f1 : (v.k == 0) = true := by rw [e0]; rfl
      clear hok hs hr hv hpl e0
      go_enter Tryz.func44, Tryz.ntmps44
      go_upto_region 1 with fail
      rw [← hW]
      clear hW
      go_wp2_with fail
      refine hva.out.mono ?_
      rintro e w2 ⟨rfl, hb20⟩
      have kb2 := hid (kb0.out.below_all hb20)
      have hB2 := hid (hB0.out.trans (hb20.mono hB0.out.size))
      have hbb2 := hid hb20
      clear hb20 hva hx0 hx1 hx2 hfz hlz kb0 hB0
      have x0 := kb2.out.cell 0
      have x1 := kb2.out.cell 1
      have x2 := kb2.out.cell 2
      simp only [List.getElem?_toArray, List.getElem?_cons_zero, List.getElem?_cons_succ] at x0 x1 x2
      have fz := fun q => kb2.out.frozen q
      have hlt := kb2.out.lt
      go_wp2_with fail
      refine bodyPost_ret (v := .tuple #[.string ⟨#[110, 111, 110, 101]⟩, .int .i64 0]) (by simp [results, Tryz.results44, go_sem]) rfl ⟨?_, hB2.out⟩
      rw [hfin.out, hpe.out]; rfl
    · have hfin : Hid (printL v = Lib.itoa v.n) := hid (by rw [hpl]; unfold litL; rw [h1]; rfl)
      have f0 : (v.k == 1) = true := by rw [h1]; rfl
      have hrr := hid hr
      clear hok hs hr hpl h1 h2
      go_enter Tryz.func44, Tryz.ntmps44
      go_upto_region 1 with fail
      rw [← hW]
      clear hW
      go_wp2_with fail
      refine hva.out.mono ?_
      rintro e w2 ⟨rfl, hb20⟩
      have kb2 := hid (kb0.out.below_all hb20)
      have hB2 := hid (hB0.out.trans (hb20.mono hB0.out.size))
      have hbb2 := hid hb20
      clear hb20 hva hx0 hx1 hx2 hfz hlz kb0 hB0
      have x0 := kb2.out.cell 0
      have x1 := kb2.out.cell 1
      have x2 := kb2.out.cell 2
      simp only [List.getElem?_toArray, List.getElem?_cons_zero, List.getElem?_cons_succ] at x0 x1 x2
      have fz := fun q => kb2.out.frozen q
      have hlt := kb2.out.lt
      have he3 := hid (he2.out.below (w := W) (w' := w2) (by first | exact hbb2.out))
      go_wp2_with fail
      refine (digits_any v.n hrr.out.1 hrr.out.2 w2 he3.out).mono ?_
      rintro e w3 ⟨rfl, hb30⟩
      have hB3 := hid (hB2.out.trans (hb30.mono hB2.out.size))
      clear hb30 x0 x1 x2 fz hlt
      go_wp2_with fail
      refine bodyPost_ret (v := .tuple #[.string ⟨(Lib.itoa v.n).toArray⟩, .int .i64 0]) (by simp [results, Tryz.results44, go_sem]) rfl ⟨?_, hB3.out⟩
      rw [hfin.out, hpe.out]
    · have hfin : Hid (printL v = 34 :: (escL v.s.data.toList ++ [34])) := hid (lit_text hok h1)
      have hs64 := hid h3
      have hs9 : (v.s.size : Int) ≤ 64 := by omega
      have f0 : (v.k == 1) = false := by rw [h1]; rfl
      have f1 : (v.k == 0) = false := by rw [h1]; rfl
      clear hok hs hr hpl h3 h4 h1 h2
      go_enter Tryz.func44, Tryz.ntmps44
      go_upto_region 1 with fail
      rw [← hW]
      clear hW
      go_wp2_with fail
      refine hva.out.mono ?_
      rintro e w2 ⟨rfl, hb20⟩
      have kb2 := hid (kb0.out.below_all hb20)
      have hB2 := hid (hB0.out.trans (hb20.mono hB0.out.size))
      have hbb2 := hid hb20
      clear hb20 hva hx0 hx1 hx2 hfz hlz kb0 hB0
      have x0 := kb2.out.cell 0
      have x1 := kb2.out.cell 1
      have x2 := kb2.out.cell 2
      simp only [List.getElem?_toArray, List.getElem?_cons_zero, List.getElem?_cons_succ] at x0 x1 x2
      have fz := fun q => kb2.out.frozen q
      have hlt := kb2.out.lt
      go_upto_region 8 with fail
      have ho0 := hid (World.ownsRow_lit (base := w2.heap.size) (e := 5) (size := 1) w2 #[.int .u8 34] 1 (Nat.le_refl _) (by decide) rfl)
      have hB3 : Hid (Below w2.heap.size w2 (w2.alloc (.cells #[.int .u8 34] 5))) := hid ((Below.refl _ _).alloc (Nat.le_refl _) _)
      generalize w2.alloc (.cells #[.int .u8 34] 5) = w3 at *
      have kb3 := hid (kb2.out.below_all hB3.out)
      clear x0 x1 x2 fz hlt
      have x2 : w3.cell? ⟨w.heap.size, 2, none⟩ = some (.string v.s) := kb3.out.cell 2
      have hlt := kb3.out.lt
      go_wp2_with fail
      go_loopw [4, 5, 25] (fun v4 _ v25 wr => ∃ (k : Nat) (A : Option Addr) (c : Nat) (L : List Nat), v4 = .slice A L.length c ∧ v25 = .int .i64 k ∧ k ≤ v.s.size ∧ L.length ≤ 1 + 2 * k ∧ wr.ownsRow w2.heap.size 5 1 (.slice A L.length c) L.length (bcells L) ∧ Below w2.heap.size w2 wr ∧ lb L = 34 :: escL (v.s.data.toList.take k)) (fun _ _ v25 _ => v.s.size - (intOf v25).toNat)
      case atStart => exact ⟨0, some ⟨w2.heap.size, 0, none⟩, 1, [34], rfl, rfl, Nat.zero_le _, by simp, ho0.out, hB3.out, rfl⟩
      case round =>
        clear x2 hlt ho0 hB3 kb3
        obtain ⟨k, A, c, L, rfl, rfl, hks, hL0, hown0, hB0, hR0⟩ := hrel
        have hL := hid hL0; have hown := hid hown0; have hB := hid hB0; have hR := hid hR0
        have hL9 : (L.length : Int) ≤ 200 := by have := hs64.out; omega
        have hL8 := hid (show L.length ≤ 200 by have := hs64.out; omega)
        clear hL0 hown0 hB0 hR0
        have kb4 := hid (kb2.out.below_all hB.out)
        have x2 : wr.cell? ⟨w.heap.size, 2, none⟩ = some (.string v.s) := kb4.out.cell 2
        have hltz := kb4.out.lt
        by_cases hlt : k < v.s.size
        · have i1 : (k : Int) < (v.s.size : Int) := by omega
          have hst := esc_step hlt
          by_cases hq : v.s.data[k]'hlt = 34 ∨ v.s.data[k]'hlt = 92
          · rw [if_pos hq] at hst
            have hR2 : Hid (lb ((L ++ [92]) ++ [(v.s[k]'hlt).toNat]) = 34 :: escL (v.s.data.toList.take (k + 1))) := hid (by
              rw [hst, show (v.s[k]'hlt).toNat = (v.s.data[k]'hlt).toNat from rfl, lb_snoc, show (92 : Nat) = (92 : UInt8).toNat from rfl, lb_snoc, hR.out]; simp)
            clear hst
            have hcase : Hid (((v.s[k]'hlt).toNat = 34) ∨ ((v.s[k]'hlt).toNat ≠ 34 ∧ (v.s[k]'hlt).toNat = 92)) := hid (by
              by_cases h34 : v.s.data[k]'hlt = 34
              · exact .inl (byte_eq (hk := hlt) h34)
              · exact .inr ⟨byte_ne (hk := hlt) h34, byte_eq (hk := hlt) (hq.resolve_left h34)⟩)
            clear hq
            rcases hcase.out with hc | ⟨hc0, hc⟩
            · have b1 : (((v.s[k]'hlt).toNat : Int) == 34) = true := by rw [hc]; rfl
              have b2 : (((v.s[k]'hlt).toNat : Int) == 92) = false := by rw [hc]; rfl
              rw [hc] at hR2
              skip
              go_upto_region 13 with (
                at_builtin
                refine wpList_append_rd _ rfl (.tmp 40) (.tmp 41) 41 rfl w2.heap.size 5 ib _ 1 1 Tryz.underlying41 hb0 hb1 hb2 hb3 rfl (by omega) (.slice A (L.length) c) (L.length) (bcells L) rfl (hown.out.alloc _) (fun b => b = wr.heap.size) (some ⟨wr.heap.size, 0, none⟩) 1 1 [.int .u8 (((92 : Nat) : Int))] rfl (Rd.new wr 5 1 1 #[.int .u8 (((92 : Nat) : Int))] _ rfl rfl) (by intro u hu; simp at hu; subst hu; rfl) (by simp only [maxLen]; have := hL8.out; omega) (by have := hL8.out; omega) (by have := hB.out.size; simp; omega) ?_
                intro v5 w5 hown5 hg5 hat5
                have hB5 := hid ((hB.out.alloc hB.out.size (.cells #[.int .u8 (((92 : Nat) : Int))] 5)).grown hg5 (by have := hB.out.size; simp; omega) fun k hk => (hown.out.lt k hk).1)
                obtain ⟨A5, c5, rfl, _⟩ := own_form hown5
                rw [← bcells_snoc] at hown5
                have hown5 := hid hown5
                skip
                clear hg5 hat5)
              have kb5 := hid (kb2.out.below_all hB5.out)
              clear x2 hltz
              have x2 : w5.cell? ⟨w.heap.size, 2, none⟩ = some (.string v.s) := kb5.out.cell 2
              have hltz := kb5.out.lt
              go_wp2_with (
                at_builtin
                refine wpList_append_rd _ rfl (.tmp 43) (.tmp 48) 41 rfl w2.heap.size 5 ib _ 1 1 Tryz.underlying41 hb0 hb1 hb2 hb3 rfl (by omega) (.slice A5 (L.length + 1) c5) (L.length + 1) (bcells (L ++ [92])) rfl (hown5.out.alloc _) (fun b => b = w5.heap.size) (some ⟨w5.heap.size, 0, none⟩) 1 1 [.int .u8 (((34 : Nat) : Int))] rfl (Rd.new w5 5 1 1 #[.int .u8 (((34 : Nat) : Int))] _ rfl rfl) (by intro u hu; simp at hu; subst hu; rfl) (by simp only [maxLen]; have := hL8.out; omega) (by have := hL8.out; omega) (by have := hB5.out.size; simp; omega) ?_
                intro v9 w9 hown9 hg9 hat9
                have hB9 := hid ((hB5.out.alloc hB5.out.size (.cells #[.int .u8 (((34 : Nat) : Int))] 5)).grown hg9 (by have := hB5.out.size; simp; omega) fun k hk => (hown5.out.lt k hk).1)
                obtain ⟨A9, c9, rfl, _⟩ := own_form hown9
                rw [← bcells_snoc] at hown9
                have hown9 := hid hown9
                skip
                clear hg9 hat9)
              refine ⟨⟨k + 1, A9, c9, (L ++ [92]) ++ [34], by simp, by first | rfl | simp, by omega, by have := hL.out; simp; omega, by simpa using hown9.out, hB9.out, hR2.out⟩, ?_⟩
              simp [intOf]
              omega
            · have b1 : (((v.s[k]'hlt).toNat : Int) == 34) = false := by rw [hc]; rfl
              have b2 : (((v.s[k]'hlt).toNat : Int) == 92) = true := by rw [hc]; rfl
              rw [hc] at hR2
              clear hc0
              go_upto_region 13 with (
                at_builtin
                refine wpList_append_rd _ rfl (.tmp 40) (.tmp 41) 41 rfl w2.heap.size 5 ib _ 1 1 Tryz.underlying41 hb0 hb1 hb2 hb3 rfl (by omega) (.slice A (L.length) c) (L.length) (bcells L) rfl (hown.out.alloc _) (fun b => b = wr.heap.size) (some ⟨wr.heap.size, 0, none⟩) 1 1 [.int .u8 (((92 : Nat) : Int))] rfl (Rd.new wr 5 1 1 #[.int .u8 (((92 : Nat) : Int))] _ rfl rfl) (by intro u hu; simp at hu; subst hu; rfl) (by simp only [maxLen]; have := hL8.out; omega) (by have := hL8.out; omega) (by have := hB.out.size; simp; omega) ?_
                intro v5 w5 hown5 hg5 hat5
                have hB5 := hid ((hB.out.alloc hB.out.size (.cells #[.int .u8 (((92 : Nat) : Int))] 5)).grown hg5 (by have := hB.out.size; simp; omega) fun k hk => (hown.out.lt k hk).1)
                obtain ⟨A5, c5, rfl, _⟩ := own_form hown5
                rw [← bcells_snoc] at hown5
                have hown5 := hid hown5
                skip
                clear hg5 hat5)
              have kb5 := hid (kb2.out.below_all hB5.out)
              clear x2 hltz
              have x2 : w5.cell? ⟨w.heap.size, 2, none⟩ = some (.string v.s) := kb5.out.cell 2
              have hltz := kb5.out.lt
              go_wp2_with (
                at_builtin
                refine wpList_append_rd _ rfl (.tmp 43) (.tmp 48) 41 rfl w2.heap.size 5 ib _ 1 1 Tryz.underlying41 hb0 hb1 hb2 hb3 rfl (by omega) (.slice A5 (L.length + 1) c5) (L.length + 1) (bcells (L ++ [92])) rfl (hown5.out.alloc _) (fun b => b = w5.heap.size) (some ⟨w5.heap.size, 0, none⟩) 1 1 [.int .u8 (((92 : Nat) : Int))] rfl (Rd.new w5 5 1 1 #[.int .u8 (((92 : Nat) : Int))] _ rfl rfl) (by intro u hu; simp at hu; subst hu; rfl) (by simp only [maxLen]; have := hL8.out; omega) (by have := hL8.out; omega) (by have := hB5.out.size; simp; omega) ?_
                intro v9 w9 hown9 hg9 hat9
                have hB9 := hid ((hB5.out.alloc hB5.out.size (.cells #[.int .u8 (((92 : Nat) : Int))] 5)).grown hg9 (by have := hB5.out.size; simp; omega) fun k hk => (hown5.out.lt k hk).1)
                obtain ⟨A9, c9, rfl, _⟩ := own_form hown9
                rw [← bcells_snoc] at hown9
                have hown9 := hid hown9
                skip
                clear hg9 hat9)
              refine ⟨⟨k + 1, A9, c9, (L ++ [92]) ++ [92], by simp, by first | rfl | simp, by omega, by have := hL.out; simp; omega, by simpa using hown9.out, hB9.out, hR2.out⟩, ?_⟩
              simp [intOf]
              omega
          · rw [if_neg hq] at hst
            have c34 : (v.s[k]'hlt).toNat ≠ 34 := byte_ne (hk := hlt) fun e => hq (.inl e)
            have c92 : (v.s[k]'hlt).toNat ≠ 92 := byte_ne (hk := hlt) fun e => hq (.inr e)
            have b1 : (((v.s[k]'hlt).toNat : Int) == 34) = false := by simp; omega
            have b2 : (((v.s[k]'hlt).toNat : Int) == 92) = false := by simp; omega
            have hR2 : Hid (lb (L ++ [(v.s[k]'hlt).toNat]) = 34 :: escL (v.s.data.toList.take (k + 1))) := hid (by
              rw [hst, show (v.s[k]'hlt).toNat = (v.s.data[k]'hlt).toNat from rfl, lb_snoc, hR.out]; simp)
            clear hst hq c34 c92
            go_wp2_with (
              at_builtin
              refine wpList_append_rd _ rfl (.tmp 43) (.tmp 48) 41 rfl w2.heap.size 5 ib _ 1 1 Tryz.underlying41 hb0 hb1 hb2 hb3 rfl (by omega) (.slice A (L.length) c) (L.length) (bcells L) rfl (hown.out.alloc _) (fun b => b = wr.heap.size) (some ⟨wr.heap.size, 0, none⟩) 1 1 [.int .u8 (((v.s[k]'hlt).toNat : Nat))] rfl (Rd.new wr 5 1 1 #[.int .u8 (((v.s[k]'hlt).toNat : Nat))] _ rfl rfl) (by intro u hu; simp at hu; subst hu; rfl) (by simp only [maxLen]; have := hL8.out; omega) (by have := hL8.out; omega) (by have := hB.out.size; simp; omega) ?_
              intro v9 w9 hown9 hg9 hat9
              have hB9 := hid ((hB.out.alloc hB.out.size (.cells #[.int .u8 (((v.s[k]'hlt).toNat : Nat))] 5)).grown hg9 (by have := hB.out.size; simp; omega) fun k hk => (hown.out.lt k hk).1)
              obtain ⟨A9, c9, rfl, _⟩ := own_form hown9
              rw [← bcells_snoc] at hown9
              have hown9 := hid hown9
              skip
              clear hg9 hat9)
            refine ⟨⟨k + 1, A9, c9, L ++ [(v.s[k]'hlt).toNat], by simp, by first | rfl | simp, by omega, by have := hL.out; simp; omega, by simpa using hown9.out, hB9.out, hR2.out⟩, ?_⟩
            simp [intOf]
            omega
        · have i1 : ¬ ((k : Int) < (v.s.size : Int)) := by omega
          have hR2 : Hid (lb (L ++ [34]) = printL v) := hid (by
            rw [hfin.out, show (34 : Nat) = (34 : UInt8).toNat from rfl, lb_snoc, hR.out, take_all (by omega)]; rfl)
          clear hlt
          go_wp2_with (
            at_builtin
            refine wpList_append_rd _ rfl (.tmp 51) (.tmp 52) 41 rfl w2.heap.size 5 ib _ 1 1 Tryz.underlying41 hb0 hb1 hb2 hb3 rfl (by omega) (.slice A (L.length) c) (L.length) (bcells L) rfl (hown.out.alloc _) (fun b => b = wr.heap.size) (some ⟨wr.heap.size, 0, none⟩) 1 1 [.int .u8 (((34 : Nat) : Int))] rfl (Rd.new wr 5 1 1 #[.int .u8 (((34 : Nat) : Int))] _ rfl rfl) (by intro u hu; simp at hu; subst hu; rfl) (by simp only [maxLen]; have := hL8.out; omega) (by have := hL8.out; omega) (by have := hB.out.size; simp; omega) ?_
            intro v9 w9 hown9 hg9 hat9
            have hB9 := hid ((hB.out.alloc hB.out.size (.cells #[.int .u8 (((34 : Nat) : Int))] 5)).grown hg9 (by have := hB.out.size; simp; omega) fun k hk => (hown.out.lt k hk).1)
            obtain ⟨A9, c9, rfl, _⟩ := own_form hown9
            rw [← bcells_snoc] at hown9
            have hown9 := hid hown9
            have hcv := convB (Rd.of_own hown9.out) (c := c9) (by simp)
            clear hg9 hat9)
          have hfb : Hid (Below w.heap.size w w9) := hid (hB2.out.trans (hB9.out.mono hB2.out.size))
          refine bodyPost_ret (v := .tuple #[.string (bt (L ++ [34])), .int .i64 0]) (by simp [results, Tryz.results44, go_sem]) rfl ⟨?_, hfb.out⟩
          rw [← hR2.out, hpe.out]; rfl

end Go.Proofs.YtphglnenafdkaaaGreatDoor

namespace Go.Proofs.YtphglnenafdkaaaGreatDoor
open Go.RowKit
set_option linter.unusedVariables false
set_option linter.unusedSimpArgs false

def lineL (x : Kv) : List UInt8 := x.1.data.toList ++ (32 :: (printL x.2 ++ [10]))
def headL (s : St) : List UInt8 := Lib.itoa s.parts ++ (10 :: (Lib.itoa s.room ++ [10]))
def bytesTo (s : St) (i : Nat) : List UInt8 := headL s ++ (s.L.take i).flatMap lineL
def bytesS (s : St) : List UInt8 := headL s ++ s.L.flatMap lineL
theorem bytesTo_zero (s : St) : bytesTo s 0 = headL s := by simp [bytesTo]
theorem bytesTo_all (s : St) : bytesTo s s.L.length = bytesS s := by unfold bytesTo bytesS; rw [List.take_length]
theorem bytesTo_step (s : St) {i : Nat} (h : i < s.L.length) : bytesTo s (i + 1) = bytesTo s i ++ lineL s.L[i] := by
  unfold bytesTo
  rw [List.take_succ_eq_append_getElem h, List.flatMap_append, List.append_assoc]
  simp
theorem escL_len : ∀ l : List UInt8, (escL l).length ≤ 2 * l.length
  | [] => Nat.le_refl _
  | c :: l => by
    have := escL_len l
    unfold escL at *
    rw [List.flatMap_cons, List.length_append, List.length_cons]
    split <;> simp only [List.length_cons, List.length_nil] <;> omega
theorem print_len {v : Vl} (hok : v.ok = true) (hr : v.rng) : (printL v).length ≤ 200 := by
  unfold printL litL
  rw [if_pos hok]
  split
  · have := Lib.itoa_length_le v.n hr.1 hr.2
    omega
  · split
    · decide
    · have h := ok_forms hok
      have h2 : v.s.size ≤ 64 := by
        rcases h with rfl | ⟨h1, h2⟩ | ⟨h1, h2, h3, h4⟩
        · decide
        · rw [h2]; decide
        · exact h3
      have := escL_len v.s.data.toList
      have e : v.s.data.toList.length = v.s.size := Array.length_toList
      simp
      omega
theorem line_len {x : Kv} (hk : validK x.1 = true) (hok : x.2.ok = true) (hr : x.2.rng) : (lineL x).length ≤ 300 := by
  have h1 := print_len hok hr
  have h2 : x.1.size ≤ 32 := by unfold validK at hk; simp at hk; omega
  have e : x.1.data.toList.length = x.1.size := Array.length_toList
  unfold lineL
  simp only [List.length_append, List.length_cons, List.length_nil]
  omega
theorem flat_le : ∀ {l : List Kv}, (∀ x ∈ l, (lineL x).length ≤ 300) → (l.flatMap lineL).length ≤ 300 * l.length
  | [], _ => Nat.le_refl _
  | x :: l, h => by
    have h1 := h x (List.mem_cons_self ..)
    have h2 := flat_le (l := l) fun y hy => h y (List.mem_cons_of_mem _ hy)
    rw [List.flatMap_cons, List.length_append, List.length_cons]
    omega
theorem bytesTo_len {s : St} (h : ∀ x ∈ s.L, (lineL x).length ≤ 300) (hh : (headL s).length ≤ 60) (hn : s.L.length ≤ 262144) (i : Nat) : (bytesTo s i).length ≤ 100000000 := by
  unfold bytesTo
  have h1 := flat_le (l := s.L.take i) fun x hx => h x (List.mem_of_mem_take hx)
  have h2 : (s.L.take i).length ≤ s.L.length := by rw [List.length_take]; omega
  rw [List.length_append]
  omega
theorem head_len {s : St} (h1 : s.parts ≤ 64) (h2 : s.room ≤ 4096) : (headL s).length ≤ 60 := by
  have a := Lib.itoa_length_le (s.parts : Int) (by omega) (by omega)
  have b := Lib.itoa_length_le (s.room : Int) (by omega) (by omega)
  unfold headL
  simp only [List.length_append, List.length_cons, List.length_nil]
  omega
end Go.Proofs.YtphglnenafdkaaaGreatDoor

namespace Go.Proofs.YtphglnenafdkaaaGreatDoor
open Go.RowKit
set_option linter.unusedVariables false
set_option linter.unusedSimpArgs false

/-- a number's text -/
def dg (n : Int) : ByteArray := ⟨(Lib.itoa n).toArray⟩
theorem dg_size {n : Int} (h0 : -9223372036854775808 ≤ n) (h1 : n ≤ 9223372036854775807) : (dg n).size ≤ 21 := by
  have := Lib.itoa_length_le n h0 h1
  unfold dg ByteArray.size
  simpa using this
theorem digits_dg (n : Int) (h0 : -9223372036854775808 ≤ n) (h1 : n ≤ 9223372036854775807) (w : World) (he : Env w) :
    Calls Tryz.prog 41 #[.int .i64 n] w fun e w' => e = .returned (.string (dg n)) ∧ Below w.heap.size w w' := digits_any n h0 h1 w he
theorem isBuf_below {T e : TypeId} {B b : Nat} {bs : List Value} {w w' : World} (h : Lib.IsBuffer T e B b bs w) (hb : Below w.heap.size w w') : Lib.IsBuffer T e B b bs w' := by
  have hlt := h.lt
  obtain ⟨hB, v, lr, hbk, hown, hne⟩ := h
  exact ⟨hB, v, lr, (hb.block b hlt).trans hbk, own_updB hown (Upd.of_below' hb (fun _ => False)) (fun _ _ _ h => h), hne⟩
theorem byteCells_one (l : List UInt8) : ∀ v ∈ Lib.byteCells l, v.oneCell' = true := by
  intro v hv
  obtain ⟨x, _, rfl⟩ := List.mem_map.1 hv
  rfl
theorem head_text (s : St) : (dg s.parts ++ ⟨#[10]⟩ ++ dg s.room ++ ⟨#[10]⟩ : ByteArray).data.toList = headL s := by
  simp [dg, headL, ByteArray.data_append]
/-- a value's text -/
def pt (v : Vl) : ByteArray := ⟨(printL v).toArray⟩
theorem pt_size {v : Vl} (hok : v.ok = true) (hr : v.rng) : (pt v).size ≤ 200 := by
  have := print_len hok hr
  unfold pt ByteArray.size
  simpa using this
theorem line_text (x : Kv) : (x.1 ++ ⟨#[32]⟩ ++ pt x.2 ++ ⟨#[10]⟩ : ByteArray).data.toList = lineL x := by
  simp [pt, lineL, ByteArray.data_append]
theorem own_others {w w' : World} {base b : Nat} {t u : TypeId} {size n : Nat} {v : Value} {xs : List Value} (h : w.ownsRow base t size v n xs) (hk : Lib.OthersKept u (some b) w w') (hb : b < base) (ht : t ≠ u) : w'.ownsRow base t size v n xs := by
  refine ⟨h.1, ?_⟩
  rcases h.2 with hn | ⟨g, cap, cur, rfl, hg, hh, rest⟩
  · exact .inl hn
  · exact .inr ⟨g, cap, cur, rfl, hg, hk g _ hh (fun e => by injection e with e; omega) (fun c fz e => by injection e with _ e; exact ht e), rest⟩
theorem others_below {u : TypeId} {b : Option Nat} {w w' : World} (h : Below w.heap.size w w') : Lib.OthersKept u b w w' := fun k o hk _ _ => (h.block k (Array.getElem?_eq_some_iff.1 hk).1).trans hk
section
variable {S : Nat → Prop} {w : World} {g : Nat} {s : St}
set_option maxRecDepth 100000 in
theorem parts_any (h : PAt S w g s) : Calls Tryz.prog 42 #[.pointer (some ⟨g, 0, none⟩)] w fun e w' => e = .returned (.int .i64 s.parts) ∧ w' = w := by
  obtain ⟨cb, cc, mb, vb, h⟩ := h
  have c1 := h.cells.2.1
  clear h
  go_enter Tryz.func42, Tryz.ntmps42
  go_wp2_with fail
  go_ret
  exact ⟨rfl, rfl⟩
set_option maxRecDepth 100000 in
set_option maxHeartbeats 4000000 in
theorem bytes_any (h : PAt S w g s) (he : Env w) (hr : ∀ x ∈ s.L, x.2.rng) : Calls Tryz.prog 13 #[.pointer (some ⟨g, 0, none⟩)] w fun e w' => ∃ v, e = .returned v ∧ w'.ownsRow w.heap.size 5 1 v (bytesS s).length (Lib.byteCells (bytesS s)) ∧ Below w.heap.size w w' := by
  have HP := hid h
  have HE := hid he
  have HR := hid hr
  have hB0 : Hid (Below w.heap.size w (w.alloc (.cells #[.slice none 0 0, .int .i64 0, .int .i8 0] 83))) := hid ((Below.refl _ _).alloc (Nat.le_refl _) _)
  have hI0 := hid (Lib.fresh_isBuffer 83 5 w)
  clear h he hr
  go_enter Tryz.func13, Tryz.ntmps13
  go_upto_region 4 with fail
  generalize w.alloc (.cells #[.slice none 0 0, .int .i64 0, .int .i8 0] 83) = w1 at *
  have hkeep := hid (show ∀ W, Below w1.heap.size w1 W → W.cell? ⟨g, 0, none⟩ = some (.int .i64 s.room) from fun W hb => by
    obtain ⟨cb, cc, mb, vb, h⟩ := HP.out.below (hB0.out.trans (hb.mono hB0.out.size))
    exact h.cells.1)
  have hkw := hid (show ∀ W, Below w.heap.size w W → W.cell? ⟨g, 0, none⟩ = some (.int .i64 s.room) from fun W hb => by
    obtain ⟨cb, cc, mb, vb, h⟩ := HP.out.below hb
    exact h.cells.1)
  have hkP := hid (show ∀ W, Below w1.heap.size w1 W → PAt S W g s from fun W hb => HP.out.below (hB0.out.trans (hb.mono hB0.out.size)))
  have hkE := hid (show ∀ W, Below w1.heap.size w1 W → Env W from fun W hb => HE.out.below (hB0.out.trans (hb.mono hB0.out.size)))
  have hpr := hid (show (0 : Int) ≤ s.parts ∧ (s.parts : Int) ≤ 64 by have := HP.out.ok.parts; omega)
  have hrr := hid (show (0 : Int) ≤ s.room ∧ (s.room : Int) ≤ 4096 by have := HP.out.ok.room; omega)
  have z1 : (dg s.parts).size ≤ 21 := dg_size (by omega) (by have := hpr.out; omega)
  have z2 : (dg s.room).size ≤ 21 := dg_size (by omega) (by have := hrr.out; omega)
  have z3 : ByteArray.size ⟨#[10]⟩ = 1 := rfl
  have hs1 : ∀ W, (Op.stringOp .add (dg s.parts) ⟨#[10]⟩).run Tryz.prog W = .ok (.string (dg s.parts ++ ⟨#[10]⟩)) W := fun W => run_string_add_sum W _ _ (by omega)
  have hs2 : ∀ W, (Op.stringOp .add (dg s.parts ++ ⟨#[10]⟩) (dg s.room)).run Tryz.prog W = .ok (.string (dg s.parts ++ ⟨#[10]⟩ ++ dg s.room)) W := fun W => run_string_add_sum W _ _ (by simp only [ByteArray.size_append]; omega)
  have hs3 : ∀ W, (Op.stringOp .add (dg s.parts ++ ⟨#[10]⟩ ++ dg s.room) ⟨#[10]⟩).run Tryz.prog W = .ok (.string (dg s.parts ++ ⟨#[10]⟩ ++ dg s.room ++ ⟨#[10]⟩)) W := fun W => run_string_add_sum W _ _ (by simp only [ByteArray.size_append]; omega)
  go_cut [] (fun wx => Lib.IsBuffer 83 5 w.heap.size w.heap.size (Lib.byteCells (headL s)) wx ∧ Below w.heap.size w wx)
  case first =>
    have hbX : Hid (Below w1.heap.size w1 w1.drew) := hid (Below.refl _ _).drew
    go_region_held3 (fun W => W.cell? ⟨g, 0, none⟩ = some (.int .i64 s.room)) (first | exact hkw.out _ hbY.out | exact hkeep.out _ hbX.out | exact hkeep.out _ hbX.out.drew)
      (first
        | (go_at_call 42; refine (parts_any (hkP.out _ hbX.out)).mono ?_; rintro e wb ⟨rfl, hwq⟩; obtain rfl := hwq.symm)
        | (go_at_call 41; refine (digits_dg _ (by have := hpr.out; have := hrr.out; omega) (by have := hpr.out; have := hrr.out; omega) _ (hkE.out _ hbX.out)).mono ?_; rintro e wb ⟨rfl, hbb⟩; have hbX : Hid (Below w1.heap.size w1 wb) := hid (hbX.out.trans (hbb.mono hbX.out.size)); clear hbb)
        | (go_at_call 40; refine (Buffer_WriteString_k w.heap.size w.heap.size [] _ _ (isBuf_below hI0.out hbX.out) (hB0.out.trans (hbX.out.mono hB0.out.size)).size (by simp) (by simp only [List.length_nil, ByteArray.size_append, z3]; omega)).mono ?_; rintro e wb ⟨rfl, hIb0, hbb, _⟩; have hIb := hid hIb0; have hbY : Hid (Below w.heap.size w wb) := hid ((hB0.out.trans (hbX.out.mono hB0.out.size)).trans hbb); clear hbb hIb0))
    all_goals go_wp2_with fail
    all_goals go_meet
    all_goals exact ⟨by have h := hIb.out; rw [head_text] at h; simpa using h, hbY.out⟩
  case rest =>
    obtain ⟨hI1, hB1⟩ := hcut
    have HI := hid hI1
    have HB := hid hB1
    have hks := hid (keys_any (HP.out.below hB1))
    clear hI1 hB1 hs1 hs2 hs3 z1 z2 hkeep hkw hkP hkE hB0 hI0
    go_wp2_with fail
    refine hks.out.mono ?_
    rintro e wk ⟨A, c, rfl, hown0, hbk⟩
    have hO := hid hown0
    have hI2 := hid (isBuf_below HI.out hbk)
    have hB2 := hid (HB.out.trans (hbk.mono HB.out.size))
    have hbl := hid (HI.out.lt)
    have hln := hid (bytesTo_len (s := s) (fun x hx => line_len (HP.out.ok.key x hx) (HP.out.ok.val x hx) (HR.out x hx)) (head_len (by have := HP.out.ok.parts; omega) (by have := HP.out.ok.room; omega)) HP.out.ok.len)
    clear hown0 hbk HI HB hks
    generalize hlL : s.L.length = n at *
    have hnn : (n : Int) ≤ 262144 := by have := HP.out.ok.len; omega
    go_wp2_with fail
    go_loopw [25] (fun v wr => ∃ i : Nat, v = .int .i64 i ∧ i ≤ n ∧ Lib.IsBuffer 83 5 w.heap.size w.heap.size (Lib.byteCells (bytesTo s i)) wr ∧ Below w.heap.size w wr ∧ Lib.OthersKept 5 (some w.heap.size) wk wr) (fun v _ => n - (intOf v).toNat)
    case atStart => exact ⟨0, rfl, Nat.zero_le _, by rw [bytesTo_zero]; exact hI2.out, hB2.out, .refl _ _ _⟩
    case round =>
      obtain ⟨i, rfl, hi, hI0, hB0, hK0⟩ := hrel
      have hI := hid hI0
      have hB := hid hB0
      have hK := hid hK0
      by_cases hlt : i < n
      · have i1 : (i : Int) < (n : Int) := by omega
        have hlt' : i < s.L.length := by omega
        obtain ⟨x, hx⟩ : ∃ x, x = s.L[i] := ⟨_, rfl⟩
        have hmem : x ∈ s.L := by rw [hx]; exact List.getElem_mem hlt'
        have hOr := own_others hO.out hK0 hbl.out (by decide)
        obtain ⟨b, o, rfl, _, _, y0⟩ := rd_strs (ks := s.L.map (·.1)) (i := i) (by rw [List.length_map, hlL]; exact Rd.of_own' hOr) (by simpa using hlt')
        rw [show (s.L.map (·.1))[i]'(by simpa using hlt') = x.1 by simp [hx]] at y0
        obtain ⟨cb, cc, mb, vb, hin⟩ := HP.out.below hB0
        have c2 := hin.cells.2.2
        have hget := hin.get x.1
        rw [valK_mem HP.out.ok.asc hmem] at hget
        have hvk := hid (HP.out.ok.key x hmem)
        have hvo := hid (HP.out.ok.val x hmem)
        have hvr := hid (HR.out x hmem)
        have hstep := hid (bytesTo_step s hlt')
        have hxx := hid hx
        have hpr9 := hid (print_any x.2 wr (by
          rcases ok_forms hvo.out with e | ⟨_, e⟩ | ⟨_, _, e, _⟩
          · rw [e]; decide
          · rw [e]; decide
          · omega) hvr.out (HE.out.below hB0))
        clear hx hI0 hB0 hK0 hOr hin hmem
        go_wp2_with fail
        refine hpr9.out.mono ?_
        rintro e wq ⟨rfl, hbq⟩
        rw [show (⟨(printL x.2).toArray⟩ : ByteArray) = pt x.2 from rfl]
        have hIq := hid (isBuf_below hI.out hbq)
        have hBq := hid (hB.out.trans (hbq.mono hB.out.size))
        have hKq := hid (hK.out.trans (others_below hbq))
        have z1 : x.1.size ≤ 32 := by have := hvk.out; unfold validK at this; simp at this; omega
        have z2 : (pt x.2).size ≤ 200 := pt_size hvo.out hvr.out
        have z3 : ByteArray.size ⟨#[10]⟩ = 1 := rfl
        have z4 : ByteArray.size ⟨#[32]⟩ = 1 := rfl
        have hsz := hid (show (x.1 ++ ⟨#[32]⟩ ++ pt x.2 ++ ⟨#[10]⟩ : ByteArray).size ≤ 1000 by simp only [ByteArray.size_append]; omega)
        have hs1 : ∀ W, (Op.stringOp .add x.1 ⟨#[32]⟩).run Tryz.prog W = .ok (.string (x.1 ++ ⟨#[32]⟩)) W := fun W => run_string_add_sum W _ _ (by omega)
        have hs2 : ∀ W, (Op.stringOp .add (x.1 ++ ⟨#[32]⟩) (pt x.2)).run Tryz.prog W = .ok (.string (x.1 ++ ⟨#[32]⟩ ++ pt x.2)) W := fun W => run_string_add_sum W _ _ (by simp only [ByteArray.size_append]; omega)
        have hs3 : ∀ W, (Op.stringOp .add (x.1 ++ ⟨#[32]⟩ ++ pt x.2) ⟨#[10]⟩).run Tryz.prog W = .ok (.string (x.1 ++ ⟨#[32]⟩ ++ pt x.2 ++ ⟨#[10]⟩)) W := fun W => run_string_add_sum W _ _ (by simp only [ByteArray.size_append]; omega)
        clear hbq z1 z2 z3 z4 y0 c2 hget hI hB hK hpr9
        go_wp2_with fail
        refine (Buffer_WriteString_k w.heap.size w.heap.size _ _ _ hIq.out hBq.out.size (byteCells_one _) (by have h1 := hln.out i; have h2 := hsz.out; rw [Lib.byteCells_length]; omega)).mono ?_
        rintro e wb ⟨rfl, hIb0, hbb, hkb⟩
        have hfin : Hid (∃ i' : Nat, Value.int .i64 ((i : Int) + 1) = .int .i64 i' ∧ i' ≤ n ∧ Lib.IsBuffer 83 5 w.heap.size w.heap.size (Lib.byteCells (bytesTo s i')) wb ∧ Below w.heap.size w wb ∧ Lib.OthersKept 5 (some w.heap.size) wk wb) := hid ⟨i + 1, by simp, hlt, by rw [hstep.out, Lib.byteCells_append, ← hxx.out, ← line_text]; exact hIb0, hBq.out.trans hbb, hKq.out.trans hkb⟩
        have hj : IntKind.i64.wrap ((i : Int) + 1) = (i : Int) + 1 := by rw [IntKind.wrap_i64]; omega
        clear hIb0 hbb hkb hIq hBq hKq hs1 hs2 hs3
        go_wp2_with fail
        go_roundw
        case rel => exact hfin.out
        case measure => simp [intOf]; omega
      · obtain rfl : i = n := by omega
        have hby := Buffer_Bytes w.heap.size w.heap.size _ wr hI.out
        rw [← hlL, bytesTo_all] at hby
        have hby := hid hby
        clear hlt hI0 hB0 hK0
        go_wp2_with fail
        refine hby.out.mono ?_
        rintro e w9 ⟨v, rfl, hov, q, rfl⟩
        have hfin : Hid ((wr.drewN q).ownsRow w.heap.size 5 1 v (bytesS s).length (Lib.byteCells (bytesS s)) ∧ Below w.heap.size w (wr.drewN q)) := hid ⟨by rw [Lib.byteCells_length] at hov; exact hov, below_drewN hB.out q⟩
        clear hov hby
        go_wp2_with fail
        go_ret
        exact ⟨v, rfl, hfin.out.1, hfin.out.2⟩
end
end Go.Proofs.YtphglnenafdkaaaGreatDoor

namespace Go.Proofs.YtphglnenafdkaaaGreatDoor
open Go.RowKit
set_option linter.unusedVariables false
set_option linter.unusedSimpArgs false

section
variable {S : Nat → Prop} {w w' : World} {g : Nat} {s : St}
theorem claimed_b (k : ByteArray) (h : PAt S w g s) (hk : k.size ≤ 9223372036854775806) : Calls Tryz.prog 24 #[.pointer (some ⟨g, 0, none⟩), .string k] w fun e w' => e = .returned (.bool (hasK k s.L)) ∧ Below w.heap.size w w' :=
  (claimed_any k h hk).mono fun e w' ⟨h1, q, h2⟩ => ⟨h1, by rw [h2]; exact below_drewN (Below.refl _ _) q⟩
set_option maxRecDepth 100000 in
set_option maxHeartbeats 4000000 in
theorem claim_any {Sk : Nat → Prop} {A : Option Addr} {c : Nat} (ks : List ByteArray) (h : PAt S w g s) (hr : Rd Sk w 1 A ks.length (strs ks)) (hd : ∀ b, Sk b → ¬ S b) (hs : ∀ k ∈ ks, k.size ≤ 9223372036854775806) (hn : ks.length ≤ 1000000) :
    Calls Tryz.prog 10 #[.pointer (some ⟨g, 0, none⟩), .slice A ks.length c] w fun e w' => e = .returned (.int .i64 (claimE s ks)) ∧ PAt S w' g (claimS s ks) ∧ Upd S w w' := by
  obtain ⟨cb, cc, mb, vb, h⟩ := h
  have hcon := hid (contains_any (c := c) ks hr hs hn)
  have HH := hid h
  have HR := hid hr
  have HS := hid hs
  have hN : (ks.length : Int) ≤ 1000000 := by omega
  clear h hr hs hn
  go_enter Tryz.func10, Tryz.ntmps10
  go_wp2_with fail
  refine hcon.out.mono ?_
  rintro e w2 ⟨rfl, rfl⟩
  clear hcon
  cases hv0 : (ks.any fun k => !validK k) with
  | true =>
    have hfin : Hid (claimE s ks = 30 ∧ PAt S w2 g (claimS s ks)) := hid (by
      have he := claimE_key (s := s) hv0
      exact ⟨he, by rw [claimS_no (by rw [he]; decide)]; exact ⟨_, _, _, _, HH.out⟩⟩)
    clear hv0
    go_wp2_with fail
    go_ret
    exact ⟨by rw [hfin.out.1]; rfl, hfin.out.2, Upd.refl _ _⟩
  | false =>
  have hv := hid hv0
  clear hv0
  go_wp2_with fail
  go_loopw [5] (fun v wr => ∃ (k : Nat), v = .int .i64 k ∧ 1 ≤ k ∧ (k ≤ ks.length ∨ k = 1) ∧ Below w2.heap.size w2 wr ∧ ∀ j (hj : j + 1 < ks.length), j + 1 < k → ltB ks[j] ks[j + 1] = true) (fun v _ => ks.length - (intOf v).toNat)
  case atStart => exact ⟨1, rfl, Nat.le_refl _, .inr rfl, Below.refl _ _, fun j hj h => by omega⟩
  case round =>
    obtain ⟨k, rfl, hk1, hkn, hB0, ha0⟩ := hrel
    have hB := hid hB0
    have ha := hid ha0
    clear hB0 ha0
    by_cases hlt : k < ks.length
    · obtain ⟨j, hjk⟩ : ∃ j, j + 1 = k := ⟨k - 1, by omega⟩
      have hj : j < ks.length := by omega
      have hR2 := HR.out.below_all hB.out
      obtain ⟨b, o, rfl, _, _, hc1⟩ := rd_strs hR2 hj
      obtain ⟨b', o', e, _, _, hc2⟩ := rd_strs hR2 hlt
      injection e with e; injection e with e1 e2; subst e1; subst e2
      have i0 : (j : Int) < (ks.length : Int) := by omega
      have i1 : (k : Int) < (ks.length : Int) := by omega
      have x1 : IntKind.i64.wrap ((k : Int) - 1) = (j : Int) := by rw [IntKind.wrap_i64]; omega
      have hjk := hid hjk
      cases hl0 : ltB ks[j] ks[k] with
      | true =>
        have hl : Op.bytesLess (ks[j]).toList (ks[k]).toList = true := hl0
        have hl1 := hid hl0
        clear hl0 hR2 hk1 hkn
        go_wp2_with fail
        go_quiet (fail)
        go_wp2_with fail
        go_roundw
        case rel => exact ⟨k + 1, by go_num, by omega, .inl hlt, below_drewN hB.out _, fun i hi hik => by
          have e := hjk.out
          by_cases e2 : i = j
          · subst e2
            have := hl1.out
            simp only [← e] at this
            exact this
          · exact ha.out i hi (by omega)⟩
        case measure => simp [intOf]; omega
      | false =>
        have hl : Op.bytesLess (ks[j]).toList (ks[k]).toList = false := hl0
        have hfin : Hid (claimE s ks = 40 ∧ ∀ w', Below w2.heap.size w2 w' → PAt S w' g (claimS s ks)) := hid (by
          have e := hjk.out
          have hr : riseB ks = false := rise_no (k := j) (by omega) (by subst e; exact hl0)
          have he := claimE_rise (s := s) hv.out hr
          exact ⟨he, fun w' hb => by rw [claimS_no (by rw [he]; decide)]; exact ⟨_, _, _, _, HH.out.below hb⟩⟩)
        clear hl0 hR2 hk1 hkn
        go_wp2_with fail
        go_quiet (fail)
        go_wp2_with fail
        go_ret
        exact ⟨by rw [hfin.out.1]; rfl, hfin.out.2 _ (below_drewN hB.out _), .of_below (below_drewN hB.out _) fun k hk h => by omega⟩
    · have hrise := hid (rise_yes fun j hj => ha.out j hj (by omega))
      clear ha hk1 hkn
      have c1 : wr.cell? ⟨g, 1, none⟩ = some (.slice (some ⟨cb, 0, none⟩) s.parts cc) := (HH.out.below hB.out).cells.2.1
      have hmk := make_parts s.parts HH.out.ok.parts.2 wr
      go_upto_region 11 with fail
      have hm0 := IArr.new wr s.parts
      have hB2 : Below w2.heap.size w2 (wr.alloc (.cells (madeCells #[.int .i64 0] s.parts) 3)) := hB.out.alloc hB.out.size _
      have hml : w2.heap.size ≤ wr.heap.size := hB.out.size
      generalize wr.alloc (.cells (madeCells #[.int .i64 0] s.parts) 3) = w3 at *
      generalize wr.heap.size = m at *
      have HM := hid hm0
      have HB3 := hid hB2
      have HL := hid hml
      clear hm0 hB2 hml hmk c1 hB hlt
      go_wp2_with fail
      go_loopw [41] (fun v wr => ∃ (k : Nat), v = .int .i64 k ∧ k ≤ ks.length ∧ IArr wr m s.parts (fun p => (ks.take k).countP fun x => !hasK x s.L && decide (partK s.parts x = p)) ∧ Below w2.heap.size w2 wr) (fun v _ => ks.length - (intOf v).toNat)
      case atStart => exact ⟨0, rfl, Nat.zero_le _, HM.out.congr fun j hj => by simp, HB3.out⟩
      case round =>
        clear HM HB3
        obtain ⟨k, rfl, hk, hm0, hB0⟩ := hrel
        have HM := hid hm0
        have HB := hid hB0
        clear hm0 hB0
        by_cases hlt : k < ks.length
        · have i1 : (k : Int) < (ks.length : Int) := by omega
          obtain ⟨b, o, rfl, _, _, hc1⟩ := rd_strs (HR.out.below_all HB.out) hlt
          have hcl := hid (claimed_b ks[k] ⟨_, _, _, _, HH.out.below HB.out⟩ (HS.out _ (List.getElem_mem hlt)))
          have hpa := hid fun w => part_any ks[k] s.parts w (HS.out _ (List.getElem_mem hlt)) HH.out.ok.parts.1 HH.out.ok.parts.2
          have htk := hid (take_snoc hlt)
          obtain ⟨x, hx⟩ : ∃ x, x = ks[k] := ⟨_, rfl⟩
          rw [← hx] at hc1 hcl hpa htk
          clear hx
          go_wp2_with fail
          refine hcl.out.mono ?_
          rintro e w5 ⟨rfl, hb50⟩
          have HM5 := hid (HM.out.below hb50)
          have HB5 := hid (HB.out.trans (hb50.mono HB.out.size))
          clear hb50 HM HB hcl hc1
          cases hh0 : hasK x s.L with
          | true =>
            have hh := hid hh0
            clear hh0
            go_wp2_with fail
            go_roundw
            case rel => exact ⟨k + 1, by go_num, hlt, HM5.out.congr fun j hj => by rw [htk.out, List.countP_append]; simp [hh.out], HB5.out⟩
            case measure => simp [intOf]; omega
          | false =>
            have hpl := partK_lt x (show 0 < s.parts by have := HH.out.ok.parts; omega)
            have hh := hid hh0
            have c1 : w5.cell? ⟨g, 1, none⟩ = some (.slice (some ⟨cb, 0, none⟩) s.parts cc) := (HH.out.below HB5.out).cells.2.1
            have cf := HM5.out.frozen
            have cp := HM5.out.cell hpl
            have hml := HM5.out.lt
            have hpi : ((partK s.parts x : Nat) : Int) < (s.parts : Int) := by omega
            have hle : (((ks.take k).countP fun y => !hasK y s.L && decide (partK s.parts y = partK s.parts x) : Nat) : Int) ≤ 1000000 := by
              have h1 := List.countP_le_length (p := fun y => !hasK y s.L && decide (partK s.parts y = partK s.parts x)) (l := ks.take k)
              have h2 : (ks.take k).length ≤ ks.length := by simp; omega
              omega
            have hset := hid (fun n => HM5.out.set hpl n)
            obtain ⟨p, hp⟩ : ∃ p, p = partK s.parts x := ⟨_, rfl⟩
            rw [← hp] at cp hpi hle hset hpl
            simp only [← hp] at hpa
            obtain ⟨n, hn⟩ : ∃ n, n = (ks.take k).countP fun y => !hasK y s.L && decide (partK s.parts y = p) := ⟨_, rfl⟩
            rw [← hn] at cp hle
            have x1 : IntKind.i64.wrap ((n : Int) + 1) = (n : Int) + 1 := by rw [IntKind.wrap_i64]; omega
            have hnn := hid hn
            have hpp := hid hp
            have hpl := hid hpl
            clear hn hp hh0 hle hpl
            go_wp2_with fail
            refine (hpa.out _).mono ?_
            rintro e w6 ⟨rfl, rfl⟩
            go_wp2_with fail
            go_roundw
            case rel =>
              refine ⟨k + 1, by go_num, hlt, ?_, HB5.out.setCell (p := ⟨m, p, none⟩) HL.out _⟩
              have := hset.out (n + 1)
              rw [show ((n + 1 : Nat) : Int) = (n : Int) + 1 by omega] at this
              refine this.congr fun j hj => ?_
              rw [htk.out, List.countP_append]
              by_cases e : j = p
              · subst e; rw [if_pos rfl, hnn.out]; simp [hh.out, hpp.out]
              · have : ¬ partK s.parts x = j := fun h => e (by rw [hpp.out, h])
                rw [if_neg e]; simp [this]
            case measure => simp [intOf]; omega
        · obtain rfl : k = ks.length := by omega
          have HM3 : Hid (IArr wr m s.parts (moreK s ks)) := hid (HM.out.congr fun p hp => by simp only [List.take_length]; rfl)
          clear HM
          go_wp2_with fail
          go_loopw [64] (fun v wr => ∃ (k : Nat), v = .int .i64 k ∧ k ≤ s.parts ∧ IArr wr m s.parts (moreK s ks) ∧ Below w2.heap.size w2 wr ∧ ∀ p, p < k → ¬ (0 < moreK s ks p ∧ s.room < cntP s.parts p s.L + moreK s ks p)) (fun v _ => s.parts - (intOf v).toNat)
          case atStart => exact ⟨0, rfl, Nat.zero_le _, HM3.out, HB.out, fun p hp => by omega⟩
          case round =>
            clear HM3 HB hlt hk
            obtain ⟨k, rfl, hk, hm0, hB0, hf0⟩ := hrel
            have HM := hid hm0
            have HB := hid hB0
            have HF := hid hf0
            clear hm0 hB0 hf0
            have hparts : (s.parts : Int) ≤ 64 := by have := HH.out.ok.parts.2; omega
            by_cases hlt : k < s.parts
            · have i1 : (k : Int) < (s.parts : Int) := by omega
              have hP := HH.out.below HB.out
              obtain ⟨c0, c1, _⟩ := hP.cells
              have r1 := hP.rowc k hlt
              have cp := HM.out.cell hlt
              have hsz : ∀ q ty, (Builtin.len_ #[78] ty #[.map (some (mb k))]).run Tryz.prog (wr.drewN q) = .ok (.int .i64 (cntP s.parts k s.L)) (wr.drewN q) := fun q ty => (hP.drewN q).size k hlt ty
              have hsz0 := hsz 0
              have hcn := HH.out.ok.cnt k hlt
              have hrm := HH.out.ok.room
              have hmle : moreK s ks k ≤ ks.length := List.countP_le_length
              have e1 := hid (show moreK s ks k = moreK s ks k from rfl)
              obtain ⟨n, hn⟩ : ∃ n, n = moreK s ks k := ⟨_, rfl⟩
              obtain ⟨d, hd'⟩ : ∃ d, d = cntP s.parts k s.L := ⟨_, rfl⟩
              rw [← hn] at cp hmle
              rw [← hd'] at hsz0 hcn
              simp only [← hd'] at hsz
              have x1 : IntKind.i64.wrap ((d : Int) + (n : Int)) = (d : Int) + (n : Int) := by rw [IntKind.wrap_i64]; omega
              have hnn := hid hn
              have hdd := hid hd'
              have hmm := hid hmle
              by_cases hn0 : 0 < n
              · have t1 : decide ((0 : Int) < (n : Int)) = true := decide_eq_true (by omega)
                have t1n : decide (0 < n) = true := decide_eq_true hn0
                by_cases hfl : s.room < d + n
                · have t2 : decide ((s.room : Int) < (d : Int) + (n : Int)) = true := decide_eq_true (by omega)
                  have t2n : decide (s.room < d + n) = true := decide_eq_true hfl
                  have hfin : Hid (claimE s ks = 5 ∧ ∀ w', Below w2.heap.size w2 w' → PAt S w' g (claimS s ks)) := hid (by
                    have he := claimE_full (s := s) hv.out hrise.out hlt (by rw [← hn]; exact hn0) (by rw [← hn, ← hd']; exact hfl)
                    exact ⟨he, fun w' hb => by rw [claimS_no (by rw [he]; decide)]; exact ⟨_, _, _, _, HH.out.below hb⟩⟩)
                  clear hP hn hd' hcn hrm hmle hn0 hfl
                  go_wp2_with fail
                  go_quiet (fail)
                  go_wp2_with fail
                  go_ret
                  exact ⟨by rw [hfin.out.1]; rfl, hfin.out.2 _ (below_drewN HB.out _), .of_below (below_drewN HB.out _) fun k hk h => by omega⟩
                · have t2 : decide ((s.room : Int) < (d : Int) + (n : Int)) = false := decide_eq_false (by omega)
                  have t2n : decide (s.room < d + n) = false := decide_eq_false hfl
                  have hno := hid hfl
                  clear hP hn hd' hcn hrm hmle hn0 hfl
                  go_wp2_with fail
                  go_quiet (fail)
                  go_wp2_with fail
                  go_roundw
                  case rel =>
                    refine ⟨k + 1, by go_num, hlt, HM.out.below (below_drewN (Below.refl _ _) _), below_drewN HB.out _, fun p hp => ?_⟩
                    by_cases e : p = k
                    · subst e; rw [← hnn.out, ← hdd.out]; exact fun h => hno.out h.2
                    · exact HF.out p (by omega)
                  case measure => simp [intOf]; omega
              · have t1 : decide ((0 : Int) < (n : Int)) = false := decide_eq_false (by omega)
                have t1n : decide (0 < n) = false := decide_eq_false hn0
                have hno := hid hn0
                clear hP hn hd' hcn hrm hmle hn0 hsz hsz0
                go_wp2_with fail
                go_quiet (fail)
                go_wp2_with fail
                go_roundw
                case rel =>
                  refine ⟨k + 1, by go_num, hlt, HM.out.below (below_drewN (Below.refl _ _) _), below_drewN HB.out _, fun p hp => ?_⟩
                  by_cases e : p = k
                  · subst e; rw [← hnn.out]; exact fun h => hno.out h.1
                  · exact HF.out p (by omega)
                case measure => simp [intOf]; omega
            · obtain rfl : k = s.parts := by omega
              have he0 : claimE s ks = 0 := claimE_ok hv.out hrise.out fun p hp => HF.out p (by omega)
              have he := hid he0
              have HP := hid (HH.out.below HB.out)
              have HR2 := hid (HR.out.below_all HB.out)
              have HU : Hid (Upd S w2 wr) := hid (.of_below HB.out fun k hk h => by omega)
              clear he0 HF HM HH HR HB hlt hk hparts
              go_wp2_with fail
              go_loopw [91] (fun v wr => ∃ (k : Nat), v = .int .i64 k ∧ k ≤ ks.length ∧ PIn S wr g { s with L := insAll s.L (ks.take k) } cb cc mb vb ∧ Rd Sk wr 1 A ks.length (strs ks) ∧ Upd S w2 wr) (fun v _ => ks.length - (intOf v).toNat)
              case atStart => exact ⟨0, rfl, Nat.zero_le _, HP.out, HR2.out, HU.out⟩
              case round =>
                have HOk := hid (pre_ok HP.out.ok he.out)
                clear HP HR2 HU
                obtain ⟨k, rfl, hk, hp0, hr0, hu0⟩ := hrel
                have HP := hid hp0
                have HR := hid hr0
                have HU := hid hu0
                clear hp0 hr0 hu0
                by_cases hlt : k < ks.length
                · have i1 : (k : Int) < (ks.length : Int) := by omega
                  obtain ⟨b, o, rfl, _, _, hc1⟩ := rd_strs HR.out hlt
                  have hof := hid (of_any ks[k] HP.out (HS.out _ (List.getElem_mem hlt)))
                  have htk := hid (take_snoc hlt)
                  obtain ⟨x, hx⟩ : ∃ x, x = ks[k] := ⟨_, rfl⟩
                  rw [← hx] at hc1 hof htk
                  clear hx
                  go_wp2_with fail
                  refine hof.out.mono ?_
                  rintro e w5 ⟨rfl, q, hq⟩
                  have HP5 : Hid (PIn S w5 g { s with L := insAll s.L (ks.take k) } cb cc mb vb) := hid (by rw [hq]; exact HP.out.drewN q)
                  have HR5 : Hid (Rd Sk w5 1 (some ⟨b, o, none⟩) ks.length (strs ks)) := hid (by rw [hq]; exact HR.out.drewN q)
                  have HU5 : Hid (Upd S w2 w5) := hid (by rw [hq]; exact HU.out.drewN q)
                  clear HP HR HU hof hc1 hq
                  have hpl := partK_lt x (show 0 < s.parts by have := HP5.out.ok.parts.1; exact this)
                  obtain ⟨w6, hmu0, hm6, hg6, _⟩ := (HP5.out.cl (partK s.parts x) hpl).update Tryz.underlying78 x (.int .i64 1)
                  have hmu : (Instr.mapUpdate 78 (.map (some (mb (partK s.parts x)))) (.string x) (.int .i64 1)).run Tryz.prog w5 = .ok () w6 := hmu0
                  have hok2 := HOk.out (k + 1)
                  rw [htk.out, insAll_snoc] at hok2
                  obtain ⟨hP6, hU6⟩ := HP5.out.ins (k := x) rfl hg6 hm6 hok2
                  have HP6 := hid hP6
                  have HU6 := hid (HU5.out.trans hU6 fun _ _ h => h)
                  have HR6 := hid (HR5.out.upd hU6 hd)
                  clear hP6 hU6 hg6 hm6 hok2 hmu0 hpl HP5 HU5 HR5
                  go_wp2_with fail
                  go_roundw
                  case rel => exact ⟨k + 1, by go_num, hlt, by rw [htk.out, insAll_snoc]; exact HP6.out, HR6.out, HU6.out⟩
                  case measure => simp [intOf]; omega
                · obtain rfl : k = ks.length := by omega
                  have hfin : Hid (claimE s ks = 0 ∧ PAt S wr g (claimS s ks)) := hid ⟨he.out, by
                    rw [claimS_yes he.out]
                    have := HP.out
                    rw [List.take_length] at this
                    exact ⟨_, _, _, _, this⟩⟩
                  clear HP
                  go_wp2_with fail
                  go_ret
                  exact ⟨by rw [hfin.out.1]; rfl, hfin.out.2, HU.out⟩
end
end Go.Proofs.YtphglnenafdkaaaGreatDoor

namespace Go.Proofs.YtphglnenafdkaaaGreatDoor
open Go.RowKit
set_option linter.unusedVariables false
set_option linter.unusedSimpArgs false

def wr0 : Wr := ⟨⟨#[]⟩, false, vl0⟩
def wrCells (ws : List Wr) : List Value := ws.flatMap fun x => [.string x.key, .bool x.gone, .int .i64 x.v.k, .int .i64 x.v.n, .string x.v.s]
theorem wrCells_at : ∀ {L : List Wr} {i : Nat} {x : Wr}, L[i]? = some x → (wrCells L)[i * 5]? = some (.string x.key) ∧ (wrCells L)[i * 5 + 1]? = some (.bool x.gone) ∧ (wrCells L)[i * 5 + 2]? = some (.int .i64 x.v.k) ∧ (wrCells L)[i * 5 + 3]? = some (.int .i64 x.v.n) ∧ (wrCells L)[i * 5 + 4]? = some (.string x.v.s) := by
  intro L
  induction L with
  | nil => intro i x h; simp at h
  | cons y l ih =>
    intro i x h
    have e : wrCells (y :: l) = .string y.key :: .bool y.gone :: .int .i64 y.v.k :: .int .i64 y.v.n :: .string y.v.s :: wrCells l := rfl
    rw [e]
    cases i with
    | zero => simp at h; subst h; exact ⟨rfl, rfl, rfl, rfl, rfl⟩
    | succ i =>
      simp only [List.getElem?_cons_succ] at h
      obtain ⟨h1, h2, h3, h4, h5⟩ := ih h
      rw [show (i + 1) * 5 = i * 5 + 1 + 1 + 1 + 1 + 1 by omega]
      simp only [List.getElem?_cons_succ]
      exact ⟨h1, h2, h3, h4, h5⟩
/-- a row of writes, cell by cell -/
theorem rd_wr {S : Nat → Prop} {w : World} {A : Option Addr} {L : List Wr} (h : Rd S w 5 A L.length (wrCells L)) {i : Nat} (hi : i < L.length) : ∃ b o, A = some ⟨b, o, none⟩ ∧ S b ∧ b < w.heap.size ∧ w.cell? ⟨b, o + i * 5, none⟩ = some (.string (L[i]).key) ∧ w.cell? ⟨b, o + i * 5 + 1, none⟩ = some (.bool (L[i]).gone) ∧ w.cell? ⟨b, o + i * 5 + 2, none⟩ = some (.int .i64 (L[i]).v.k) ∧ w.cell? ⟨b, o + i * 5 + 3, none⟩ = some (.int .i64 (L[i]).v.n) ∧ w.cell? ⟨b, o + i * 5 + 4, none⟩ = some (.string (L[i]).v.s) := by
  obtain ⟨b, o, rfl, hS, hl, hc⟩ := h.at_ hi
  obtain ⟨h1, h2, h3, h4, h5⟩ := wrCells_at (L := L) (i := i) (x := L[i]) (by simp [hi])
  exact ⟨b, o, rfl, hS, hl, hc _ _ h1, by rw [Nat.add_assoc]; exact hc _ _ h2, by rw [Nat.add_assoc]; exact hc _ _ h3, by rw [Nat.add_assoc]; exact hc _ _ h4, by rw [Nat.add_assoc]; exact hc _ _ h5⟩
section
variable {s : St} {ws : List Wr}
theorem wrE_at {k : Nat} {x y : Wr} (hx : ws.getD k wr0 = x) (hy : ws.getD (k - 1) wr0 = y) : wrE s ws k = if validK x.key = false then 30 else if 0 < k ∧ ltB y.key x.key = false then 40 else if hasK x.key s.L = false then 41 else if x.v.ok = false then 20 else if x.gone = true ∧ x.v ≠ vl0 then 2 else 0 := by
  unfold wr0 at hx hy
  unfold wrE
  simp only [hx, hy]
theorem scan_first {f : Nat → Int} {e : Int} (he : e ≠ 0) : ∀ {n i k : Nat}, (∀ j, i ≤ j → j < k → f j = 0) → f k = e → i ≤ k → k < i + n → (scan f n i).1 = e := by
  intro n
  induction n with
  | zero => intro i k _ _ h1 h2; omega
  | succ n ih =>
    intro i k h1 h2 h3 h4
    unfold scan
    by_cases e2 : i = k
    · subst e2
      rw [if_neg (by rw [h2]; exact he)]; exact h2
    · rw [if_pos (h1 i (Nat.le_refl _) (by omega))]
      exact ih (fun j hj => h1 j (by omega)) h2 (by omega) (by omega)
theorem applyE_first {e : Int} (he : e ≠ 0) {k : Nat} (h1 : ∀ j, j < k → wrE s ws j = 0) (h2 : wrE s ws k = e) (hk : k < ws.length) : applyE s ws = e := scan_first he (fun j _ h => h1 j h) h2 (Nat.zero_le _) (by omega)
theorem applyE_zero (h1 : ∀ j, j < ws.length → wrE s ws j = 0) : applyE s ws = 0 := (scan_zero _ _ _).2 fun j _ h => h1 j (by omega)
end
section
variable {S : Nat → Prop} {w w' : World} {g : Nat} {s : St}
set_option maxRecDepth 100000 in
set_option maxHeartbeats 4000000 in
theorem may_any {Sk : Nat → Prop} {A : Option Addr} {c : Nat} (ws : List Wr) (h : PAt S w g s) (hr : Rd Sk w 5 A ws.length (wrCells ws)) (hs : ∀ x ∈ ws, x.key.size ≤ 9223372036854775806 ∧ x.v.s.size ≤ 9223372036854775806) (hn : ws.length ≤ 1000000) :
    Calls Tryz.prog 39 #[.pointer (some ⟨g, 0, none⟩), .slice A ws.length c] w fun e w' => e = .returned (.int .i64 (applyE s ws)) ∧ Below w.heap.size w w' := by
  have HH := hid h
  have HR := hid hr
  have HS := hid hs
  have hgd := guardVal
  have hN : (ws.length : Int) ≤ 1000000 := by omega
  clear h hr hs hn
  go_enter Tryz.func39, Tryz.ntmps39
  go_wp2_with fail
  go_loopw [9] (fun v wr => ∃ (k : Nat), v = .int .i64 k ∧ k ≤ ws.length ∧ Below w.heap.size w wr ∧ ∀ j, j < k → wrE s ws j = 0) (fun v _ => ws.length - (intOf v).toNat)
  case atStart => exact ⟨0, rfl, Nat.zero_le _, Below.refl _ _, fun j h => by omega⟩
  case round =>
    obtain ⟨k, rfl, hk, hB0, ha0⟩ := hrel
    have hB := hid hB0
    have ha := hid ha0
    clear hB0 ha0
    by_cases hlt : k < ws.length
    · have i1 : (k : Int) < (ws.length : Int) := by omega
      obtain ⟨b, o, rfl, _, hbl, c0, c1, c2, c3, c4⟩ := rd_wr (HR.out.below_all hB.out) hlt
      obtain ⟨hks, hvs⟩ := HS.out _ (List.getElem_mem hlt)
      obtain ⟨x, hx⟩ : ∃ x, x = ws[k] := ⟨_, rfl⟩
      rw [← hx] at c0 c1 c2 c3 c4 hks hvs
      obtain ⟨y, hy⟩ : ∃ y, ws.getD (k - 1) wr0 = y := ⟨_, rfl⟩
      have hxe : Hid (ws.getD k wr0 = x) := hid (by rw [hx]; simp [List.getD_eq_getElem?_getD, hlt])
      have hye := hid hy
      have hE := hid (wrE_at (s := s) hxe.out hy)
      clear hx hy
      go_upto_region 4 with fail
      have kB0 := Blk.new wr 40 #[.string x.key, .bool x.gone, .int .i64 x.v.k, .int .i64 x.v.n, .string x.v.s]
      have hB2 : Below wr.heap.size wr (wr.alloc (.cells #[.string x.key, .bool x.gone, .int .i64 x.v.k, .int .i64 x.v.n, .string x.v.s] 40)) := (Below.refl _ _).alloc (Nat.le_refl _) _
      have HB2 := hid (hB.out.trans (hB2.mono hB.out.size))
      generalize wr.alloc (.cells #[.string x.key, .bool x.gone, .int .i64 x.v.k, .int .i64 x.v.n, .string x.v.s] 40) = w2 at *
      have KB := hid kB0
      have Bc := hid hbl
      generalize wr.heap.size = m at *
      clear kB0 hB2 c0 c1 c2 c3 c4 hbl hB
      have x0 : w2.cell? ⟨m, 0, none⟩ = some (.string x.key) := KB.out.cell 0
      have hvk := hid (validk_any x.key w2 hks)
      go_wp2_with fail
      refine hvk.out.mono ?_
      rintro e w3 ⟨rfl, rfl⟩
      clear hvk
      cases hv0 : validK x.key with
      | false =>
        have hfin : Hid (applyE s ws = 30) := hid (applyE_first (by decide) (fun j hj => ha.out j hj) (by rw [hE.out, if_pos hv0]) hlt)
        clear hv0 hE
        go_wp2_with fail
        go_ret
        exact ⟨by rw [hfin.out]; rfl, HB2.out⟩
      | true =>
      have hv := hid hv0
      clear hv0
      have x0 : w3.cell? ⟨m, 0, none⟩ = some (.string x.key) := KB.out.cell 0
      go_upto_region 6 with fail
      by_cases hbad : 0 < k ∧ ltB y.key x.key = false
      · obtain ⟨hk0, hl0⟩ := hbad
        have hfin : Hid (applyE s ws = 40) := hid (applyE_first (by decide) (fun j hj => ha.out j hj) (by rw [hE.out, if_neg (by simp [hv.out]), if_pos ⟨hk0, hl0⟩]) hlt)
        obtain ⟨j, hjk⟩ : ∃ j, j + 1 = k := ⟨k - 1, by omega⟩
        have hj : j < ws.length := by omega
        obtain ⟨b', o', e, _, _, d0, _⟩ := rd_wr (HR.out.below_all HB2.out) hj
        injection e with e; injection e with e1 e2; subst e1; subst e2
        have hyj : ws[j] = y := by
          have := hye.out
          rw [show k - 1 = j by omega] at this
          rw [← this]; simp [List.getD_eq_getElem?_getD, hj]
        rw [hyj] at d0
        have i0 : (j : Int) < (ws.length : Int) := by omega
        have t1 : decide ((0 : Int) < (k : Int)) = true := decide_eq_true (by omega)
        have t1n : decide (0 < k) = true := decide_eq_true hk0
        have x1 : IntKind.i64.wrap ((k : Int) - 1) = (j : Int) := by rw [IntKind.wrap_i64]; omega
        have hl : Op.bytesLess y.key.toList x.key.toList = false := hl0
        clear hl0 hk0 hjk hyj hE
        go_quiet (fail)
        go_wp2_with fail
        go_ret
        exact ⟨by rw [hfin.out]; rfl, below_drewN HB2.out _⟩
      have hnr := hid hbad
      clear hbad
      go_cut [19] (fun v wx => v = .bool false ∧ ∃ q, wx = w3.drewN q)
      case first =>
        by_cases hk0 : 0 < k
        · obtain ⟨j, hjk⟩ : ∃ j, j + 1 = k := ⟨k - 1, by omega⟩
          have hj : j < ws.length := by omega
          obtain ⟨b', o', e, _, _, d0, _⟩ := rd_wr (HR.out.below_all HB2.out) hj
          injection e with e; injection e with e1 e2; subst e1; subst e2
          have hyj : ws[j] = y := by
            have := hye.out
            rw [show k - 1 = j by omega] at this
            rw [← this]; simp [List.getD_eq_getElem?_getD, hj]
          rw [hyj] at d0
          have i0 : (j : Int) < (ws.length : Int) := by omega
          have t1 : decide ((0 : Int) < (k : Int)) = true := decide_eq_true (by omega)
          have t1n : decide (0 < k) = true := decide_eq_true hk0
          have x1 : IntKind.i64.wrap ((k : Int) - 1) = (j : Int) := by rw [IntKind.wrap_i64]; omega
          have hl : Op.bytesLess y.key.toList x.key.toList = true := by
            have := hnr.out
            cases h : ltB y.key x.key with
            | true => exact h
            | false => exact absurd ⟨hk0, h⟩ this
          clear hk0 hjk hyj hE hnr
          go_quiet (fail)
          go_wp2_with fail
          go_meet
          exact ⟨rfl, _, rfl⟩
        · have t1 : decide ((0 : Int) < (k : Int)) = false := decide_eq_false (by omega)
          have t1n : decide (0 < k) = false := decide_eq_false hk0
          clear hk0 hE hnr
          go_quiet (fail)
          go_wp2_with fail
          go_meet
          exact ⟨rfl, _, rfl⟩
      case rest =>
        obtain ⟨rfl, q, hq⟩ := hcut
        have KB3 : Hid (Blk wc m 40 #[.string x.key, .bool x.gone, .int .i64 x.v.k, .int .i64 x.v.n, .string x.v.s]) := hid (by rw [hq]; exact KB.out)
        have HB3 : Hid (Below w.heap.size w wc) := hid (by rw [hq]; exact below_drewN HB2.out q)
        clear hq x0 KB HB2
        have x0 : wc.cell? ⟨m, 0, none⟩ = some (.string x.key) := KB3.out.cell 0
        have hcl := hid (claimed_b x.key (HH.out.below HB3.out) hks)
        go_wp2_with fail
        refine hcl.out.mono ?_
        rintro e w4 ⟨rfl, hb40⟩
        have KB4 := hid (KB3.out.below_all hb40)
        have HB4 := hid (HB3.out.trans (hb40.mono HB3.out.size))
        clear hb40 hcl x0 KB3 HB3
        cases hc0 : hasK x.key s.L with
        | false =>
          have hfin : Hid (applyE s ws = 41) := hid (applyE_first (by decide) (fun j hj => ha.out j hj) (by rw [hE.out, if_neg (by simp [hv.out]), if_neg hnr.out, if_pos hc0]) hlt)
          clear hE hc0
          go_wp2_with fail
          go_ret
          exact ⟨by rw [hfin.out]; rfl, HB4.out⟩
        | true =>
        have hc := hid hc0
        clear hc0
        have x2 : w4.cell? ⟨m, 2, none⟩ = some (.int .i64 x.v.k) := KB4.out.cell 2
        have x3 : w4.cell? ⟨m, 3, none⟩ = some (.int .i64 x.v.n) := KB4.out.cell 3
        have x4 : w4.cell? ⟨m, 4, none⟩ = some (.string x.v.s) := KB4.out.cell 4
        have hva := hid (valid_any x.v w4 hvs)
        go_wp2_with fail
        refine hva.out.mono ?_
        rintro e w5 ⟨rfl, hb50⟩
        have KB5 := hid (KB4.out.below_all hb50)
        have HB5 := hid (HB4.out.trans (hb50.mono HB4.out.size))
        clear hb50 hva x2 x3 x4 KB4 HB4
        cases ho0 : x.v.ok with
        | false =>
          have hfin : Hid (applyE s ws = 20) := hid (applyE_first (by decide) (fun j hj => ha.out j hj) (by rw [hE.out, if_neg (by simp [hv.out]), if_neg hnr.out, if_neg (by simp [hc.out]), if_pos ho0]) hlt)
          clear hE ho0
          go_wp2_with fail
          go_ret
          exact ⟨by rw [hfin.out]; rfl, HB5.out⟩
        | true =>
        have ho := hid ho0
        clear ho0
        have x1 : w5.cell? ⟨m, 1, none⟩ = some (.bool x.gone) := KB5.out.cell 1
        have x2 : w5.cell? ⟨m, 2, none⟩ = some (.int .i64 x.v.k) := KB5.out.cell 2
        have x3 : w5.cell? ⟨m, 3, none⟩ = some (.int .i64 x.v.n) := KB5.out.cell 3
        have x4 : w5.cell? ⟨m, 4, none⟩ = some (.string x.v.s) := KB5.out.cell 4
        have hnz0 : ∀ w', (binOp .neq 38 (.agg #[.int .i64 x.v.k, .int .i64 x.v.n, .string x.v.s]) (.agg #[.int .i64 0, .int .i64 0, .string ⟨#[]⟩])).run Tryz.prog w' = .ok (.bool (!decide (x.v = vl0))) w' := fun w' => by
          rw [run_neq_struct, show (⟨#[]⟩ : ByteArray) = vl0.s from rfl, show (Value.int .i64 0) = .int .i64 vl0.k from rfl]
          have := run_eqVal x.v vl0 w'
          rw [show (.int .i64 vl0.k : Value) = .int .i64 vl0.n from rfl] at this ⊢
          rw [this]; rfl
        cases hg0 : x.gone with
        | false =>
          have hz : Hid (wrE s ws k = 0) := hid (by rw [hE.out, if_neg (by simp [hv.out]), if_neg hnr.out, if_neg (by simp [hc.out]), if_neg (by simp [ho.out]), if_neg (by simp [hg0])])
          rw [hg0] at x1
          clear hE hnz0 hg0
          go_wp2_with fail
          go_roundw
          case rel => exact ⟨k + 1, by go_num, hlt, HB5.out, fun j hj => by
            by_cases e : j = k
            · subst e; exact hz.out
            · exact ha.out j (by omega)⟩
          case measure => simp [intOf]; omega
        | true =>
          rw [hg0] at x1
          cases hz0 : decide (x.v = vl0) with
          | true =>
            have hz : Hid (wrE s ws k = 0) := hid (by rw [hE.out, if_neg (by simp [hv.out]), if_neg hnr.out, if_neg (by simp [hc.out]), if_neg (by simp [ho.out]), if_neg (by simp [of_decide_eq_true hz0])])
            have hnz := hnz0
            rw [hz0] at hnz
            clear hE hnz0 hg0 hz0
            go_wp2_with fail
            go_roundw
            case rel => exact ⟨k + 1, by go_num, hlt, HB5.out, fun j hj => by
              by_cases e : j = k
              · subst e; exact hz.out
              · exact ha.out j (by omega)⟩
            case measure => simp [intOf]; omega
          | false =>
            have hfin : Hid (applyE s ws = 2) := hid (applyE_first (by decide) (fun j hj => ha.out j hj) (by rw [hE.out, if_neg (by simp [hv.out]), if_neg hnr.out, if_neg (by simp [hc.out]), if_neg (by simp [ho.out]), if_pos ⟨hg0, of_decide_eq_false hz0⟩]) hlt)
            have hnz := hnz0
            rw [hz0] at hnz
            clear hE hnz0 hg0 hz0
            go_wp2_with fail
            go_ret
            exact ⟨by rw [hfin.out]; rfl, HB5.out⟩
    · obtain rfl : k = ws.length := by omega
      have hfin : Hid (applyE s ws = 0) := hid (applyE_zero fun j hj => ha.out j hj)
      go_wp2_with fail
      go_ret
      exact ⟨by rw [hfin.out]; rfl, hB.out⟩
end
end Go.Proofs.YtphglnenafdkaaaGreatDoor

namespace Go.Proofs.YtphglnenafdkaaaGreatDoor
open Go.RowKit
set_option linter.unusedVariables false
set_option linter.unusedSimpArgs false

section
variable {S : Nat → Prop} {w w' : World} {g cb cc vb : Nat} {mb : Nat → Nat} {s : St}
/-- a key gets a value: the values' map at last says what the new values are -/
theorem PIn.up {k : ByteArray} {v : Vl} (h : PIn S w g s cb cc mb vb) (hU : Upd (fun j => j = vb) w w') (hk : hasK k s.L = true) (hm : MapF strE w' vb fun y => if y = k then (if v.k = 0 then none else some (.agg #[.int .i64 v.k, .int .i64 v.n, .string v.s])) else Dv s.L y) (hok : St.Ok { s with L := upK k v s.L }) :
    PIn S w' g { s with L := upK k v s.L } cb cc mb vb ∧ Upd S w w' := by
  obtain ⟨cs, h1, h2⟩ := h.row
  have hne : ∀ {b t cs}, Blk w b t cs → ¬ b = vb := fun hb e => h.vals.ne_blk hb e.symm
  refine ⟨⟨h.blk.upd hU (hne h.blk), ⟨cs, h1.upd hU (hne h1), h2⟩, fun q hq => ?_, h.inj, ?_, h.vne, h.inS, fun j hj => Nat.lt_of_lt_of_le (h.lt j hj) hU.size, hok⟩, hU.mono fun j _ hj => hj ▸ h.inS.2.2.1⟩
  · show MapF strE w' (mb q) (Dc (upK k v s.L) s.parts q)
    refine ((h.cl q hq).upd hU (h.vne q hq)).congr fun y => ?_
    unfold Dc
    rw [hasK_up]
  · refine hm.congr fun y => ?_
    show _ = Dv (upK k v s.L) y
    unfold Dv
    rw [valK_up]
    by_cases e : y = k
    · subst e; simp [hk]
    · have : ¬ k = y := fun h => e h.symm
      simp [e, this]
theorem up_ok1 (h : s.Ok) {k : ByteArray} {v : Vl} (hk : validK k = true) (hv : v.ok = true) : St.Ok { s with L := upK k v s.L } := by
  refine ⟨h.parts, h.room, up_asc h.asc, fun x hx => ?_, fun x hx => ?_, fun p hp => ?_⟩
  · rcases up_mem hx with ⟨e, _⟩ | hx
    · rw [e]; exact hk
    · exact h.key x hx
  · rcases up_mem hx with ⟨_, e⟩ | hx
    · rw [e]; exact hv
    · exact h.val x hx
  · show cntP s.parts p (upK k v s.L) ≤ s.room
    rw [cnt_up]; exact h.cnt p hp
theorem upAll_snoc {L : List Kv} (l : List Wr) (x : Wr) : upAll L (l ++ [x]) = upK x.key x.v (upAll L l) := by unfold upAll; rw [List.foldl_append]; rfl
theorem upAll_has {j : ByteArray} {L : List Kv} {ws : List Wr} : hasK j (upAll L ws) = hasK j L := has_keys upAll_keys
theorem applyS_yes {ws : List Wr} (h : applyE s ws = 0) : applyS s ws = { s with L := upAll s.L ws } := by unfold applyS; rw [if_pos h]
theorem applyS_no {ws : List Wr} (h : applyE s ws ≠ 0) : applyS s ws = s := by unfold applyS; rw [if_neg h]
set_option maxRecDepth 100000 in
set_option maxHeartbeats 4000000 in
theorem apply_any {Sk : Nat → Prop} {A : Option Addr} {c : Nat} (ws : List Wr) (h : PAt S w g s) (hr : Rd Sk w 5 A ws.length (wrCells ws)) (hd : ∀ b, Sk b → ¬ S b) (hs : ∀ x ∈ ws, x.key.size ≤ 9223372036854775806 ∧ x.v.s.size ≤ 9223372036854775806) (hn : ws.length ≤ 1000000) :
    Calls Tryz.prog 12 #[.pointer (some ⟨g, 0, none⟩), .slice A ws.length c] w fun e w' => e = .returned (.int .i64 (applyE s ws)) ∧ PAt S w' g (applyS s ws) ∧ Upd S w w' := by
  have hmay := hid (may_any (c := c) ws h hr hs hn)
  obtain ⟨cb, cc, mb, vb, h⟩ := h
  have HH := hid h
  have HR := hid hr
  have hN : (ws.length : Int) ≤ 1000000 := by omega
  clear h hr hs hn
  go_enter Tryz.func12, Tryz.ntmps12
  go_wp2_with fail
  refine hmay.out.mono ?_
  rintro e w2 ⟨rfl, hb20⟩
  have HB2 := hid hb20
  clear hmay hb20
  by_cases he0 : applyE s ws = 0
  rotate_left
  · have tt : (applyE s ws != 0) = true := by simpa using he0
    have hfin : Hid (PAt S w2 g (applyS s ws)) := hid (by rw [applyS_no he0]; exact ⟨_, _, _, _, HH.out.below HB2.out⟩)
    clear he0
    go_wp2_with fail
    go_ret
    exact ⟨rfl, hfin.out, .of_below HB2.out fun k hk h => by omega⟩
  have he := hid he0
  have HP := hid (HH.out.below HB2.out)
  have HR2 := hid (HR.out.below_all HB2.out)
  have hWS := hid HB2.out.size
  have HU : Hid (Upd S w w2) := hid (.of_below HB2.out fun k hk h => by omega)
  rw [he0]
  clear he0 HH HR HB2
  go_wp2_with fail
  go_loopw [18] (fun v wr => ∃ (k : Nat), v = .int .i64 k ∧ k ≤ ws.length ∧ PIn S wr g { s with L := upAll s.L (ws.take k) } cb cc mb vb ∧ Rd Sk wr 5 A ws.length (wrCells ws) ∧ Upd S w wr) (fun v _ => ws.length - (intOf v).toNat)
  case atStart => exact ⟨0, rfl, Nat.zero_le _, HP.out, HR2.out, HU.out⟩
  case round =>
    clear HP HR2 HU
    obtain ⟨k, rfl, hk, hp0, hr0, hu0⟩ := hrel
    have HP := hid hp0
    have HR := hid hr0
    have HU := hid hu0
    clear hp0 hr0 hu0
    by_cases hlt : k < ws.length
    · have i1 : (k : Int) < (ws.length : Int) := by omega
      obtain ⟨b, o, rfl, hSkb, hbl, c0, c1, c2, c3, c4⟩ := rd_wr HR.out hlt
      have hz := hid (apply_zero he.out _ (List.getElem_mem hlt))
      have htk := hid (take_snoc hlt)
      obtain ⟨x, hx⟩ : ∃ x, x = ws[k] := ⟨_, rfl⟩
      rw [← hx] at c0 c1 c2 c3 c4 hz htk
      clear hx
      go_upto_region 9 with fail
      have kB0 := Blk.new wr 40 #[.string x.key, .bool x.gone, .int .i64 x.v.k, .int .i64 x.v.n, .string x.v.s]
      have hB2 : Below wr.heap.size wr (wr.alloc (.cells #[.string x.key, .bool x.gone, .int .i64 x.v.k, .int .i64 x.v.n, .string x.v.s] 40)) := (Below.refl _ _).alloc (Nat.le_refl _) _
      have HP2 := hid (HP.out.below hB2)
      have HR2 := hid (HR.out.below_all hB2)
      have HU2 := hid (HU.out.trans (Upd.of_below (M := S) hB2 fun k hk h => by omega) fun _ _ h => h)
      have hvl := hid (HP.out.vals.lt)
      generalize wr.alloc (.cells #[.string x.key, .bool x.gone, .int .i64 x.v.k, .int .i64 x.v.n, .string x.v.s] 40) = w3 at *
      have KB := hid kB0
      have hvm : Hid (vb ≠ wr.heap.size) := hid (by have := hvl.out; omega)
      generalize wr.heap.size = m at *
      clear kB0 hB2 c0 c1 c2 c3 c4 hbl HP HR HU hvl
      have x0 : w3.cell? ⟨m, 0, none⟩ = some (.string x.key) := KB.out.cell 0
      have x2 : w3.cell? ⟨m, 2, none⟩ = some (.int .i64 x.v.k) := KB.out.cell 2
      have x3 : w3.cell? ⟨m, 3, none⟩ = some (.int .i64 x.v.n) := KB.out.cell 3
      have x4 : w3.cell? ⟨m, 4, none⟩ = some (.string x.v.s) := KB.out.cell 4
      have g2 : w3.cell? ⟨g, 2, none⟩ = some (.map (some vb)) := HP2.out.cells.2.2
      obtain ⟨w4, hmu0, hm40, hg40, _⟩ := (HP2.out.drewN 1).vals.update Tryz.underlying74 x.key (.agg #[.int .i64 x.v.k, .int .i64 x.v.n, .string x.v.s])
      have hmu : (Instr.mapUpdate 74 (.map (some vb)) (.string x.key) (.agg #[.int .i64 x.v.k, .int .i64 x.v.n, .string x.v.s])).run Tryz.prog w3.drew = .ok () w4 := hmu0
      have hu40 : Upd (fun j => j = vb) w3 w4 := (Upd.refl (fun j => j = vb) w3).drew.trans (upd_grown hg40 fun j hj => by injection hj with hj; exact hj.symm) fun _ _ h => h
      have hm4 := hid hm40
      have hu4 := hid hu40
      clear hm40 hg40 hu40 hmu0
      go_still_tail 8, (by kernel_rfl)
      change wpList _ _ _ _ _ w3.drew
      go_upto_region 10 with fail
      have x2 : w4.cell? ⟨m, 2, none⟩ = some (.int .i64 x.v.k) := (KB.out.upd hu4.out (Ne.symm hvm.out)).cell 2
      by_cases hz0 : x.v.k = 0
      · have tz : (x.v.k == 0) = true := by simpa using hz0
        have x0 : w4.cell? ⟨m, 0, none⟩ = some (.string x.key) := (KB.out.upd hu4.out (Ne.symm hvm.out)).cell 0
        have g2 : w4.cell? ⟨g, 2, none⟩ = some (.map (some vb)) := (HP2.out.blk.upd hu4.out fun e => HP2.out.vals.ne_blk HP2.out.blk e.symm).cell 2
        have hm4d : MapF strE w4.drew vb _ := hm4.out
        obtain ⟨w5, hdl0, hm50, hg50, _⟩ := hm4d.delete (kt := 9) Tryz.underlying74 0 x.key
        have hdl : (Builtin.delete_ #[74, 9] 0 #[.map (some vb), .string x.key]).run Tryz.prog w4.drew = .ok (.tuple #[]) w5 := hdl0
        have hu5 : Upd (fun j => j = vb) w3 w5 := hu4.out.drew.trans (upd_grown hg50 fun j hj => by injection hj with hj; exact hj.symm) fun _ _ h => h
        have hfin0 := HP2.out.up (k := x.key) (v := x.v) hu5 (by show hasK x.key (upAll s.L (ws.take k)) = true; rw [upAll_has]; exact hz.out.2.1) (hm50.congr fun y => by
          by_cases e : y = x.key
          · simp only [e, if_true, hz0]
          · simp only [e, if_false]) (up_ok1 HP2.out.ok hz.out.1 hz.out.2.2)
        have hfin := hid hfin0
        have HR5 := hid (HR2.out.upd hfin0.2 hd)
        have HU5 := hid (HU2.out.trans hfin0.2 fun _ _ h => h)
        clear hfin0 hu5 hm50 hg50 hdl0 hm4d hz0 hmu
        go_wp2_with fail
        go_still_tail 6, (by kernel_rfl)
        change wpList _ _ _ _ _ w4.drew
        go_wp2_with fail
        go_roundw
        case rel => exact ⟨k + 1, by go_num, hlt, by rw [htk.out, upAll_snoc]; exact hfin.out.1, HR5.out, HU5.out⟩
        case measure => simp [intOf]; omega
      · have tz : (x.v.k == 0) = false := by simpa using hz0
        have hfin0 := HP2.out.up (k := x.key) (v := x.v) hu4.out (by show hasK x.key (upAll s.L (ws.take k)) = true; rw [upAll_has]; exact hz.out.2.1) (hm4.out.congr fun y => by
          by_cases e : y = x.key
          · simp only [e, if_true, hz0, if_false]
          · simp only [e, if_false]) (up_ok1 HP2.out.ok hz.out.1 hz.out.2.2)
        have hfin := hid hfin0
        have HR5 := hid (HR2.out.upd hfin0.2 hd)
        have HU5 := hid (HU2.out.trans hfin0.2 fun _ _ h => h)
        clear hfin0 hz0 hmu
        go_wp2_with fail
        go_roundw
        case rel => exact ⟨k + 1, by go_num, hlt, by rw [htk.out, upAll_snoc]; exact hfin.out.1, HR5.out, HU5.out⟩
        case measure => simp [intOf]; omega
    · obtain rfl : k = ws.length := by omega
      have hfin : Hid (PAt S wr g (applyS s ws)) := hid (by
        rw [applyS_yes he.out]
        have := HP.out
        rw [List.take_length] at this
        exact ⟨_, _, _, _, this⟩)
      clear HP
      go_wp2_with fail
      go_ret
      exact ⟨by rw [he.out]; rfl, hfin.out, HU.out⟩
end
end Go.Proofs.YtphglnenafdkaaaGreatDoor

namespace Go.Proofs.YtphglnenafdkaaaGreatDoor
open Go.RowKit
set_option linter.unusedVariables false
set_option linter.unusedSimpArgs false

def RngL (L : List Kv) : Prop := ∀ x ∈ L, x.2.rng
theorem rng_vl0 : vl0.rng := by unfold Vl.rng vl0; constructor <;> decide
theorem rng_claim {s : St} {ks : List ByteArray} (h : RngL s.L) : RngL (claimS s ks).L := by
  unfold claimS
  split
  · intro x hx
    rcases insAll_mem hx with ⟨_, e⟩ | hx
    · rw [e]; exact rng_vl0
    · exact h x hx
  · exact h
theorem rng_upAll : ∀ {ws : List Wr} {L : List Kv}, RngL L → (∀ x ∈ ws, x.v.rng) → RngL (upAll L ws)
  | [], L, h, _ => h
  | x :: ws, L, h, hw => rng_upAll (ws := ws) (L := upK x.key x.v L) (fun y hy => by
      rcases up_mem hy with ⟨_, e⟩ | hy
      · rw [e]; exact hw x (List.mem_cons_self ..)
      · exact h y hy) fun y hy => hw y (List.mem_cons_of_mem _ hy)
theorem rng_apply {s : St} {ws : List Wr} (h : RngL s.L) (hw : ∀ x ∈ ws, x.v.rng) : RngL (applyS s ws).L := by
  unfold applyS
  split
  · exact rng_upAll h hw
  · exact h
theorem wrE_ne5 (s : St) (ws : List Wr) (i : Nat) : wrE s ws i ≠ 5 := by
  unfold wrE
  simp only
  split
  · decide
  · split
    · decide
    · split
      · decide
      · split
        · decide
        · split <;> decide
theorem claim_has {s : St} {ks : List ByteArray} (h : claimE s ks = 0) {k : ByteArray} (hk : k ∈ ks) : hasK k (claimS s ks).L = true := by
  unfold claimS
  rw [if_pos h]
  show hasK k (insAll s.L ks) = true
  rw [insAll_has]
  have : ks.any (fun j => decide (j = k)) = true := List.any_eq_true.2 ⟨k, hk, by simp⟩
  rw [this]; rfl
section
variable {S : Nat → Prop} {w : World} {g : Nat} {s : St}
set_option maxRecDepth 100000 in
theorem claims_any (h : PAt S w g s) (p : Nat) (hp : p < s.parts) : Calls Tryz.prog 53 #[.pointer (some ⟨g, 0, none⟩), .int .i64 p] w fun e w' => e = .returned (.int .i64 (cntP s.parts p s.L)) ∧ w' = w := by
  have hpt := hid (parts_any h)
  obtain ⟨cb, cc, mb, vb, h⟩ := h
  have c1 := h.cells.2.1
  have y0 := h.rowc p hp
  have hsz := fun ty => h.size p hp ty
  have t1 : decide ((p : Int) < 0) = false := decide_eq_false (by omega)
  have t2 : decide ((s.parts : Int) ≤ (p : Int)) = false := decide_eq_false (by omega)
  have t3 : decide (s.parts ≤ p) = false := decide_eq_false (by omega)
  have i1 : (p : Int) < (s.parts : Int) := by omega
  clear h hp
  go_enter Tryz.func53, Tryz.ntmps53
  go_wp2_with fail
  refine hpt.out.mono ?_
  rintro e wq ⟨rfl, hwq⟩
  obtain rfl := hwq.symm
  go_wp2_with fail
  go_ret
  exact ⟨rfl, rfl⟩
end
end Go.Proofs.YtphglnenafdkaaaGreatDoor

