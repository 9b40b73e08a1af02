/- Texts of the proof, joined: KBytes, KBack, KPut, SVal, SPrint, SBytesP, SBytes, SRoomP, YRng, Dr, YTake. -/
import Derived.Test.YtefigpmkiemfhaaDoorN03
import Derived.Test.YtefigpmkiemfhaaDoorN08
import Derived.Test.YtefigpmkiemfhaaDoorN04
import Derived.Laws.MakeOwn
import Derived.Laws.OwnMore
import Derived.Laws.Bits64
import Derived.Test.YtefigpmkiemfhaaDoorN07
import Derived.Test.YtefigpmkiemfhaaDoorN05
import Derived.WalkSmall
import Derived.Lib.AtoiErrMem
import Derived.Laws.BytesArg
import Derived.Lib.ItoaLen
import Derived.Test.YtefigpmkiemfhaaDoorN06
import Derived.Test.YtefigpmkiemfhaaDoorN01
import Derived.Deep.RegionHeld3
namespace Go.Proofs.YtefigpmkiemfhaaDoor
set_option linter.unusedVariables false
set_option linter.unusedSimpArgs false

/-- a number's bytes -/
def putF : Nat → Nat → List Nat
  | 0, n => [n]
  | k + 1, n => if 128 ≤ n then (n % 128 + 128) :: putF k (n / 128) else [n]
def putU (n : Nat) : List Nat := putF 9 n
def zig (n : Int) : Nat := if 0 ≤ n then (2 * n).toNat else (2 * (-(n + 1)) + 1).toNat
def zag (u : Nat) : Int := if u % 2 = 0 then ((u / 2 : Nat) : Int) else -((u / 2 : Nat) : Int) - 1
/-- the bytes of a text -/
def tb (s : ByteArray) : List Nat := s.data.toList.map UInt8.toNat
theorem tb_len (s : ByteArray) : (tb s).length = s.size := by unfold tb; rw [List.length_map, Array.length_toList]; rfl
def vput (v : Vl) : List Nat := if v.ok = true then (if v.k = 1 then 1 :: putU (zig v.n) else if v.k = 2 then 2 :: (putU v.s.size ++ tb v.s) else [0]) else []
def iput (i : Is) : List Nat := i.op.toNat :: putU i.n.toNat
def Pr.put (p : Pr) : List Nat := putU p.args.toNat ++ (putU p.cs.length ++ (p.cs.flatMap vput ++ (putU p.code.length ++ p.code.flatMap iput)))
/-! a reader -/
/-- a number at a place, from its byte i on: the number and how many bytes it has, or the error -/
def numF (b : List Nat) (at_ : Nat) : Nat → Nat → Nat → (Nat × Nat) ⊕ Int
  | 0, i, acc => .inr 11
  | k + 1, i, acc => match b[at_ + i]? with
    | none => .inr 3
    | some c => if i = 9 ∧ 1 < c then .inr 11
      else if c < 128 then (if 0 < i ∧ c = 0 then .inr 10 else .inl (acc + c * 128 ^ i, i + 1))
      else numF b at_ k (i + 1) (acc + c % 128 * 128 ^ i)
def num (b : List Nat) (at_ : Nat) : (Nat × Nat) ⊕ Int := numF b at_ 10 0 0
structure Rr where
  b : List Nat
  at_ : Nat
  last : Nat
  e : Int
  spot : Nat
deriving DecidableEq
def Rr.new (b : List Nat) : Rr := ⟨b, 0, 0, 0, 0⟩
def Rr.fails (r : Rr) (e : Int) : Rr := { r with e := e, spot := r.at_ }
def Rr.took (r : Rr) (n : Nat) : Rr := { r with last := r.at_, at_ := r.at_ + n }
def Rr.byte (r : Rr) : Nat × Rr := if r.e ≠ 0 then (0, r) else match r.b[r.at_]? with | none => (0, r.fails 3) | some c => (c, r.took 1)
def Rr.uint (r : Rr) : Nat × Rr := if r.e ≠ 0 then (0, r) else match num r.b r.at_ with | .inr e => (0, r.fails e) | .inl (n, k) => (n, r.took k)
def Rr.int (r : Rr) : Int × Rr := if r.e ≠ 0 then (0, r) else match num r.b r.at_ with | .inr e => (0, r.fails e) | .inl (n, k) => (zag n, r.took k)
def Rr.count (r : Rr) (most : Int) : Nat × Rr := if r.e ≠ 0 then (0, r) else match num r.b r.at_ with | .inr e => (0, r.fails e) | .inl (n, k) => if most < 0 ∨ most < n then (0, r.fails 6) else (n, r.took k)
def bt (l : List Nat) : ByteArray := ⟨(l.map UInt8.ofNat).toArray⟩
def Rr.text (r : Rr) (most : Int) : ByteArray × Rr := if r.e ≠ 0 then (⟨#[]⟩, r) else match num r.b r.at_ with | .inr e => (⟨#[]⟩, r.fails e) | .inl (n, k) => if most < 0 ∨ most < n then (⟨#[]⟩, r.fails 1) else if r.b.length < r.at_ + k + n then (⟨#[]⟩, r.fails 3) else (bt ((r.b.drop (r.at_ + k)).take n), r.took (k + n))
def Rr.fail (r : Rr) (e : Int) : Rr := if r.e = 0 ∧ e ≠ 0 then { r with e := e, spot := r.last } else r
def Rr.end_ (r : Rr) : Rr := if r.e = 0 ∧ r.at_ < r.b.length then r.fails 4 else r
def Rr.rest (r : Rr) : Nat := if r.e ≠ 0 then 0 else r.b.length - r.at_
/-- the value that comes next -/
def Rr.take (r : Rr) : Vl × Rr :=
  let (k, r1) := r.byte
  if k = 0 then (vl0, r1)
  else if k = 1 then (let (n, r2) := r1.int; (if r2.e = 0 then ⟨1, n, ⟨#[]⟩⟩ else vl0, r2))
  else if k = 2 then (let (s, r2) := r1.text 64; if okT s = true then (if r2.e = 0 then ⟨2, 0, s⟩ else vl0, r2) else (vl0, r2.fail 20))
  else (vl0, r1.fail 20)
/-- the constants -/
def getC : Nat → Rr → List Vl → (Rr × List Vl) ⊕ (Int × Nat)
  | 0, r, l => .inl (r, l)
  | k + 1, r, l => if r.e ≠ 0 then .inl (r, l) else
    let (v, r1) := r.take
    if r1.e = 0 ∧ v.k = 0 then .inr (51, r.at_) else getC k r1 (l ++ [v])
/-- the code; where the first operand stands that is too great -/
def getI : Nat → Rr → List Is → Option Nat → Rr × List Is × Option Nat
  | 0, r, l, w => (r, l, w)
  | k + 1, r, l, w => if r.e ≠ 0 then (r, l, w) else
    let (op, r1) := r.byte
    let (n, r2) := r1.uint
    getI k r2 (l ++ [⟨op, ((min n 255 : Nat) : Int)⟩]) (if 255 < n ∧ w = none then some r1.at_ else w)
def getP (b : List Nat) : Pr ⊕ (Int × Nat) :=
  let (a, r) := (Rr.new b).count 8
  let (n, r) := r.count 32
  match getC n r [] with
  | .inr e => .inr e
  | .inl (r, cs) =>
    let (m, r) := r.count 256
    let (r, code, wide) := getI m r [] none
    let r := r.end_
    if r.e ≠ 0 then .inr (r.e, r.spot)
    else match wide with
    | some w => .inr (54, w)
    | none => let p : Pr := ⟨a, cs, code⟩; if p.check.1 ≠ 0 then .inr (p.check.1, p.check.2.toNat) else .inl p
/-! laws -/
theorem putF_len (k : Nat) : ∀ n, 1 ≤ (putF k n).length ∧ (putF k n).length ≤ k + 1 := by
  induction k with
  | zero => intro n; simp [putF]
  | succ k ih =>
    intro n
    unfold putF
    split
    · have := ih (n / 128); simp; omega
    · simp
theorem putF_lt (k : Nat) : ∀ n, n < 128 ^ k * 2 → ∀ x ∈ putF k n, x < 256 := by
  induction k with
  | zero => intro n h x hx; simp [putF] at hx; simp at h; omega
  | succ k ih =>
    intro n h x hx
    unfold putF at hx
    split at hx
    · rcases List.mem_cons.1 hx with rfl | hx
      · omega
      · exact ih (n / 128) (by rw [Nat.pow_succ] at h; omega) x hx
    · simp at hx; omega
theorem num_putF (b : List Nat) (at_ : Nat) : ∀ (k n i acc : Nat), i + k = 9 → n < 128 ^ k * 2 → (0 < i → 0 < n) → (∀ j c, (putF k n)[j]? = some c → b[at_ + i + j]? = some c) → numF b at_ (k + 1) i acc = .inl (acc + n * 128 ^ i, i + (putF k n).length) := by
  intro k
  induction k with
  | zero =>
    intro n i acc hi hn hp hb
    simp at hn
    have h0 := hb 0 n (by simp [putF])
    unfold numF
    rw [show at_ + i = at_ + i + 0 by rfl, h0]
    simp only
    rw [if_neg (by omega), if_pos (by omega), if_neg (by omega)]
    simp [putF]
  | succ k ih =>
    intro n i acc hi hn hp hb
    unfold putF at hb ⊢
    by_cases h : 128 ≤ n
    · rw [if_pos h] at hb ⊢
      have h0 := hb 0 (n % 128 + 128) (by simp)
      unfold numF
      rw [show at_ + i = at_ + i + 0 by rfl, h0]
      simp only
      rw [if_neg (by omega), if_neg (by omega)]
      rw [ih (n / 128) (i + 1) _ (by omega) (by rw [Nat.pow_succ] at hn; omega) (by omega) (fun j c hj => by
        have := hb (j + 1) c (by simpa using hj)
        rwa [show at_ + (i + 1) + j = at_ + i + (j + 1) by omega])]
      have e1 : (n % 128 + 128) % 128 = n % 128 := by omega
      rw [e1]
      congr 1
      · congr 1
        · rw [Nat.pow_succ]
          have : n * 128 ^ i = n % 128 * 128 ^ i + n / 128 * (128 ^ i * 128) := by
            have h2 := Nat.div_add_mod n 128
            calc n * 128 ^ i = (128 * (n / 128) + n % 128) * 128 ^ i := by rw [h2]
              _ = n % 128 * 128 ^ i + n / 128 * (128 ^ i * 128) := by rw [Nat.add_mul, Nat.add_comm, Nat.mul_comm 128, Nat.mul_assoc, Nat.mul_comm 128]
          omega
        · simp; omega
    · rw [if_neg h] at hb ⊢
      have h0 := hb 0 n (by simp)
      unfold numF
      rw [show at_ + i = at_ + i + 0 by rfl, h0]
      simp only
      rw [if_neg (by omega), if_pos (by omega), if_neg (by omega)]
      simp
theorem num_put (pre post : List Nat) (n : Nat) (hn : n < 18446744073709551616) : num (pre ++ (putU n ++ post)) pre.length = .inl (n, (putU n).length) := by
  unfold num
  have h9 : n < 128 ^ 9 * 2 := by
    have : 128 ^ 9 * 2 = 18446744073709551616 := by decide
    omega
  have := num_putF (pre ++ (putU n ++ post)) pre.length 9 n 0 0 rfl h9 (by omega) (fun j c hj => by
    rw [Nat.add_zero, List.getElem?_append_right (by omega), Nat.add_sub_cancel_left, List.getElem?_append_left (by
      have := (List.getElem?_eq_some_iff.1 hj).1; exact this)]
    exact hj)
  simpa [putU] using this
theorem zag_zig (n : Int) : zag (zig n) = n := by
  unfold zag zig
  by_cases h : 0 ≤ n
  · rw [if_pos h, if_pos (by omega)]; omega
  · rw [if_neg h, if_neg (by omega)]; omega
theorem zig_lt {n : Int} (h1 : -9223372036854775808 ≤ n) (h2 : n ≤ 9223372036854775807) : zig n < 18446744073709551616 := by
  unfold zig; split <;> omega
theorem bt_tb (s : ByteArray) : bt (tb s) = s := by
  unfold bt tb
  rw [List.map_map]
  have : (UInt8.ofNat ∘ UInt8.toNat) = id := by funext c; simp
  rw [this, List.map_id]

end Go.Proofs.YtefigpmkiemfhaaDoor

namespace Go.Proofs.YtefigpmkiemfhaaDoor
set_option linter.unusedVariables false
set_option linter.unusedSimpArgs false

/-- these bytes stand at a place -/
def Has (b : List Nat) (a : Nat) (l : List Nat) : Prop := ∀ j c, l[j]? = some c → b[a + j]? = some c
theorem Has.app {b : List Nat} {a : Nat} {l m : List Nat} (h : Has b a (l ++ m)) : Has b a l ∧ Has b (a + l.length) m := by
  refine ⟨fun j c hj => h j c ?_, fun j c hj => ?_⟩
  · rw [List.getElem?_append_left (List.getElem?_eq_some_iff.1 hj).1]; exact hj
  · rw [Nat.add_assoc]
    refine h _ c ?_
    rw [List.getElem?_append_right (by omega), Nat.add_sub_cancel_left]; exact hj
theorem Has.cons {b : List Nat} {a c : Nat} {m : List Nat} (h : Has b a (c :: m)) : b[a]? = some c ∧ Has b (a + 1) m := ⟨h 0 c rfl, (Has.app (l := [c]) h).2⟩
theorem Has.self (l : List Nat) : Has l 0 l := fun j c hj => by rwa [Nat.zero_add]
theorem Has.len {b : List Nat} {a : Nat} {l : List Nat} (h : Has b a l) (hl : 0 < l.length) : a + l.length ≤ b.length := by
  have := h (l.length - 1) _ (List.getElem?_eq_getElem (by omega))
  have := (List.getElem?_eq_some_iff.1 this).1
  omega
theorem Has.took {b : List Nat} {a : Nat} {l : List Nat} (h : Has b a l) (ha : a + l.length ≤ b.length) : (b.drop a).take l.length = l := by
  apply List.ext_getElem?
  intro j
  by_cases hj : j < l.length
  · rw [List.getElem?_take_of_lt hj, List.getElem?_drop, h j _ (List.getElem?_eq_getElem hj), List.getElem?_eq_getElem hj]
  · rw [List.getElem?_take_eq_none (by omega), List.getElem?_eq_none (by omega)]
theorem num_has {b : List Nat} {a n : Nat} (h : Has b a (putU n)) (hn : n < 18446744073709551616) : num b a = .inl (n, (putU n).length) := by
  unfold num
  have h9 : n < 128 ^ 9 * 2 := by
    have : 128 ^ 9 * 2 = 18446744073709551616 := by decide
    omega
  have := num_putF b a 9 n 0 0 rfl h9 (by omega) (fun j c hj => by rw [Nat.add_zero]; exact h j c hj)
  simpa [putU] using this
section
variable {r : Rr} {n : Nat}
theorem count_has {most : Nat} (he : r.e = 0) (h : Has r.b r.at_ (putU n)) (hm : n ≤ most) (hs : most < 18446744073709551616) : r.count most = (n, r.took (putU n).length) := by
  unfold Rr.count
  rw [if_neg (by simp [he]), num_has h (by omega)]
  simp only
  rw [if_neg (by omega)]
theorem uint_has (he : r.e = 0) (h : Has r.b r.at_ (putU n)) (hs : n < 18446744073709551616) : r.uint = (n, r.took (putU n).length) := by
  unfold Rr.uint
  rw [if_neg (by simp [he]), num_has h (by omega)]
theorem int_has {n : Int} (he : r.e = 0) (h : Has r.b r.at_ (putU (zig n))) (h1 : -9223372036854775808 ≤ n) (h2 : n ≤ 9223372036854775807) : r.int = (n, r.took (putU (zig n)).length) := by
  unfold Rr.int
  rw [if_neg (by simp [he]), num_has h (zig_lt h1 h2)]
  simp only
  rw [zag_zig]
theorem byte_has {c : Nat} (he : r.e = 0) (h : r.b[r.at_]? = some c) : r.byte = (c, r.took 1) := by
  unfold Rr.byte
  rw [if_neg (by simp [he]), h]
theorem text_has {s : ByteArray} (he : r.e = 0) (h : Has r.b r.at_ (putU s.size ++ tb s)) (hs : s.size ≤ 64) : r.text 64 = (s, r.took ((putU s.size).length + s.size)) := by
  obtain ⟨h1, h2⟩ := h.app
  unfold Rr.text
  rw [if_neg (by simp [he]), num_has h1 (by omega)]
  simp only
  have hl := h1.len (by have := putF_len 9 s.size; unfold putU; omega)
  have hr : r.at_ + (putU s.size).length + (tb s).length ≤ r.b.length := by
    by_cases e : (tb s).length = 0
    · omega
    · have := h2.len (by omega); omega
  have ht := h2.took hr
  rw [tb_len] at ht hr
  rw [if_neg (by omega), if_neg (by omega), ht, bt_tb]
theorem vput_len (v : Vl) (h : v.ok = true) : 1 ≤ (vput v).length := by
  unfold vput
  rw [if_pos h]
  split
  · simp
  · split <;> simp
def Vl.rng (v : Vl) : Prop := -9223372036854775808 ≤ v.n ∧ v.n ≤ 9223372036854775807
theorem ok_forms {v : Vl} (h : v.ok = true) : v = vl0 ∨ (v.k = 1 ∧ v.s = ⟨#[]⟩) ∨ (v.k = 2 ∧ v.n = 0 ∧ v.s.size ≤ 64 ∧ okT v.s = true) := by
  unfold Vl.ok at h
  split at h
  · rename_i h1
    simp only [Bool.and_eq_true, decide_eq_true_eq] at h
    obtain ⟨k, n, s⟩ := v
    simp only at h1 h
    exact .inl (by rw [h1, h.1, h.2]; rfl)
  · split at h
    · rename_i h2
      exact .inr (.inl ⟨h2, of_decide_eq_true h⟩)
    · split at h
      · rename_i h3
        simp only [Bool.and_eq_true, decide_eq_true_eq] at h
        exact .inr (.inr ⟨h3, h.1, h.2.1, h.2.2⟩)
      · cases h
theorem took_e (r : Rr) (k : Nat) : (r.took k).e = r.e ∧ (r.took k).b = r.b ∧ (r.took k).at_ = r.at_ + k := ⟨rfl, rfl, rfl⟩
theorem take_has {v : Vl} (he : r.e = 0) (hv : v.ok = true) (hr : v.rng) (h : Has r.b r.at_ (vput v)) : ∃ r', r.take = (v, r') ∧ r'.b = r.b ∧ r'.e = 0 ∧ r'.at_ = r.at_ + (vput v).length := by
  unfold vput at h ⊢
  rw [if_pos hv] at h ⊢
  rcases ok_forms hv with rfl | ⟨h1, h2⟩ | ⟨h1, h2, h3, h4⟩
  · rw [if_neg (by decide), if_neg (by decide)] at h ⊢
    have h0 := h.cons.1
    refine ⟨r.took 1, ?_, rfl, he, rfl⟩
    unfold Rr.take
    rw [byte_has he h0]
    simp
  · rw [if_pos h1] at h ⊢
    obtain ⟨h0, h5⟩ := h.cons
    refine ⟨(r.took 1).took (putU (zig v.n)).length, ?_, rfl, he, ?_⟩
    · unfold Rr.take
      rw [byte_has he h0]
      simp only
      rw [if_neg (by decide)]
      simp only [if_true]
      rw [int_has (r := r.took 1) he h5 hr.1 hr.2]
      simp only
      rw [if_pos (show ((r.took 1).took (putU (zig v.n)).length).e = 0 from he)]
      obtain ⟨k, n, s⟩ := v
      simp only at h1 h2
      rw [h1, h2]
    · show r.at_ + 1 + _ = _
      simp; omega
  · rw [if_neg (by omega), if_pos h1] at h ⊢
    obtain ⟨h0, h5⟩ := h.cons
    refine ⟨(r.took 1).took ((putU v.s.size).length + v.s.size), ?_, rfl, he, ?_⟩
    · unfold Rr.take
      rw [byte_has he h0]
      simp only
      rw [if_neg (by decide), if_neg (by decide)]
      simp only [if_true]
      rw [text_has (r := r.took 1) he h5 h3]
      simp only
      rw [if_pos h4, if_pos (show ((r.took 1).took ((putU v.s.size).length + v.s.size)).e = 0 from he)]
      obtain ⟨k, n, s⟩ := v
      simp only at h1 h2
      rw [h1, h2]
    · show r.at_ + 1 + _ = _
      simp [tb_len]; omega
end
theorem getC_has : ∀ (cs : List Vl) (r : Rr) (l : List Vl), r.e = 0 → (∀ v ∈ cs, v.ok = true ∧ v.k ≠ 0 ∧ v.rng) → Has r.b r.at_ (cs.flatMap vput) → ∃ r', getC cs.length r l = .inl (r', l ++ cs) ∧ r'.b = r.b ∧ r'.e = 0 ∧ r'.at_ = r.at_ + (cs.flatMap vput).length := by
  intro cs
  induction cs with
  | nil => intro r l he _ _; exact ⟨r, by simp [getC], rfl, he, by simp⟩
  | cons v cs ih =>
    intro r l he hv h
    rw [List.flatMap_cons] at h
    obtain ⟨h1, h2⟩ := h.app
    obtain ⟨a1, a2, a3⟩ := hv v List.mem_cons_self
    obtain ⟨r1, b1, b2, b3, b4⟩ := take_has he a1 a3 h1
    obtain ⟨r2, c1, c2, c3, c4⟩ := ih r1 (l ++ [v]) b3 (fun u hu => hv u (List.mem_cons_of_mem _ hu)) (by rw [b2, b4]; exact h2)
    refine ⟨r2, ?_, c2.trans b2, c3, ?_⟩
    · rw [List.length_cons, getC, if_neg (by simp [he]), b1]
      simp only
      rw [if_neg (by rintro ⟨_, h⟩; exact a2 h), c1]
      simp
    · rw [c4, b4, List.flatMap_cons, List.length_append]; omega
theorem getI_has : ∀ (code : List Is) (r : Rr) (l : List Is), r.e = 0 → (∀ i ∈ code, 0 ≤ i.op ∧ 0 ≤ i.n ∧ i.n ≤ 255) → Has r.b r.at_ (code.flatMap iput) → ∃ r', getI code.length r l none = (r', l ++ code, none) ∧ r'.b = r.b ∧ r'.e = 0 ∧ r'.at_ = r.at_ + (code.flatMap iput).length := by
  intro code
  induction code with
  | nil => intro r l he _ _; exact ⟨r, by simp [getI], rfl, he, by simp⟩
  | cons i code ih =>
    intro r l he hv h
    rw [List.flatMap_cons] at h
    obtain ⟨h1, h2⟩ := h.app
    obtain ⟨a1, a2, a3⟩ := hv i List.mem_cons_self
    unfold iput at h1
    obtain ⟨g1, g2⟩ := h1.cons
    obtain ⟨r2, c1, c2, c3, c4⟩ := ih ((r.took 1).took (putU i.n.toNat).length) (l ++ [i]) he (fun u hu => hv u (List.mem_cons_of_mem _ hu)) (by
      show Has r.b (r.at_ + 1 + _) _
      unfold iput at h2
      rw [List.length_cons] at h2
      rwa [show r.at_ + 1 + (putU i.n.toNat).length = r.at_ + ((putU i.n.toNat).length + 1) by omega])
    refine ⟨r2, ?_, c2, c3, ?_⟩
    · rw [List.length_cons, getI, if_neg (by simp [he]), byte_has he g1]
      simp only
      rw [uint_has (r := r.took 1) he g2 (by omega)]
      simp only
      rw [if_neg (by omega), show min i.n.toNat 255 = i.n.toNat by omega, Int.toNat_of_nonneg a1, Int.toNat_of_nonneg a2, c1]
      simp
    · rw [c4, List.flatMap_cons, List.length_append]
      show r.at_ + 1 + _ + _ = _
      unfold iput
      rw [List.length_cons]; omega
/-- what a form that is right says -/
theorem form_ok {p : Pr} (h : p.form.1 = 0) : 0 ≤ p.args ∧ p.args ≤ 8 ∧ p.cs.length ≤ 32 ∧ (∀ v ∈ p.cs, v.ok = true ∧ v.k ≠ 0) ∧ 0 < p.code.length ∧ p.code.length ≤ 256 ∧ ∀ i ∈ p.code, isOp i.op = true ∧ 0 ≤ i.n ∧ i.n < p.most i.op := by
  unfold Pr.form at h
  split at h
  · cases h
  rename_i h1
  split at h
  · cases h
  rename_i h2
  split at h
  · rename_i h3; exact absurd h h3
  rename_i h3
  split at h
  · cases h
  rename_i h4
  refine ⟨by omega, by omega, by omega, fun v hv => ?_, by omega, by omega, fun i hi => ?_⟩
  · obtain ⟨j, hj, rfl⟩ := List.mem_iff_getElem.1 hv
    rcases scan_form (fun i => conE (p.cs.getD i vl0)) p.cs.length 0 with ⟨_, h5⟩ | ⟨q, _, _, h6, h7, _⟩
    · have := h5 j (Nat.zero_le _) (by omega)
      simp only [List.getD_eq_getElem?_getD, List.getElem?_eq_getElem hj, Option.getD_some, conE] at this
      split at this
      · assumption
      · cases this
    · rw [h7] at h3; exact absurd h3 (by simpa using h6)
  · obtain ⟨j, hj, rfl⟩ := List.mem_iff_getElem.1 hi
    rcases scan_form (fun i => p.insE (p.code.getD i is0)) p.code.length 0 with ⟨_, h5⟩ | ⟨q, _, _, h6, h7, _⟩
    · have := h5 j (Nat.zero_le _) (by omega)
      simp only [List.getD_eq_getElem?_getD, List.getElem?_eq_getElem hj, Option.getD_some, Pr.insE] at this
      split at this
      · cases this
      · rename_i h8
        split at this
        · rename_i h9; exact ⟨by simpa using h8, h9.1, h9.2⟩
        · cases this
    · rw [h7] at h; exact absurd h h6
theorem most_le {p : Pr} (h : p.form.1 = 0) (op : Int) : p.most op ≤ 256 := by
  obtain ⟨h1, h2, h3, _, _, h6, _⟩ := form_ok h
  unfold Pr.most
  split
  · omega
  · split
    · omega
    · split <;> omega
theorem get_put {p : Pr} (hc : p.check.1 = 0) (hr : ∀ v ∈ p.cs, v.rng) : getP p.put = .inl p := by
  obtain ⟨d, hd, hf, _⟩ := deps_len hc
  obtain ⟨f1, f2, f3, f4, f5, f6, f7⟩ := form_ok hf
  have h0 := Has.self p.put
  unfold Pr.put at h0
  obtain ⟨g1, h1⟩ := h0.app
  obtain ⟨g2, h2⟩ := h1.app
  obtain ⟨g3, h3⟩ := h2.app
  obtain ⟨g4, g5⟩ := h3.app
  obtain ⟨B, hB⟩ : ∃ B, B = p.put := ⟨_, rfl⟩
  have hB' : putU p.args.toNat ++ (putU p.cs.length ++ (p.cs.flatMap vput ++ (putU p.code.length ++ p.code.flatMap iput))) = B := by rw [hB]; rfl
  rw [hB'] at g1 g2 g3 g4 g5
  rw [← hB]
  unfold getP
  have c1 := count_has (r := Rr.new B) (most := 8) (n := p.args.toNat) rfl g1 (by omega) (by omega)
  rw [show ((8 : Nat) : Int) = 8 from rfl] at c1
  rw [c1]
  simp only
  obtain ⟨R1, hR1⟩ : ∃ R1, R1 = (Rr.new B).took (putU p.args.toNat).length := ⟨_, rfl⟩
  rw [← hR1]
  have b1 : R1.b = B ∧ R1.e = 0 ∧ R1.at_ = 0 + (putU p.args.toNat).length := by subst hR1; exact ⟨rfl, rfl, rfl⟩
  have c2 := count_has (r := R1) (most := 32) (n := p.cs.length) b1.2.1 (by rw [b1.1, b1.2.2]; exact g2) f3 (by omega)
  rw [show ((32 : Nat) : Int) = 32 from rfl] at c2
  rw [c2]
  simp only
  obtain ⟨R2, hR2⟩ : ∃ R2, R2 = R1.took (putU p.cs.length).length := ⟨_, rfl⟩
  rw [← hR2]
  have b2 : R2.b = B ∧ R2.e = 0 ∧ R2.at_ = 0 + (putU p.args.toNat).length + (putU p.cs.length).length := by subst hR2; exact ⟨b1.1, b1.2.1, by show R1.at_ + _ = _; rw [b1.2.2]⟩
  obtain ⟨R3, c3, d1, d2, d3⟩ := getC_has p.cs R2 [] b2.2.1 (fun v hv => ⟨(f4 v hv).1, (f4 v hv).2, hr v hv⟩) (by rw [b2.1, b2.2.2]; exact g3)
  rw [c3]
  simp only [List.nil_append]
  have c4 := count_has (r := R3) (most := 256) (n := p.code.length) d2 (by rw [d1, b2.1, d3, b2.2.2]; exact g4) f6 (by omega)
  rw [show ((256 : Nat) : Int) = 256 from rfl] at c4
  rw [c4]
  simp only
  obtain ⟨R4, hR4⟩ : ∃ R4, R4 = R3.took (putU p.code.length).length := ⟨_, rfl⟩
  rw [← hR4]
  have b4 : R4.b = B ∧ R4.e = 0 ∧ R4.at_ = 0 + (putU p.args.toNat).length + (putU p.cs.length).length + (p.cs.flatMap vput).length + (putU p.code.length).length := by subst hR4; exact ⟨d1.trans b2.1, d2, by show R3.at_ + _ = _; rw [d3, b2.2.2]⟩
  obtain ⟨R5, c5, e1, e2, e3⟩ := getI_has p.code R4 [] b4.2.1 (fun i hi => by
    obtain ⟨q1, q2, q3⟩ := f7 i hi
    have := most_le hf i.op
    unfold isOp at q1
    simp only [Bool.and_eq_true, decide_eq_true_eq] at q1
    exact ⟨by omega, q2, by omega⟩) (by rw [b4.1, b4.2.2]; exact g5)
  rw [c5]
  simp only [List.nil_append]
  have hend : R5.end_ = R5 := by
    unfold Rr.end_
    rw [if_neg]
    rintro ⟨_, h⟩
    rw [e1, b4.1, e3, b4.2.2, ← hB'] at h
    simp only [List.length_append] at h
    omega
  rw [hend, if_neg (by rw [e2]; decide)]
  have hp : (⟨((p.args.toNat : Nat) : Int), p.cs, p.code⟩ : Pr) = p := by
    obtain ⟨a, cs, code⟩ := p
    simp only at f1 ⊢
    rw [Int.toNat_of_nonneg f1]
  rw [hp, if_neg (by rw [hc]; decide)]

end Go.Proofs.YtefigpmkiemfhaaDoor

namespace Go.Proofs.YtefigpmkiemfhaaDoor
open Go.RowKit
set_option linter.unusedVariables false
set_option linter.unusedSimpArgs false

def bcells (l : List Nat) : List Value := l.map fun c => .int .u8 (c : Nat)
theorem bcells_snoc (l : List Nat) (c : Nat) : bcells (l ++ [c]) = bcells l ++ [.int .u8 (c : Nat)] := by unfold bcells; rw [List.map_append]; rfl
theorem bcells_one (l : List Nat) : ∀ u ∈ bcells l, u.oneCell' = true := fun u hu => by obtain ⟨c, _, rfl⟩ := List.mem_map.1 hu; rfl
theorem info_u8 : (Tryd.prog.info? 5).map (fun i => (i.zero, i.size, i.bytes)) = some (some (.int .u8 0), 1, 1) := by kernel_rfl
theorem u8_or (m : Nat) : bits BinOp.or IntKind.u8 (((m % 256 : Nat)) : Int) 128 = ((m % 128 + 128 : Nat) : Int) := by
  have h : ∀ x : Fin 256, bits BinOp.or IntKind.u8 ((x.val : Nat) : Int) 128 = ((x.val % 128 + 128 : Nat) : Int) := by decide +kernel
  have := h ⟨m % 256, by omega⟩
  simp only at this
  rw [this]
  congr 2
  omega
theorem u8_wrap (m : Nat) : IntKind.u8.wrap (m : Int) = ((m % 256 : Nat) : Int) := by
  simp [IntKind.wrap, IntKind.bits, IntKind.signed]
def natOf : Value → Nat
  | .int _ n => n.toNat
  | _ => 0
end Go.Proofs.YtefigpmkiemfhaaDoor

namespace Go.Proofs.YtefigpmkiemfhaaDoor
open Go.RowKit
set_option linter.unusedVariables false
set_option linter.unusedSimpArgs false

structure Env (w : World) : Prop where
  pow : Lib.TabIs Tryd.prog w "internal/strconv.uint64pow10" .u64 Lib.pow10Tab
  big : 5 ≤ w.heap.size
theorem gPow : Tryd.prog.globalNamed "internal/strconv.uint64pow10" = some 2 := by kernel_rfl
theorem Env.below {w w' : World} (h : Env w) (hb : Below w.heap.size w w') : Env w' := by
  have h6 := h.big
  exact ⟨var?_below hb gPow (by omega) h.pow, by have := hb.size; omega⟩
theorem Env.over {w w' : World} {N : Nat} (h : Env w) (hb : Below N w w') (hN : 5 ≤ N) : Env w' := by
  have h6 := h.big
  exact ⟨var?_below hb gPow (by omega) h.pow, by have := hb.size; omega⟩
theorem fmt_any (n : Int) (h0 : -9223372036854775808 ≤ n) (h1 : n ≤ 9223372036854775807) (w : World) (he : Env w) :
    Calls Tryd.prog 59 #[.int .i64 n, .int .i64 10] w fun e w' => e = .returned (.string ⟨(Lib.itoa n).toArray⟩) ∧ Below w.heap.size w w' := by
  refine (strconv_FormatInt_10 n h0 h1 w he.pow).mono ?_
  rintro e w' ⟨rfl, k, os, rfl⟩
  exact ⟨rfl, rfl, rfl, rfl, by rw [Sort.size_grow]; exact Nat.le_add_right _ _, fun b hb => Array.getElem?_append_left (show b < w.heap.size from hb)⟩
theorem digits_any (n : Int) (h0 : -9223372036854775808 ≤ n) (h1 : n ≤ 9223372036854775807) (w : World) (he : Env w) :
    Calls Tryd.prog 46 #[.int .i64 n] w fun e w' => e = .returned (.string ⟨(Lib.itoa n).toArray⟩) ∧ Below w.heap.size w w' := by
  have hk := hid (fmt_any n h0 h1 w he)
  clear h0 h1 he
  go_enter Tryd.func46, Tryd.ntmps46
  go_wp2_with fail
  refine hk.out.mono ?_
  rintro e w2 ⟨rfl, hb⟩
  go_wp2_with fail
  go_ret
  exact ⟨rfl, hb⟩
def noneT : List UInt8 := [110, 111, 110, 101]
def escL (l : List UInt8) : List UInt8 := l.flatMap fun c => if c = 34 ∨ c = 92 then [92, c] else [c]
def litL (v : Vl) : List UInt8 := if v.k = 1 then Lib.itoa v.n else if v.k = 0 then noneT else 34 :: (escL v.s.data.toList ++ [34])
def printE (v : Vl) : Int := if v.ok = true then 0 else 20
def printL (v : Vl) : List UInt8 := if v.ok = true then litL v else []
def lb (L : List Nat) : List UInt8 := L.map UInt8.ofNat
theorem lb_len (L : List Nat) : (lb L).length = L.length := List.length_map ..
theorem lb_snoc (L : List Nat) (c : UInt8) : lb (L ++ [c.toNat]) = lb L ++ [c] := by unfold lb; simp
theorem bcells_at {l : List Nat} {k : Nat} (h : k < l.length) : (bcells l)[k]? = some (.int .u8 (l[k] : Nat)) := by unfold bcells; rw [List.getElem?_map, List.getElem?_eq_getElem h]; rfl
theorem strOf_bt (l : List Nat) : strOfNums (l.map Int.ofNat) = bt l := by
  unfold strOfNums bt
  rw [List.map_map]
  rfl
theorem convB {S : Nat → Prop} {w : World} {A : Option Addr} {l : List Nat} {n c : Nat} (h : Rd S w 1 A n (bcells l)) (hn : l.length = n) : (convert 22 9 (.slice A n c)).run Tryd.prog w = .ok (.string (bt l)) w := by
  subst hn
  cases l with
  | nil =>
    cases A with
    | none => exact run_convert_bytes_nil w 22 5 Tryd.underlying22 Tryd.underlying5 0 c 9 Tryd.underlying9
    | some a =>
      obtain ⟨b, o, t⟩ := a
      rw [run_convert_bytes_string w 22 9 5 _ _ c Tryd.underlying22 Tryd.underlying5 Tryd.underlying9, run_bytesToString w _ _ c [] (by simp [loadCells, loadCellsFrom])]
      rfl
  | cons x l =>
    obtain ⟨b, o, rfl, _, _, hc⟩ := h.2 (by simp)
    rw [← strOf_bt]
    refine run_convert_bytes_arg w 22 5 Tryd.underlying22 Tryd.underlying5 b o _ c _ (by simp) (fun i hi => hc i _ ?_) 9 Tryd.underlying9
    rw [bcells_at hi]
    have : ((x :: l).map Int.ofNat).getD i 0 = (((x :: l)[i] : Nat) : Int) := by rw [List.getD_eq_getElem?_getD, List.getElem?_map, List.getElem?_eq_getElem hi]; rfl
    rw [this]
section
variable {s : ByteArray} {k : Nat}
theorem byte_ne {hk : k < s.size} {c : UInt8} (h : s.data[k]'hk ≠ c) : (s[k]'hk).toNat ≠ c.toNat := fun e => h (UInt8.toNat_inj.1 e)
theorem byte_eq {hk : k < s.size} {c : UInt8} (h : s.data[k]'hk = c) : (s[k]'hk).toNat = c.toNat := by show (s.data[k]'hk).toNat = c.toNat; rw [h]
end
end Go.Proofs.YtefigpmkiemfhaaDoor

namespace Go.Proofs.YtefigpmkiemfhaaDoor
open Go.RowKit
set_option linter.unusedVariables false
set_option linter.unusedSimpArgs false

/-- what Print leaves -/
def PrOut (v : Vl) (w : World) (e : Ending) (w' : World) : Prop := e = .returned (.tuple #[.string ⟨(printL v).toArray⟩, .int .i64 (printE v)]) ∧ Below w.heap.size w w'
theorem esc_step {s : ByteArray} {k : Nat} (hk : k < s.size) : escL (s.data.toList.take (k + 1)) = escL (s.data.toList.take k) ++ (if s.data[k]'hk = 34 ∨ s.data[k]'hk = 92 then [92, s.data[k]'hk] else [s.data[k]'hk]) := by
  have hl : k < s.data.toList.length := by rw [Array.length_toList]; exact hk
  rw [List.take_succ_eq_append_getElem hl, Array.getElem_toList]
  unfold escL
  rw [List.flatMap_append]
  simp
theorem take_all {s : ByteArray} {k : Nat} (hk : s.size ≤ k) : s.data.toList.take k = s.data.toList := List.take_of_length_le (by rw [Array.length_toList]; exact hk)
theorem lit_text {v : Vl} (h : v.ok = true) (hk : v.k = 2) : printL v = 34 :: (escL v.s.data.toList ++ [34]) := by
  unfold printL litL
  rw [if_pos h, hk, if_neg (by decide), if_neg (by decide)]

set_option maxRecDepth 100000 in
set_option maxHeartbeats 4000000 in
theorem print_any (v : Vl) (w : World) (hs : v.s.size ≤ 140737488351232) (hr : v.rng) (he : Env w) : Calls Tryd.prog 48 #[.agg #[.int .i64 v.k, .int .i64 v.n, .string v.s]] w (PrOut v w) := by
  obtain ⟨ib, hb0, hb1, hb2, hb3⟩ := info_parts info_u8
  obtain ⟨W, hW⟩ : ∃ W, W = w.alloc (.cells #[.int .i64 v.k, .int .i64 v.n, .string v.s] 47) := ⟨_, rfl⟩
  have hB0 : Hid (Below w.heap.size w W) := hid (by subst hW; exact (Below.refl _ _).alloc (Nat.le_refl _) _)
  have kb0 : Hid (Blk W w.heap.size 47 #[.int .i64 v.k, .int .i64 v.n, .string v.s]) := hid (by subst hW; exact Blk.new w _ _)
  have hva := hid (valid_any v W (by omega))
  have hx0 : W.cell? ⟨w.heap.size, 0, none⟩ = some (.int .i64 v.k) := kb0.out.cell 0
  have hx1 : W.cell? ⟨w.heap.size, 1, none⟩ = some (.int .i64 v.n) := kb0.out.cell 1
  have hx2 : W.cell? ⟨w.heap.size, 2, none⟩ = some (.string v.s) := kb0.out.cell 2
  have hfz := fun q => kb0.out.frozen q
  have hlz := kb0.out.lt
  have he2 := hid (he.below hB0.out)
  clear he
  cases hok : v.ok with
  | false =>
    have hfin : Hid (printL v = [] ∧ printE v = 20) := hid (by unfold printL printE; rw [hok]; exact ⟨rfl, rfl⟩)
    rw [hok] at hva
    clear hok hs hr
    go_enter Tryd.func48, Tryd.ntmps48
    go_upto_region 1 with fail
    rw [← hW]
    clear hW
    go_wp2_with fail
    refine hva.out.mono ?_
    rintro e w2 ⟨rfl, hb20⟩
    have kb2 := hid (kb0.out.below_all hb20)
    have hB2 := hid (hB0.out.trans (hb20.mono hB0.out.size))
    have hbb2 := hid hb20
    clear hb20 hva hx0 hx1 hx2 hfz hlz kb0 hB0
    have x0 := kb2.out.cell 0
    have x1 := kb2.out.cell 1
    have x2 := kb2.out.cell 2
    simp only [List.getElem?_toArray, List.getElem?_cons_zero, List.getElem?_cons_succ] at x0 x1 x2
    have fz := fun q => kb2.out.frozen q
    have hlt := kb2.out.lt
    go_wp2_with fail
    refine bodyPost_ret (v := .tuple #[.string ⟨#[]⟩, .int .i64 20]) (by simp [results, Tryd.results48, go_sem]) rfl ⟨?_, hB2.out⟩
    rw [hfin.out.1, hfin.out.2]
  | true =>
    have hpe : Hid (printE v = 0) := hid (by unfold printE; rw [hok]; rfl)
    have hpl : printL v = litL v := by unfold printL; rw [hok]; rfl
    rw [hok] at hva
    rcases ok_forms hok with hv | ⟨h1, h2⟩ | ⟨h1, h2, h3, h4⟩
    · have e0 : v.k = 0 := by rw [hv]; rfl
      have hfin : Hid (printL v = noneT) := hid (by rw [hpl]; unfold litL; rw [e0]; rfl)
      have f0 : (v.k == 1) = false := by rw [e0]; rfl
      have f1 : (v.k == 0) = true := by rw [e0]; rfl
      clear hok hs hr hv hpl e0
      go_enter Tryd.func48, Tryd.ntmps48
      go_upto_region 1 with fail
      rw [← hW]
      clear hW
      go_wp2_with fail
      refine hva.out.mono ?_
      rintro e w2 ⟨rfl, hb20⟩
      have kb2 := hid (kb0.out.below_all hb20)
      have hB2 := hid (hB0.out.trans (hb20.mono hB0.out.size))
      have hbb2 := hid hb20
      clear hb20 hva hx0 hx1 hx2 hfz hlz kb0 hB0
      have x0 := kb2.out.cell 0
      have x1 := kb2.out.cell 1
      have x2 := kb2.out.cell 2
      simp only [List.getElem?_toArray, List.getElem?_cons_zero, List.getElem?_cons_succ] at x0 x1 x2
      have fz := fun q => kb2.out.frozen q
      have hlt := kb2.out.lt
      go_wp2_with fail
      refine bodyPost_ret (v := .tuple #[.string ⟨#[110, 111, 110, 101]⟩, .int .i64 0]) (by simp [results, Tryd.results48, go_sem]) rfl ⟨?_, hB2.out⟩
      rw [hfin.out, hpe.out]; rfl
    · have hfin : Hid (printL v = Lib.itoa v.n) := hid (by rw [hpl]; unfold litL; rw [h1]; rfl)
      have f0 : (v.k == 1) = true := by rw [h1]; rfl
      have hrr := hid hr
      clear hok hs hr hpl h1 h2
      go_enter Tryd.func48, Tryd.ntmps48
      go_upto_region 1 with fail
      rw [← hW]
      clear hW
      go_wp2_with fail
      refine hva.out.mono ?_
      rintro e w2 ⟨rfl, hb20⟩
      have kb2 := hid (kb0.out.below_all hb20)
      have hB2 := hid (hB0.out.trans (hb20.mono hB0.out.size))
      have hbb2 := hid hb20
      clear hb20 hva hx0 hx1 hx2 hfz hlz kb0 hB0
      have x0 := kb2.out.cell 0
      have x1 := kb2.out.cell 1
      have x2 := kb2.out.cell 2
      simp only [List.getElem?_toArray, List.getElem?_cons_zero, List.getElem?_cons_succ] at x0 x1 x2
      have fz := fun q => kb2.out.frozen q
      have hlt := kb2.out.lt
      have he3 := hid (he2.out.below (w := W) (w' := w2) (by first | exact hbb2.out))
      go_wp2_with fail
      refine (digits_any v.n hrr.out.1 hrr.out.2 w2 he3.out).mono ?_
      rintro e w3 ⟨rfl, hb30⟩
      have hB3 := hid (hB2.out.trans (hb30.mono hB2.out.size))
      clear hb30 x0 x1 x2 fz hlt
      go_wp2_with fail
      refine bodyPost_ret (v := .tuple #[.string ⟨(Lib.itoa v.n).toArray⟩, .int .i64 0]) (by simp [results, Tryd.results48, go_sem]) rfl ⟨?_, hB3.out⟩
      rw [hfin.out, hpe.out]
    · have hfin : Hid (printL v = 34 :: (escL v.s.data.toList ++ [34])) := hid (lit_text hok h1)
      have hs64 := hid h3
      have hs9 : (v.s.size : Int) ≤ 64 := by omega
      have f0 : (v.k == 1) = false := by rw [h1]; rfl
      have f1 : (v.k == 0) = false := by rw [h1]; rfl
      clear hok hs hr hpl h3 h4 h1 h2
      go_enter Tryd.func48, Tryd.ntmps48
      go_upto_region 1 with fail
      rw [← hW]
      clear hW
      go_wp2_with fail
      refine hva.out.mono ?_
      rintro e w2 ⟨rfl, hb20⟩
      have kb2 := hid (kb0.out.below_all hb20)
      have hB2 := hid (hB0.out.trans (hb20.mono hB0.out.size))
      have hbb2 := hid hb20
      clear hb20 hva hx0 hx1 hx2 hfz hlz kb0 hB0
      have x0 := kb2.out.cell 0
      have x1 := kb2.out.cell 1
      have x2 := kb2.out.cell 2
      simp only [List.getElem?_toArray, List.getElem?_cons_zero, List.getElem?_cons_succ] at x0 x1 x2
      have fz := fun q => kb2.out.frozen q
      have hlt := kb2.out.lt
      go_upto_region 8 with fail
      have ho0 := hid (World.ownsRow_lit (base := w2.heap.size) (e := 5) (size := 1) w2 #[.int .u8 34] 1 (Nat.le_refl _) (by decide) rfl)
      have hB3 : Hid (Below w2.heap.size w2 (w2.alloc (.cells #[.int .u8 34] 5))) := hid ((Below.refl _ _).alloc (Nat.le_refl _) _)
      generalize w2.alloc (.cells #[.int .u8 34] 5) = w3 at *
      have kb3 := hid (kb2.out.below_all hB3.out)
      clear x0 x1 x2 fz hlt
      have x2 : w3.cell? ⟨w.heap.size, 2, none⟩ = some (.string v.s) := kb3.out.cell 2
      have hlt := kb3.out.lt
      go_wp2_with fail
      go_loopw [4, 5, 25] (fun v4 _ v25 wr => ∃ (k : Nat) (A : Option Addr) (c : Nat) (L : List Nat), v4 = .slice A L.length c ∧ v25 = .int .i64 k ∧ k ≤ v.s.size ∧ L.length ≤ 1 + 2 * k ∧ wr.ownsRow w2.heap.size 5 1 (.slice A L.length c) L.length (bcells L) ∧ Below w2.heap.size w2 wr ∧ lb L = 34 :: escL (v.s.data.toList.take k)) (fun _ _ v25 _ => v.s.size - (intOf v25).toNat)
      case atStart => exact ⟨0, some ⟨w2.heap.size, 0, none⟩, 1, [34], rfl, rfl, Nat.zero_le _, by simp, ho0.out, hB3.out, rfl⟩
      case round =>
        clear x2 hlt ho0 hB3 kb3
        obtain ⟨k, A, c, L, rfl, rfl, hks, hL0, hown0, hB0, hR0⟩ := hrel
        have hL := hid hL0; have hown := hid hown0; have hB := hid hB0; have hR := hid hR0
        have hL9 : (L.length : Int) ≤ 200 := by have := hs64.out; omega
        have hL8 := hid (show L.length ≤ 200 by have := hs64.out; omega)
        clear hL0 hown0 hB0 hR0
        have kb4 := hid (kb2.out.below_all hB.out)
        have x2 : wr.cell? ⟨w.heap.size, 2, none⟩ = some (.string v.s) := kb4.out.cell 2
        have hltz := kb4.out.lt
        by_cases hlt : k < v.s.size
        · have i1 : (k : Int) < (v.s.size : Int) := by omega
          have hst := esc_step hlt
          by_cases hq : v.s.data[k]'hlt = 34 ∨ v.s.data[k]'hlt = 92
          · rw [if_pos hq] at hst
            have hR2 : Hid (lb ((L ++ [92]) ++ [(v.s[k]'hlt).toNat]) = 34 :: escL (v.s.data.toList.take (k + 1))) := hid (by
              rw [hst, show (v.s[k]'hlt).toNat = (v.s.data[k]'hlt).toNat from rfl, lb_snoc, show (92 : Nat) = (92 : UInt8).toNat from rfl, lb_snoc, hR.out]; simp)
            clear hst
            have hcase : Hid (((v.s[k]'hlt).toNat = 34) ∨ ((v.s[k]'hlt).toNat ≠ 34 ∧ (v.s[k]'hlt).toNat = 92)) := hid (by
              by_cases h34 : v.s.data[k]'hlt = 34
              · exact .inl (byte_eq (hk := hlt) h34)
              · exact .inr ⟨byte_ne (hk := hlt) h34, byte_eq (hk := hlt) (hq.resolve_left h34)⟩)
            clear hq
            rcases hcase.out with hc | ⟨hc0, hc⟩
            · have b1 : (((v.s[k]'hlt).toNat : Int) == 34) = true := by rw [hc]; rfl
              have b2 : (((v.s[k]'hlt).toNat : Int) == 92) = false := by rw [hc]; rfl
              rw [hc] at hR2
              skip
              go_upto_region 13 with (
                at_builtin
                refine wpList_append_rd _ rfl (.tmp 40) (.tmp 41) 22 rfl w2.heap.size 5 ib _ 1 1 Tryd.underlying22 hb0 hb1 hb2 hb3 rfl (by omega) (.slice A (L.length) c) (L.length) (bcells L) rfl (hown.out.alloc _) (fun b => b = wr.heap.size) (some ⟨wr.heap.size, 0, none⟩) 1 1 [.int .u8 (((92 : Nat) : Int))] rfl (Rd.new wr 5 1 1 #[.int .u8 (((92 : Nat) : Int))] _ rfl rfl) (by intro u hu; simp at hu; subst hu; rfl) (by simp only [maxLen]; have := hL8.out; omega) (by have := hL8.out; omega) (by have := hB.out.size; simp; omega) ?_
                intro v5 w5 hown5 hg5 hat5
                have hB5 := hid ((hB.out.alloc hB.out.size (.cells #[.int .u8 (((92 : Nat) : Int))] 5)).grown hg5 (by have := hB.out.size; simp; omega) fun k hk => (hown.out.lt k hk).1)
                obtain ⟨A5, c5, rfl, _⟩ := own_form hown5
                rw [← bcells_snoc] at hown5
                have hown5 := hid hown5
                skip
                clear hg5 hat5)
              have kb5 := hid (kb2.out.below_all hB5.out)
              clear x2 hltz
              have x2 : w5.cell? ⟨w.heap.size, 2, none⟩ = some (.string v.s) := kb5.out.cell 2
              have hltz := kb5.out.lt
              go_wp2_with (
                at_builtin
                refine wpList_append_rd _ rfl (.tmp 43) (.tmp 48) 22 rfl w2.heap.size 5 ib _ 1 1 Tryd.underlying22 hb0 hb1 hb2 hb3 rfl (by omega) (.slice A5 (L.length + 1) c5) (L.length + 1) (bcells (L ++ [92])) rfl (hown5.out.alloc _) (fun b => b = w5.heap.size) (some ⟨w5.heap.size, 0, none⟩) 1 1 [.int .u8 (((34 : Nat) : Int))] rfl (Rd.new w5 5 1 1 #[.int .u8 (((34 : Nat) : Int))] _ rfl rfl) (by intro u hu; simp at hu; subst hu; rfl) (by simp only [maxLen]; have := hL8.out; omega) (by have := hL8.out; omega) (by have := hB5.out.size; simp; omega) ?_
                intro v9 w9 hown9 hg9 hat9
                have hB9 := hid ((hB5.out.alloc hB5.out.size (.cells #[.int .u8 (((34 : Nat) : Int))] 5)).grown hg9 (by have := hB5.out.size; simp; omega) fun k hk => (hown5.out.lt k hk).1)
                obtain ⟨A9, c9, rfl, _⟩ := own_form hown9
                rw [← bcells_snoc] at hown9
                have hown9 := hid hown9
                skip
                clear hg9 hat9)
              refine ⟨⟨k + 1, A9, c9, (L ++ [92]) ++ [34], by simp, by first | rfl | simp, by omega, by have := hL.out; simp; omega, by simpa using hown9.out, hB9.out, hR2.out⟩, ?_⟩
              simp [intOf]
              omega
            · have b1 : (((v.s[k]'hlt).toNat : Int) == 34) = false := by rw [hc]; rfl
              have b2 : (((v.s[k]'hlt).toNat : Int) == 92) = true := by rw [hc]; rfl
              rw [hc] at hR2
              clear hc0
              go_upto_region 13 with (
                at_builtin
                refine wpList_append_rd _ rfl (.tmp 40) (.tmp 41) 22 rfl w2.heap.size 5 ib _ 1 1 Tryd.underlying22 hb0 hb1 hb2 hb3 rfl (by omega) (.slice A (L.length) c) (L.length) (bcells L) rfl (hown.out.alloc _) (fun b => b = wr.heap.size) (some ⟨wr.heap.size, 0, none⟩) 1 1 [.int .u8 (((92 : Nat) : Int))] rfl (Rd.new wr 5 1 1 #[.int .u8 (((92 : Nat) : Int))] _ rfl rfl) (by intro u hu; simp at hu; subst hu; rfl) (by simp only [maxLen]; have := hL8.out; omega) (by have := hL8.out; omega) (by have := hB.out.size; simp; omega) ?_
                intro v5 w5 hown5 hg5 hat5
                have hB5 := hid ((hB.out.alloc hB.out.size (.cells #[.int .u8 (((92 : Nat) : Int))] 5)).grown hg5 (by have := hB.out.size; simp; omega) fun k hk => (hown.out.lt k hk).1)
                obtain ⟨A5, c5, rfl, _⟩ := own_form hown5
                rw [← bcells_snoc] at hown5
                have hown5 := hid hown5
                skip
                clear hg5 hat5)
              have kb5 := hid (kb2.out.below_all hB5.out)
              clear x2 hltz
              have x2 : w5.cell? ⟨w.heap.size, 2, none⟩ = some (.string v.s) := kb5.out.cell 2
              have hltz := kb5.out.lt
              go_wp2_with (
                at_builtin
                refine wpList_append_rd _ rfl (.tmp 43) (.tmp 48) 22 rfl w2.heap.size 5 ib _ 1 1 Tryd.underlying22 hb0 hb1 hb2 hb3 rfl (by omega) (.slice A5 (L.length + 1) c5) (L.length + 1) (bcells (L ++ [92])) rfl (hown5.out.alloc _) (fun b => b = w5.heap.size) (some ⟨w5.heap.size, 0, none⟩) 1 1 [.int .u8 (((92 : Nat) : Int))] rfl (Rd.new w5 5 1 1 #[.int .u8 (((92 : Nat) : Int))] _ rfl rfl) (by intro u hu; simp at hu; subst hu; rfl) (by simp only [maxLen]; have := hL8.out; omega) (by have := hL8.out; omega) (by have := hB5.out.size; simp; omega) ?_
                intro v9 w9 hown9 hg9 hat9
                have hB9 := hid ((hB5.out.alloc hB5.out.size (.cells #[.int .u8 (((92 : Nat) : Int))] 5)).grown hg9 (by have := hB5.out.size; simp; omega) fun k hk => (hown5.out.lt k hk).1)
                obtain ⟨A9, c9, rfl, _⟩ := own_form hown9
                rw [← bcells_snoc] at hown9
                have hown9 := hid hown9
                skip
                clear hg9 hat9)
              refine ⟨⟨k + 1, A9, c9, (L ++ [92]) ++ [92], by simp, by first | rfl | simp, by omega, by have := hL.out; simp; omega, by simpa using hown9.out, hB9.out, hR2.out⟩, ?_⟩
              simp [intOf]
              omega
          · rw [if_neg hq] at hst
            have c34 : (v.s[k]'hlt).toNat ≠ 34 := byte_ne (hk := hlt) fun e => hq (.inl e)
            have c92 : (v.s[k]'hlt).toNat ≠ 92 := byte_ne (hk := hlt) fun e => hq (.inr e)
            have b1 : (((v.s[k]'hlt).toNat : Int) == 34) = false := by simp; omega
            have b2 : (((v.s[k]'hlt).toNat : Int) == 92) = false := by simp; omega
            have hR2 : Hid (lb (L ++ [(v.s[k]'hlt).toNat]) = 34 :: escL (v.s.data.toList.take (k + 1))) := hid (by
              rw [hst, show (v.s[k]'hlt).toNat = (v.s.data[k]'hlt).toNat from rfl, lb_snoc, hR.out]; simp)
            clear hst hq c34 c92
            go_wp2_with (
              at_builtin
              refine wpList_append_rd _ rfl (.tmp 43) (.tmp 48) 22 rfl w2.heap.size 5 ib _ 1 1 Tryd.underlying22 hb0 hb1 hb2 hb3 rfl (by omega) (.slice A (L.length) c) (L.length) (bcells L) rfl (hown.out.alloc _) (fun b => b = wr.heap.size) (some ⟨wr.heap.size, 0, none⟩) 1 1 [.int .u8 (((v.s[k]'hlt).toNat : Nat))] rfl (Rd.new wr 5 1 1 #[.int .u8 (((v.s[k]'hlt).toNat : Nat))] _ rfl rfl) (by intro u hu; simp at hu; subst hu; rfl) (by simp only [maxLen]; have := hL8.out; omega) (by have := hL8.out; omega) (by have := hB.out.size; simp; omega) ?_
              intro v9 w9 hown9 hg9 hat9
              have hB9 := hid ((hB.out.alloc hB.out.size (.cells #[.int .u8 (((v.s[k]'hlt).toNat : Nat))] 5)).grown hg9 (by have := hB.out.size; simp; omega) fun k hk => (hown.out.lt k hk).1)
              obtain ⟨A9, c9, rfl, _⟩ := own_form hown9
              rw [← bcells_snoc] at hown9
              have hown9 := hid hown9
              skip
              clear hg9 hat9)
            refine ⟨⟨k + 1, A9, c9, L ++ [(v.s[k]'hlt).toNat], by simp, by first | rfl | simp, by omega, by have := hL.out; simp; omega, by simpa using hown9.out, hB9.out, hR2.out⟩, ?_⟩
            simp [intOf]
            omega
        · have i1 : ¬ ((k : Int) < (v.s.size : Int)) := by omega
          have hR2 : Hid (lb (L ++ [34]) = printL v) := hid (by
            rw [hfin.out, show (34 : Nat) = (34 : UInt8).toNat from rfl, lb_snoc, hR.out, take_all (by omega)]; rfl)
          clear hlt
          go_wp2_with (
            at_builtin
            refine wpList_append_rd _ rfl (.tmp 51) (.tmp 52) 22 rfl w2.heap.size 5 ib _ 1 1 Tryd.underlying22 hb0 hb1 hb2 hb3 rfl (by omega) (.slice A (L.length) c) (L.length) (bcells L) rfl (hown.out.alloc _) (fun b => b = wr.heap.size) (some ⟨wr.heap.size, 0, none⟩) 1 1 [.int .u8 (((34 : Nat) : Int))] rfl (Rd.new wr 5 1 1 #[.int .u8 (((34 : Nat) : Int))] _ rfl rfl) (by intro u hu; simp at hu; subst hu; rfl) (by simp only [maxLen]; have := hL8.out; omega) (by have := hL8.out; omega) (by have := hB.out.size; simp; omega) ?_
            intro v9 w9 hown9 hg9 hat9
            have hB9 := hid ((hB.out.alloc hB.out.size (.cells #[.int .u8 (((34 : Nat) : Int))] 5)).grown hg9 (by have := hB.out.size; simp; omega) fun k hk => (hown.out.lt k hk).1)
            obtain ⟨A9, c9, rfl, _⟩ := own_form hown9
            rw [← bcells_snoc] at hown9
            have hown9 := hid hown9
            have hcv := convB (Rd.of_own hown9.out) (c := c9) (by simp)
            clear hg9 hat9)
          have hfb : Hid (Below w.heap.size w w9) := hid (hB2.out.trans (hB9.out.mono hB2.out.size))
          refine bodyPost_ret (v := .tuple #[.string (bt (L ++ [34])), .int .i64 0]) (by simp [results, Tryd.results48, go_sem]) rfl ⟨?_, hfb.out⟩
          rw [← hR2.out, hpe.out]; rfl

end Go.Proofs.YtefigpmkiemfhaaDoor

namespace Go.Proofs.YtefigpmkiemfhaaDoor
open Go.RowKit
set_option linter.unusedVariables false
set_option linter.unusedSimpArgs false

def lineL (x : Kv) : List UInt8 := x.1.data.toList ++ (32 :: (printL x.2 ++ [10]))
def headL (s : St) : List UInt8 := Lib.itoa s.parts ++ (10 :: (Lib.itoa s.room ++ [10]))
def bytesTo (s : St) (i : Nat) : List UInt8 := headL s ++ (s.L.take i).flatMap lineL
def bytesS (s : St) : List UInt8 := headL s ++ s.L.flatMap lineL
theorem bytesTo_zero (s : St) : bytesTo s 0 = headL s := by simp [bytesTo]
theorem bytesTo_all (s : St) : bytesTo s s.L.length = bytesS s := by unfold bytesTo bytesS; rw [List.take_length]
theorem bytesTo_step (s : St) {i : Nat} (h : i < s.L.length) : bytesTo s (i + 1) = bytesTo s i ++ lineL s.L[i] := by
  unfold bytesTo
  rw [List.take_succ_eq_append_getElem h, List.flatMap_append, List.append_assoc]
  simp
theorem escL_len : ∀ l : List UInt8, (escL l).length ≤ 2 * l.length
  | [] => Nat.le_refl _
  | c :: l => by
    have := escL_len l
    unfold escL at *
    rw [List.flatMap_cons, List.length_append, List.length_cons]
    split <;> simp only [List.length_cons, List.length_nil] <;> omega
theorem print_len {v : Vl} (hok : v.ok = true) (hr : v.rng) : (printL v).length ≤ 200 := by
  unfold printL litL
  rw [if_pos hok]
  split
  · have := Lib.itoa_length_le v.n hr.1 hr.2
    omega
  · split
    · decide
    · have h := ok_forms hok
      have h2 : v.s.size ≤ 64 := by
        rcases h with rfl | ⟨h1, h2⟩ | ⟨h1, h2, h3, h4⟩
        · decide
        · rw [h2]; decide
        · exact h3
      have := escL_len v.s.data.toList
      have e : v.s.data.toList.length = v.s.size := Array.length_toList
      simp
      omega
theorem line_len {x : Kv} (hk : validK x.1 = true) (hok : x.2.ok = true) (hr : x.2.rng) : (lineL x).length ≤ 300 := by
  have h1 := print_len hok hr
  have h2 : x.1.size ≤ 32 := by unfold validK at hk; simp at hk; omega
  have e : x.1.data.toList.length = x.1.size := Array.length_toList
  unfold lineL
  simp only [List.length_append, List.length_cons, List.length_nil]
  omega
theorem flat_le : ∀ {l : List Kv}, (∀ x ∈ l, (lineL x).length ≤ 300) → (l.flatMap lineL).length ≤ 300 * l.length
  | [], _ => Nat.le_refl _
  | x :: l, h => by
    have h1 := h x (List.mem_cons_self ..)
    have h2 := flat_le (l := l) fun y hy => h y (List.mem_cons_of_mem _ hy)
    rw [List.flatMap_cons, List.length_append, List.length_cons]
    omega
theorem bytesTo_len {s : St} (h : ∀ x ∈ s.L, (lineL x).length ≤ 300) (hh : (headL s).length ≤ 60) (hn : s.L.length ≤ 262144) (i : Nat) : (bytesTo s i).length ≤ 100000000 := by
  unfold bytesTo
  have h1 := flat_le (l := s.L.take i) fun x hx => h x (List.mem_of_mem_take hx)
  have h2 : (s.L.take i).length ≤ s.L.length := by rw [List.length_take]; omega
  rw [List.length_append]
  omega
theorem head_len {s : St} (h1 : s.parts ≤ 64) (h2 : s.room ≤ 4096) : (headL s).length ≤ 60 := by
  have a := Lib.itoa_length_le (s.parts : Int) (by omega) (by omega)
  have b := Lib.itoa_length_le (s.room : Int) (by omega) (by omega)
  unfold headL
  simp only [List.length_append, List.length_cons, List.length_nil]
  omega
end Go.Proofs.YtefigpmkiemfhaaDoor

namespace Go.Proofs.YtefigpmkiemfhaaDoor
open Go.RowKit
set_option linter.unusedVariables false
set_option linter.unusedSimpArgs false

/-- a number's text -/
def dg (n : Int) : ByteArray := ⟨(Lib.itoa n).toArray⟩
theorem dg_size {n : Int} (h0 : -9223372036854775808 ≤ n) (h1 : n ≤ 9223372036854775807) : (dg n).size ≤ 21 := by
  have := Lib.itoa_length_le n h0 h1
  unfold dg ByteArray.size
  simpa using this
theorem digits_dg (n : Int) (h0 : -9223372036854775808 ≤ n) (h1 : n ≤ 9223372036854775807) (w : World) (he : Env w) :
    Calls Tryd.prog 46 #[.int .i64 n] w fun e w' => e = .returned (.string (dg n)) ∧ Below w.heap.size w w' := digits_any n h0 h1 w he
theorem isBuf_below {T e : TypeId} {B b : Nat} {bs : List Value} {w w' : World} (h : Lib.IsBuffer T e B b bs w) (hb : Below w.heap.size w w') : Lib.IsBuffer T e B b bs w' := by
  have hlt := h.lt
  obtain ⟨hB, v, lr, hbk, hown, hne⟩ := h
  exact ⟨hB, v, lr, (hb.block b hlt).trans hbk, own_updB hown (Upd.of_below' hb (fun _ => False)) (fun _ _ _ h => h), hne⟩
theorem byteCells_one (l : List UInt8) : ∀ v ∈ Lib.byteCells l, v.oneCell' = true := by
  intro v hv
  obtain ⟨x, _, rfl⟩ := List.mem_map.1 hv
  rfl
theorem head_text (s : St) : (dg s.parts ++ ⟨#[10]⟩ ++ dg s.room ++ ⟨#[10]⟩ : ByteArray).data.toList = headL s := by
  simp [dg, headL, ByteArray.data_append]
/-- a value's text -/
def pt (v : Vl) : ByteArray := ⟨(printL v).toArray⟩
theorem pt_size {v : Vl} (hok : v.ok = true) (hr : v.rng) : (pt v).size ≤ 200 := by
  have := print_len hok hr
  unfold pt ByteArray.size
  simpa using this
theorem line_text (x : Kv) : (x.1 ++ ⟨#[32]⟩ ++ pt x.2 ++ ⟨#[10]⟩ : ByteArray).data.toList = lineL x := by
  simp [pt, lineL, ByteArray.data_append]
theorem own_others {w w' : World} {base b : Nat} {t u : TypeId} {size n : Nat} {v : Value} {xs : List Value} (h : w.ownsRow base t size v n xs) (hk : Lib.OthersKept u (some b) w w') (hb : b < base) (ht : t ≠ u) : w'.ownsRow base t size v n xs := by
  refine ⟨h.1, ?_⟩
  rcases h.2 with hn | ⟨g, cap, cur, rfl, hg, hh, rest⟩
  · exact .inl hn
  · exact .inr ⟨g, cap, cur, rfl, hg, hk g _ hh (fun e => by injection e with e; omega) (fun c fz e => by injection e with _ e; exact ht e), rest⟩
theorem others_below {u : TypeId} {b : Option Nat} {w w' : World} (h : Below w.heap.size w w') : Lib.OthersKept u b w w' := fun k o hk _ _ => (h.block k (Array.getElem?_eq_some_iff.1 hk).1).trans hk
section
variable {S : Nat → Prop} {w : World} {g : Nat} {s : St}
set_option maxRecDepth 100000 in
theorem parts_any (h : PAt S w g s) : Calls Tryd.prog 47 #[.pointer (some ⟨g, 0, none⟩)] w fun e w' => e = .returned (.int .i64 s.parts) ∧ w' = w := by
  obtain ⟨cb, cc, mb, vb, h⟩ := h
  have c1 := h.cells.2.1
  clear h
  go_enter Tryd.func47, Tryd.ntmps47
  go_wp2_with fail
  go_ret
  exact ⟨rfl, rfl⟩
set_option maxRecDepth 100000 in
set_option maxHeartbeats 4000000 in
theorem bytes_any (h : PAt S w g s) (he : Env w) (hr : ∀ x ∈ s.L, x.2.rng) : Calls Tryd.prog 28 #[.pointer (some ⟨g, 0, none⟩)] w fun e w' => ∃ v, e = .returned v ∧ w'.ownsRow w.heap.size 5 1 v (bytesS s).length (Lib.byteCells (bytesS s)) ∧ Below w.heap.size w w' := by
  have HP := hid h
  have HE := hid he
  have HR := hid hr
  have hB0 : Hid (Below w.heap.size w (w.alloc (.cells #[.slice none 0 0, .int .i64 0, .int .i8 0] 91))) := hid ((Below.refl _ _).alloc (Nat.le_refl _) _)
  have hI0 := hid (Lib.fresh_isBuffer 91 5 w)
  clear h he hr
  go_enter Tryd.func28, Tryd.ntmps28
  go_upto_region 4 with fail
  generalize w.alloc (.cells #[.slice none 0 0, .int .i64 0, .int .i8 0] 91) = w1 at *
  have hkeep := hid (show ∀ W, Below w1.heap.size w1 W → W.cell? ⟨g, 0, none⟩ = some (.int .i64 s.room) from fun W hb => by
    obtain ⟨cb, cc, mb, vb, h⟩ := HP.out.below (hB0.out.trans (hb.mono hB0.out.size))
    exact h.cells.1)
  have hkw := hid (show ∀ W, Below w.heap.size w W → W.cell? ⟨g, 0, none⟩ = some (.int .i64 s.room) from fun W hb => by
    obtain ⟨cb, cc, mb, vb, h⟩ := HP.out.below hb
    exact h.cells.1)
  have hkP := hid (show ∀ W, Below w1.heap.size w1 W → PAt S W g s from fun W hb => HP.out.below (hB0.out.trans (hb.mono hB0.out.size)))
  have hkE := hid (show ∀ W, Below w1.heap.size w1 W → Env W from fun W hb => HE.out.below (hB0.out.trans (hb.mono hB0.out.size)))
  have hpr := hid (show (0 : Int) ≤ s.parts ∧ (s.parts : Int) ≤ 64 by have := HP.out.ok.parts; omega)
  have hrr := hid (show (0 : Int) ≤ s.room ∧ (s.room : Int) ≤ 4096 by have := HP.out.ok.room; omega)
  have z1 : (dg s.parts).size ≤ 21 := dg_size (by omega) (by have := hpr.out; omega)
  have z2 : (dg s.room).size ≤ 21 := dg_size (by omega) (by have := hrr.out; omega)
  have z3 : ByteArray.size ⟨#[10]⟩ = 1 := rfl
  have hs1 : ∀ W, (Op.stringOp .add (dg s.parts) ⟨#[10]⟩).run Tryd.prog W = .ok (.string (dg s.parts ++ ⟨#[10]⟩)) W := fun W => run_string_add_sum W _ _ (by omega)
  have hs2 : ∀ W, (Op.stringOp .add (dg s.parts ++ ⟨#[10]⟩) (dg s.room)).run Tryd.prog W = .ok (.string (dg s.parts ++ ⟨#[10]⟩ ++ dg s.room)) W := fun W => run_string_add_sum W _ _ (by simp only [ByteArray.size_append]; omega)
  have hs3 : ∀ W, (Op.stringOp .add (dg s.parts ++ ⟨#[10]⟩ ++ dg s.room) ⟨#[10]⟩).run Tryd.prog W = .ok (.string (dg s.parts ++ ⟨#[10]⟩ ++ dg s.room ++ ⟨#[10]⟩)) W := fun W => run_string_add_sum W _ _ (by simp only [ByteArray.size_append]; omega)
  go_cut [] (fun wx => Lib.IsBuffer 91 5 w.heap.size w.heap.size (Lib.byteCells (headL s)) wx ∧ Below w.heap.size w wx)
  case first =>
    have hbX : Hid (Below w1.heap.size w1 w1.drew) := hid (Below.refl _ _).drew
    go_region_held3 (fun W => W.cell? ⟨g, 0, none⟩ = some (.int .i64 s.room)) (first | exact hkw.out _ hbY.out | exact hkeep.out _ hbX.out | exact hkeep.out _ hbX.out.drew)
      (first
        | (go_at_call 47; refine (parts_any (hkP.out _ hbX.out)).mono ?_; rintro e wb ⟨rfl, hwq⟩; obtain rfl := hwq.symm)
        | (go_at_call 46; refine (digits_dg _ (by have := hpr.out; have := hrr.out; omega) (by have := hpr.out; have := hrr.out; omega) _ (hkE.out _ hbX.out)).mono ?_; rintro e wb ⟨rfl, hbb⟩; have hbX : Hid (Below w1.heap.size w1 wb) := hid (hbX.out.trans (hbb.mono hbX.out.size)); clear hbb)
        | (go_at_call 45; refine (Buffer_WriteString_k w.heap.size w.heap.size [] _ _ (isBuf_below hI0.out hbX.out) (hB0.out.trans (hbX.out.mono hB0.out.size)).size (by simp) (by simp only [List.length_nil, ByteArray.size_append, z3]; omega)).mono ?_; rintro e wb ⟨rfl, hIb0, hbb, _⟩; have hIb := hid hIb0; have hbY : Hid (Below w.heap.size w wb) := hid ((hB0.out.trans (hbX.out.mono hB0.out.size)).trans hbb); clear hbb hIb0))
    all_goals go_wp2_with fail
    all_goals go_meet
    all_goals exact ⟨by have h := hIb.out; rw [head_text] at h; simpa using h, hbY.out⟩
  case rest =>
    obtain ⟨hI1, hB1⟩ := hcut
    have HI := hid hI1
    have HB := hid hB1
    have hks := hid (keys_any (HP.out.below hB1))
    clear hI1 hB1 hs1 hs2 hs3 z1 z2 hkeep hkw hkP hkE hB0 hI0
    go_wp2_with fail
    refine hks.out.mono ?_
    rintro e wk ⟨A, c, rfl, hown0, hbk⟩
    have hO := hid hown0
    have hI2 := hid (isBuf_below HI.out hbk)
    have hB2 := hid (HB.out.trans (hbk.mono HB.out.size))
    have hbl := hid (HI.out.lt)
    have hln := hid (bytesTo_len (s := s) (fun x hx => line_len (HP.out.ok.key x hx) (HP.out.ok.val x hx) (HR.out x hx)) (head_len (by have := HP.out.ok.parts; omega) (by have := HP.out.ok.room; omega)) HP.out.ok.len)
    clear hown0 hbk HI HB hks
    generalize hlL : s.L.length = n at *
    have hnn : (n : Int) ≤ 262144 := by have := HP.out.ok.len; omega
    go_wp2_with fail
    go_loopw [25] (fun v wr => ∃ i : Nat, v = .int .i64 i ∧ i ≤ n ∧ Lib.IsBuffer 91 5 w.heap.size w.heap.size (Lib.byteCells (bytesTo s i)) wr ∧ Below w.heap.size w wr ∧ Lib.OthersKept 5 (some w.heap.size) wk wr) (fun v _ => n - (intOf v).toNat)
    case atStart => exact ⟨0, rfl, Nat.zero_le _, by rw [bytesTo_zero]; exact hI2.out, hB2.out, .refl _ _ _⟩
    case round =>
      obtain ⟨i, rfl, hi, hI0, hB0, hK0⟩ := hrel
      have hI := hid hI0
      have hB := hid hB0
      have hK := hid hK0
      by_cases hlt : i < n
      · have i1 : (i : Int) < (n : Int) := by omega
        have hlt' : i < s.L.length := by omega
        obtain ⟨x, hx⟩ : ∃ x, x = s.L[i] := ⟨_, rfl⟩
        have hmem : x ∈ s.L := by rw [hx]; exact List.getElem_mem hlt'
        have hOr := own_others hO.out hK0 hbl.out (by decide)
        obtain ⟨b, o, rfl, _, _, y0⟩ := rd_strs (ks := s.L.map (·.1)) (i := i) (by rw [List.length_map, hlL]; exact Rd.of_own' hOr) (by simpa using hlt')
        rw [show (s.L.map (·.1))[i]'(by simpa using hlt') = x.1 by simp [hx]] at y0
        obtain ⟨cb, cc, mb, vb, hin⟩ := HP.out.below hB0
        have c2 := hin.cells.2.2
        have hget := hin.get x.1
        rw [valK_mem HP.out.ok.asc hmem] at hget
        have hvk := hid (HP.out.ok.key x hmem)
        have hvo := hid (HP.out.ok.val x hmem)
        have hvr := hid (HR.out x hmem)
        have hstep := hid (bytesTo_step s hlt')
        have hxx := hid hx
        have hpr9 := hid (print_any x.2 wr (by
          rcases ok_forms hvo.out with e | ⟨_, e⟩ | ⟨_, _, e, _⟩
          · rw [e]; decide
          · rw [e]; decide
          · omega) hvr.out (HE.out.below hB0))
        clear hx hI0 hB0 hK0 hOr hin hmem
        go_wp2_with fail
        refine hpr9.out.mono ?_
        rintro e wq ⟨rfl, hbq⟩
        rw [show (⟨(printL x.2).toArray⟩ : ByteArray) = pt x.2 from rfl]
        have hIq := hid (isBuf_below hI.out hbq)
        have hBq := hid (hB.out.trans (hbq.mono hB.out.size))
        have hKq := hid (hK.out.trans (others_below hbq))
        have z1 : x.1.size ≤ 32 := by have := hvk.out; unfold validK at this; simp at this; omega
        have z2 : (pt x.2).size ≤ 200 := pt_size hvo.out hvr.out
        have z3 : ByteArray.size ⟨#[10]⟩ = 1 := rfl
        have z4 : ByteArray.size ⟨#[32]⟩ = 1 := rfl
        have hsz := hid (show (x.1 ++ ⟨#[32]⟩ ++ pt x.2 ++ ⟨#[10]⟩ : ByteArray).size ≤ 1000 by simp only [ByteArray.size_append]; omega)
        have hs1 : ∀ W, (Op.stringOp .add x.1 ⟨#[32]⟩).run Tryd.prog W = .ok (.string (x.1 ++ ⟨#[32]⟩)) W := fun W => run_string_add_sum W _ _ (by omega)
        have hs2 : ∀ W, (Op.stringOp .add (x.1 ++ ⟨#[32]⟩) (pt x.2)).run Tryd.prog W = .ok (.string (x.1 ++ ⟨#[32]⟩ ++ pt x.2)) W := fun W => run_string_add_sum W _ _ (by simp only [ByteArray.size_append]; omega)
        have hs3 : ∀ W, (Op.stringOp .add (x.1 ++ ⟨#[32]⟩ ++ pt x.2) ⟨#[10]⟩).run Tryd.prog W = .ok (.string (x.1 ++ ⟨#[32]⟩ ++ pt x.2 ++ ⟨#[10]⟩)) W := fun W => run_string_add_sum W _ _ (by simp only [ByteArray.size_append]; omega)
        clear hbq z1 z2 z3 z4 y0 c2 hget hI hB hK hpr9
        go_wp2_with fail
        refine (Buffer_WriteString_k w.heap.size w.heap.size _ _ _ hIq.out hBq.out.size (byteCells_one _) (by have h1 := hln.out i; have h2 := hsz.out; rw [Lib.byteCells_length]; omega)).mono ?_
        rintro e wb ⟨rfl, hIb0, hbb, hkb⟩
        have hfin : Hid (∃ i' : Nat, Value.int .i64 ((i : Int) + 1) = .int .i64 i' ∧ i' ≤ n ∧ Lib.IsBuffer 91 5 w.heap.size w.heap.size (Lib.byteCells (bytesTo s i')) wb ∧ Below w.heap.size w wb ∧ Lib.OthersKept 5 (some w.heap.size) wk wb) := hid ⟨i + 1, by simp, hlt, by rw [hstep.out, Lib.byteCells_append, ← hxx.out, ← line_text]; exact hIb0, hBq.out.trans hbb, hKq.out.trans hkb⟩
        have hj : IntKind.i64.wrap ((i : Int) + 1) = (i : Int) + 1 := by rw [IntKind.wrap_i64]; omega
        clear hIb0 hbb hkb hIq hBq hKq hs1 hs2 hs3
        go_wp2_with fail
        go_roundw
        case rel => exact hfin.out
        case measure => simp [intOf]; omega
      · obtain rfl : i = n := by omega
        have hby := Buffer_Bytes w.heap.size w.heap.size _ wr hI.out
        rw [← hlL, bytesTo_all] at hby
        have hby := hid hby
        clear hlt hI0 hB0 hK0
        go_wp2_with fail
        refine hby.out.mono ?_
        rintro e w9 ⟨v, rfl, hov, q, rfl⟩
        have hfin : Hid ((wr.drewN q).ownsRow w.heap.size 5 1 v (bytesS s).length (Lib.byteCells (bytesS s)) ∧ Below w.heap.size w (wr.drewN q)) := hid ⟨by rw [Lib.byteCells_length] at hov; exact hov, below_drewN hB.out q⟩
        clear hov hby
        go_wp2_with fail
        go_ret
        exact ⟨v, rfl, hfin.out.1, hfin.out.2⟩
end
end Go.Proofs.YtefigpmkiemfhaaDoor

namespace Go.Proofs.YtefigpmkiemfhaaDoor
open Go.RowKit
set_option linter.unusedVariables false
set_option linter.unusedSimpArgs false

def RngL (L : List Kv) : Prop := ∀ x ∈ L, x.2.rng
theorem rng_vl0 : vl0.rng := by unfold Vl.rng vl0; constructor <;> decide
theorem rng_claim {s : St} {ks : List ByteArray} (h : RngL s.L) : RngL (claimS s ks).L := by
  unfold claimS
  split
  · intro x hx
    rcases insAll_mem hx with ⟨_, e⟩ | hx
    · rw [e]; exact rng_vl0
    · exact h x hx
  · exact h
theorem rng_upAll : ∀ {ws : List Wr} {L : List Kv}, RngL L → (∀ x ∈ ws, x.v.rng) → RngL (upAll L ws)
  | [], L, h, _ => h
  | x :: ws, L, h, hw => rng_upAll (ws := ws) (L := upK x.key x.v L) (fun y hy => by
      rcases up_mem hy with ⟨_, e⟩ | hy
      · rw [e]; exact hw x (List.mem_cons_self ..)
      · exact h y hy) fun y hy => hw y (List.mem_cons_of_mem _ hy)
theorem rng_apply {s : St} {ws : List Wr} (h : RngL s.L) (hw : ∀ x ∈ ws, x.v.rng) : RngL (applyS s ws).L := by
  unfold applyS
  split
  · exact rng_upAll h hw
  · exact h
theorem wrE_ne5 (s : St) (ws : List Wr) (i : Nat) : wrE s ws i ≠ 5 := by
  unfold wrE
  simp only
  split
  · decide
  · split
    · decide
    · split
      · decide
      · split
        · decide
        · split <;> decide
theorem claim_has {s : St} {ks : List ByteArray} (h : claimE s ks = 0) {k : ByteArray} (hk : k ∈ ks) : hasK k (claimS s ks).L = true := by
  unfold claimS
  rw [if_pos h]
  show hasK k (insAll s.L ks) = true
  rw [insAll_has]
  have : ks.any (fun j => decide (j = k)) = true := List.any_eq_true.2 ⟨k, hk, by simp⟩
  rw [this]; rfl
section
variable {S : Nat → Prop} {w : World} {g : Nat} {s : St}
end
end Go.Proofs.YtefigpmkiemfhaaDoor

namespace Go.Proofs.YtefigpmkiemfhaaDoor
open Go.RowKit
set_option linter.unusedVariables false
set_option linter.unusedSimpArgs false

def RngZ (z : Zg) : Prop := (∀ k, (z.f k).c0.rng ∧ (z.f k).c1.rng) ∧ RngL z.taken ∧ RngL z.s.L
theorem rngz_new (p r : Nat) : RngZ (zg0 p r) := ⟨fun _ => ⟨rng_vl0, rng_vl0⟩, fun x hx => (by cases hx), fun x hx => (by cases hx)⟩
theorem rngz_claim {z : Zg} (h : RngZ z) (ks : List ByteArray) : RngZ (z.claim ks) := by
  unfold Zg.claim
  split
  · refine ⟨fun k => ?_, h.2.1, rng_claim h.2.2⟩
    show (newF z.s.L z.fresh z.f ks k).c0.rng ∧ (newF z.s.L z.fresh z.f ks k).c1.rng
    unfold newF
    split
    · exact ⟨rng_vl0, rng_vl0⟩
    · exact h.1 k
  · exact h
theorem putAll_rng : ∀ {ws : List Wr} {f : ByteArray → Ce}, (∀ x ∈ ws, x.v.rng) → (∀ k, (f k).c0.rng ∧ (f k).c1.rng) → ∀ k, (putAll f ws k).c0.rng ∧ (putAll f ws k).c1.rng
  | [], _, _, h, k => h k
  | x :: ws, f, hv, h, k => by
    show (putAll (putFz f x) ws k).c0.rng ∧ _
    refine putAll_rng (fun y hy => hv y (List.mem_cons_of_mem _ hy)) (fun k => ?_) k
    unfold putFz
    split
    · have := hv x (List.mem_cons_self ..)
      unfold Ce.put
      split
      · exact ⟨(h k).1, this⟩
      · exact ⟨this, (h k).2⟩
    · exact h k
theorem rngz_apply {z : Zg} (h : RngZ z) {ws : List Wr} (hv : ∀ x ∈ ws, x.v.rng) : RngZ (z.apply ws) := by
  unfold Zg.apply
  split
  · exact ⟨putAll_rng hv h.1, h.2.1, rng_apply h.2.2 hv⟩
  · exact h
theorem rngz_begin {z : Zg} (h : RngZ z) (m : Int) : RngZ (z.begin m) := by
  unfold Zg.begin
  split
  · exact ⟨h.1, fun x hx => (by cases hx), h.2.2⟩
  · exact h
theorem rngz_step {z : Zg} (h : RngZ z) (n : Int) : RngZ (z.step n) := by
  refine ⟨h.1, fun x hx => ?_, h.2.2⟩
  rcases List.mem_append.1 hx with hx | hx
  · exact h.2.1 x hx
  · obtain ⟨k, _, rfl⟩ := List.mem_map.1 hx
    show (z.f k).old.rng
    unfold Ce.old Ce.at_
    split
    · exact (h.1 k).2
    · exact (h.1 k).1
theorem rngz_take {z : Zg} (h : RngZ z) : RngZ z.take := by
  unfold Zg.take
  split <;> exact h
theorem rngz_drop {z : Zg} (h : RngZ z) : RngZ z.drop := by
  unfold Zg.drop
  split <;> exact h
theorem rng_kept {z : Zg} (h : RngZ z) : RngL z.kept.L := by
  unfold Zg.kept
  refine rng_apply (rng_claim fun x hx => (by cases hx)) fun x hx => ?_
  obtain ⟨y, hy, rfl⟩ := List.mem_map.1 hx
  exact h.2.1 y hy
theorem bcells_bytes (l : List UInt8) : Lib.byteCells l = bcells (l.map UInt8.toNat) := by
  unfold Lib.byteCells bcells
  rw [List.map_map]; rfl
/-- a store's bytes as a text -/
def btS (s : St) : ByteArray := bt ((bytesS s).map UInt8.toNat)
theorem bytes_textB {S : Nat → Prop} {w : World} {g : Nat} {s : St} (h : PAt S w g s) (he : Env w) (hr : RngL s.L) : Calls Tryd.prog 28 #[.pointer (some ⟨g, 0, none⟩)] w fun e w' => ∃ A n c, e = .returned (.slice A n c) ∧ (∀ w'', Below w'.heap.size w' w'' → (convert 22 9 (.slice A n c)).run Tryd.prog w'' = .ok (.string (btS s)) w'') ∧ Below w.heap.size w w' := by
  refine (bytes_any h he hr).mono ?_
  rintro e w' ⟨v, rfl, ho, hb⟩
  obtain ⟨A, c, rfl, _⟩ := own_form ho
  rw [bcells_bytes] at ho
  exact ⟨A, _, c, rfl, fun w'' h => convB ((Rd.of_own ho).below_all h) (by simp), hb⟩
section
variable {T SS : Nat → Prop} {w w' : World} {g sg cm : Nat} {b : ByteArray → Nat} {A1 A2 : Option Addr} {c1 c2 : Nat} {z : Zg}
set_option maxRecDepth 100000 in
theorem zbytes_any (h : ZAt T w g z) (he : Env w) (hr : RngL z.s.L) : Calls Tryd.prog 19 #[.pointer (some ⟨g, 0, none⟩)] w fun e w' => ∃ A n c, e = .returned (.slice A n c) ∧ (∀ w'', Below w'.heap.size w' w'' → (convert 22 9 (.slice A n c)).run Tryd.prog w'' = .ok (.string (btS z.s)) w'') ∧ Below w.heap.size w w' := by
  obtain ⟨SS, sg, cm, b, A1, c1, A2, c2, h⟩ := h
  have hb := hid (bytes_textB h.st he hr)
  obtain ⟨_, _, x2, _⟩ := h.cells
  clear h he hr
  go_enter Tryd.func19, Tryd.ntmps19
  go_wp2_with fail
  refine hb.out.mono ?_
  rintro e w2 ⟨A, n, c, rfl, hcv, hb2⟩
  have hcv := hid hcv
  have hb2 := hid hb2
  go_wp2_with fail
  go_ret
  exact ⟨A, n, c, rfl, hcv.out, hb2.out⟩
/-- nothing but the Zig's own cells under, left turns -/
theorem ZIn.flag {u : Bool} {L : List ByteArray} {A : Option Addr} {c : Nat} (h : ZIn T SS w g sg cm b A1 c1 A2 c2 z) (hu : Upd (fun q => q = g) w w')
    (hg : Blk w' g 71 #[.int .i64 z.s.parts, .int .i64 z.s.room, .pointer (some ⟨sg, 0, none⟩), .map (some cm), .bool u, .int .i64 z.mark, .slice A L.length c, .slice A2 z.taken.length c2])
    (hL : (A = A1 ∧ c = c1 ∧ L = z.left) ∨ (A = none ∧ c = 0 ∧ L = [])) (hok : Zg.Ok { z with under := u, left := L }) : ZIn T SS w' g sg cm b A c A2 c2 { z with under := u, left := L } := by
  have hold : ∀ q, T q → q ≠ g → w'.heap[q]? = w.heap[q]? := fun q hq hn => hu.block q (h.lt q hq) hn
  obtain ⟨_, _, _, _, hp⟩ := h.st
  refine ⟨hg, ⟨_, _, _, _, hp.keep (fun q hq => hold q (h.inT.2.2.2 q hq) fun e => h.nS.1 (e ▸ hq)) hu.size⟩, h.mp.keep (hold cm h.inT.2.1 (h.mp.ne_blk h.blk)), fun k hk => (hold _ (h.inT.2.2.1 k hk) (fun e => Blk.ne_ h.blk (h.cl k hk) (by decide) e.symm)).trans (h.cl k hk), h.inj, ?_, own_keep h.taken (fun q hq => hold q (h.tIn q hq).1 (h.tIn q hq).2.2.1), h.tIn, h.inT, h.nS, fun q hq => Nat.lt_of_lt_of_le (h.lt q hq) hu.size, ?_, ?_, hok⟩
  · rcases hL with ⟨rfl, rfl, rfl⟩ | ⟨rfl, rfl, rfl⟩
    · exact h.left.keep fun q hq _ => hold q hq.1.1 hq.1.2.2.1
    · exact Rd.nil_
  · rcases hL with ⟨rfl, rfl, rfl⟩ | ⟨rfl, rfl, rfl⟩
    · exact h.len
    · exact ⟨by simp, h.len.2⟩
  · rcases hL with ⟨rfl, rfl, rfl⟩ | ⟨rfl, rfl, rfl⟩
    · exact h.lc
    · exact ⟨by simp, by simp⟩
set_option maxRecDepth 100000 in
theorem zdrop_any (h : ZAt T w g z) : Calls Tryd.prog 17 #[.pointer (some ⟨g, 0, none⟩)] w fun e w' => e = .returned (.bool z.under) ∧ ZGo T w g z.drop w' := by
  have hst := h
  obtain ⟨SS, sg, cm, b, A1, c1, A2, c2, h⟩ := h
  obtain ⟨x0, x1, x2, x3, x4, x5, x6, x7⟩ := h.cells
  cases hu : z.under with
  | false =>
    have hz : z.drop = z := by unfold Zg.drop; rw [if_neg (by simp [hu])]
    rw [hu] at x4
    rw [hz]
    have hgo := hid (hst.go (Below.refl _ _))
    clear hz h hst hu x0 x1 x2 x3 x5 x6 x7
    go_enter Tryd.func17, Tryd.ntmps17
    go_wp2_with fail
    go_ret
    exact ⟨rfl, hgo.out⟩
  | true =>
    have hz : z.drop = { z with under := false, left := [] } := by unfold Zg.drop; rw [if_pos hu]
    have hok := Zg.drop_ok h.ok
    rw [hz] at hok ⊢
    rw [hu] at x4
    have hfin : Hid (ZGo T w g { z with under := false, left := [] } ((w.setCell ⟨g, 4, none⟩ (.bool false)).setCell ⟨g, 6, none⟩ (.slice none 0 0))) := hid (by
      have hup : Upd (fun q => q = g) w ((w.setCell ⟨g, 4, none⟩ (.bool false)).setCell ⟨g, 6, none⟩ (.slice none 0 0)) := ((Upd.refl (fun q => q = g) w).setCell (p := ⟨g, 4, none⟩) (fun _ => rfl) _).setCell (p := ⟨g, 6, none⟩) (fun _ => rfl) _
      refine ⟨T, ⟨SS, sg, cm, b, none, 0, A2, c2, h.flag hup ?_ (.inr ⟨rfl, rfl, rfl⟩) hok⟩, fun q hq => .inl hq, fun q hq => hq, hup.mono fun q _ e => e ▸ h.inT.1⟩
      have h9 := (h.blk.set_ 4 (.bool false)).set_ 6 (.slice none 0 0)
      simpa using h9)
    have fz := fun q => h.blk.frozen q
    have hgl := h.blk.lt
    clear hz hok h hst hu x0 x1 x2 x3 x5 x7
    go_enter Tryd.func17, Tryd.ntmps17
    go_wp2_with fail
    go_ret
    exact ⟨rfl, hfin.out⟩
end
end Go.Proofs.YtefigpmkiemfhaaDoor

namespace Go.Proofs.YtefigpmkiemfhaaDoor
open Go.RowKit
set_option linter.unusedVariables false

theorem wpAnyH_more {P : Program} {md : Region.Mode} {ops : Array Oper} {Q : Exit → Act → World → Prop} {S S' : World → Prop} (h : ∀ w, S' w → S w) :
    ∀ (fuel : Nat) (listed : Array Bool) (a : Act) (w : World), wpAnyH P md ops Q S' fuel listed a w → wpAnyH P md ops Q S fuel listed a w
  | 0, _, _, _, hx => hx
  | n + 1, listed, a, w, hx => ⟨hx.1, fun i hi => wpOp_mono (fun a' w' h3 => ⟨h _ h3.1, wpAnyH_more h n _ _ _ h3.2⟩) (hx.2 i hi)⟩
end Go.Proofs.YtefigpmkiemfhaaDoor

namespace Go.Proofs.YtefigpmkiemfhaaDoor
open Go.RowKit
set_option linter.unusedVariables false
set_option linter.unusedSimpArgs false

theorem info_str5 : (Tryd.prog.info? 9).map (fun i => (i.zero, i.size, i.bytes)) = some (some (.string ⟨#[]⟩), 1, 16) := by kernel_rfl
theorem info_write5 : (Tryd.prog.info? 67).map (fun i => (i.zero, i.size, i.bytes)) = some (some (.agg #[.string ⟨#[]⟩, .bool false, .int .i64 0, .int .i64 0, .string ⟨#[]⟩]), 5, 56) := by kernel_rfl
theorem own_ne {w : World} {b1 b2 s1 s2 n1 n2 : Nat} {e1 e2 : TypeId} {v1 v2 : Value} {xs1 xs2 : List Value} (h1 : w.ownsRow b1 e1 s1 v1 n1 xs1) (h2 : w.ownsRow b2 e2 s2 v2 n2 xs2) (he : e1 ≠ e2) : ∀ q, v1.ownBlock = some q → v2.ownBlock ≠ some q := by
  intro q hq hq2
  rcases h1.2 with ⟨hv, _⟩ | ⟨g, cap, cur, rfl, _, hh, _⟩
  · subst hv; cases hq
  · rcases h2.2 with ⟨hv, _⟩ | ⟨g', cap', cur', rfl, _, hh', _⟩
    · subst hv; cases hq2
    · injection hq with hq
      injection hq2 with hq2
      subst hq
      subst hq2
      rw [hh] at hh'
      injection hh' with hh'
      injection hh' with _ ht
      exact he ht
/-- the result: the checkpoint's cell, and a flag -/
theorem take_res {W : World} {n : Nat} {a v : Value} {tmps : Array Value} {f : Bool} (ha : Blk W n 43 #[a, v]) (h2 : tmps.getD 2 undef = .pointer (some ⟨n, 0, none⟩)) (h3 : tmps.getD 3 undef = .bool f) (hone : a.cells = #[a] ∧ v.cells = #[v]) :
    (results Tryd.f16 tmps).run Tryd.prog W = .ok (.tuple #[.agg #[a, v], .bool f]) W := by
  have x0 := ha.cell 0
  have x1 := ha.cell 1
  simp only [List.getElem?_toArray, List.getElem?_cons_zero, List.getElem?_cons_succ] at x0 x1
  have g2 : tmps[2]?.getD undef = .pointer (some ⟨n, 0, none⟩) := by simpa using h2
  have g3 : tmps[3]?.getD undef = .bool f := by simpa using h3
  simp [Go.results, Tryd.results16, asAddr, g2, g3, go_sem, x0, x1]
theorem bcell_old {w w' : World} {b o : Nat} (h : Below w.heap.size w w') (hb : b < w.heap.size) : w'.cell? ⟨b, o, none⟩ = w.cell? ⟨b, o, none⟩ := h.cell (p := ⟨b, o, none⟩) hb
theorem key_size {s : St} {k : ByteArray} (h : s.Ok) (hk : hasK k s.L = true) : k.size ≤ 32 := by
  obtain ⟨x, hx, rfl⟩ := hasK_mem.1 hk
  have := h.key x hx
  unfold validK at this
  simp at this
  omega
theorem ok_size {v : Vl} (h : v.ok = true) : v.s.size ≤ 64 := by
  rcases ok_forms h with rfl | ⟨_, e⟩ | ⟨_, _, h1, _⟩
  · decide
  · rw [e]; decide
  · exact h1
theorem bytes_rd {S : Nat → Prop} {w : World} {g : Nat} {s : St} (h : PAt S w g s) (he : Env w) (hr : RngL s.L) : Calls Tryd.prog 28 #[.pointer (some ⟨g, 0, none⟩)] w fun e w' => ∃ A n c, e = .returned (.slice A n c) ∧ n = (bytesS s).length ∧ Rd (fun q => w.heap.size ≤ q) w' 1 A n (bcells ((bytesS s).map UInt8.toNat)) ∧ Below w.heap.size w w' := by
  refine (bytes_any h he hr).mono ?_
  rintro e w' ⟨v, rfl, ho, hb⟩
  obtain ⟨A, c, rfl, _⟩ := own_form ho
  rw [bcells_bytes] at ho
  exact ⟨A, _, c, rfl, rfl, Rd.of_own' ho, hb⟩
section
variable {T SS : Nat → Prop} {w w' : World} {g sg cm : Nat} {b : ByteArray → Nat} {A1 A2 : Option Addr} {c1 c2 : Nat} {z : Zg}
/-- what Take answers -/
def TakePost (T : Nat → Prop) (w : World) (g : Nat) (z : Zg) (e : Ending) (w' : World) : Prop :=
  ZGo T w g z.take w' ∧ ∃ (mk : Int) (A : Option Addr) (n c : Nat), e = .returned (.tuple #[.agg #[.int .i64 mk, .slice A n c], .bool z.canTake]) ∧ (z.canTake = true → mk = z.mark ∧ n = (bytesS z.kept).length ∧ Rd (fun q => w.heap.size ≤ q) w' 1 A n (bcells ((bytesS z.kept).map UInt8.toNat))) ∧ (z.canTake = false → mk = 0 ∧ A = none ∧ n = 0 ∧ c = 0)
set_option maxRecDepth 100000 in
set_option maxHeartbeats 8000000 in
theorem ztake_not (h : ZAt T w g z) (hc : z.canTake = false) : Calls Tryd.prog 16 #[.pointer (some ⟨g, 0, none⟩)] w (TakePost T w g z) := by
  have hz : z.take = z := by unfold Zg.take; rw [if_neg (by simp [hc])]
  have hst := h
  obtain ⟨SS, sg, cm, b, A1, c1, A2, c2, h⟩ := h
  have hB0 : Below w.heap.size w (w.alloc (.cells #[.int .i64 0, .slice none 0 0] 43)) := (Below.refl _ _).alloc (Nat.le_refl _) _
  have kb := hid (Blk.new w 43 #[.int .i64 0, .slice none 0 0])
  obtain ⟨x0, x1, x2, x3, x4, x5, x6, x7⟩ := (h.below hB0).cells
  have hpost : Hid (∀ W, Below w.heap.size w W → TakePost T w g z (.returned (.tuple #[.agg #[.int .i64 0, .slice none 0 0], .bool false])) W) := hid fun W hW => ⟨by rw [hz]; exact hst.go hW, 0, none, 0, 0, by rw [hc], fun e => (by rw [hc] at e; cases e), fun _ => ⟨rfl, rfl, rfl, rfl⟩⟩
  have hB := hid hB0
  have hll := hid h.len.1
  have hcc := hid hc
  clear hB0 hst hz x0 x1 x2 x3 x5 x7 h hc
  cases hu : z.under with
  | false =>
    rw [hu] at x4
    clear hu
    go_enter Tryd.func16, Tryd.ntmps16
    go_upto_region 1 with fail
    generalize w.alloc (.cells #[.int .i64 0, .slice none 0 0] 43) = w1 at *
    have y0 : w1.cell? ⟨w.heap.size, 0, none⟩ = some (.int .i64 0) := kb.out.cell 0
    have y1 : w1.cell? ⟨w.heap.size, 1, none⟩ = some (.slice none 0 0) := kb.out.cell 1
    have fz := fun q => kb.out.frozen q
    have hlt := kb.out.lt
    go_wp2_with fail
    have kf : Blk _ _ _ _ := ((kb.out.set_ 0 (.int .i64 0)).set_ 1 (.slice none 0 0))
    refine bodyPost_ret (v := .tuple #[.agg #[.int .i64 0, .slice none 0 0], .bool false]) ?_ rfl (hpost.out _ ((hB.out.setCell (p := ⟨w.heap.size, 0, none⟩) (Nat.le_refl _) _).setCell (p := ⟨w.heap.size, 1, none⟩) (Nat.le_refl _) _))
    exact take_res (by simpa using kf) rfl rfl ⟨rfl, rfl⟩
  | true =>
    rw [hu] at x4
    have hp : 0 < z.left.length := by
      have h9 := hcc.out
      unfold Zg.canTake at h9
      rw [hu, Bool.true_and] at h9
      cases hL : z.left with
      | nil => rw [hL] at h9; cases h9
      | cons a l => simp
    have t1 : decide ((0 : Int) < (z.left.length : Int)) = true := decide_eq_true (by omega)
    have t2 : decide (0 < z.left.length) = true := decide_eq_true hp
    clear hu hp
    generalize z.left.length = ln at *
    go_enter Tryd.func16, Tryd.ntmps16
    go_upto_region 1 with fail
    generalize w.alloc (.cells #[.int .i64 0, .slice none 0 0] 43) = w1 at *
    have y0 : w1.cell? ⟨w.heap.size, 0, none⟩ = some (.int .i64 0) := kb.out.cell 0
    have y1 : w1.cell? ⟨w.heap.size, 1, none⟩ = some (.slice none 0 0) := kb.out.cell 1
    have fz := fun q => kb.out.frozen q
    have hlt := kb.out.lt
    go_wp2_with fail
    have kf : Blk _ _ _ _ := ((kb.out.set_ 0 (.int .i64 0)).set_ 1 (.slice none 0 0))
    refine bodyPost_ret (v := .tuple #[.agg #[.int .i64 0, .slice none 0 0], .bool false]) ?_ rfl (hpost.out _ ((hB.out.setCell (p := ⟨w.heap.size, 0, none⟩) (Nat.le_refl _) _).setCell (p := ⟨w.heap.size, 1, none⟩) (Nat.le_refl _) _))
    exact take_res (by simpa using kf) rfl rfl ⟨rfl, rfl⟩
/-- under way: what of the keys and writes is laid -/
structure TR (w2 wr : World) (L : List Kv) (i : Nat) (B : Option Addr) (d : Nat) (C : Option Addr) (f : Nat) : Prop where
  ks : wr.ownsRow w2.heap.size 9 1 (.slice B i d) i (strs ((L.take i).map (·.1)))
  ws : wr.ownsRow w2.heap.size 67 5 (.slice C i f) i (wrCells ((L.take i).map kvWr))
  bel : Below w2.heap.size w2 wr
theorem TR.below {w2 wr wn : World} {L : List Kv} {i d f : Nat} {B C : Option Addr} (h : TR w2 wr L i B d C f) (hb : Below wr.heap.size wr wn) : TR w2 wn L i B d C f :=
  ⟨own_below h.ks hb, own_below h.ws hb, h.bel.trans (hb.mono h.bel.size)⟩
/-- the key is laid, the write not yet -/
structure TR5 (w2 wr : World) (L : List Kv) (i : Nat) (x : Kv) (B : Option Addr) (d : Nat) (C : Option Addr) (f : Nat) : Prop where
  ks : wr.ownsRow w2.heap.size 9 1 (.slice B (i + 1) d) (i + 1) (strs ((L.take (i + 1)).map (·.1)))
  ws : wr.ownsRow w2.heap.size 67 5 (.slice C i f) i (wrCells ((L.take i).map kvWr))
  bel : Below w2.heap.size w2 wr
theorem own_blk {w : World} {b1 s1 n1 g : Nat} {e1 t : TypeId} {v1 : Value} {xs1 : List Value} {cs : Array Value} (h1 : w.ownsRow b1 e1 s1 v1 n1 xs1) (h2 : Blk w g t cs) (he : e1 ≠ t) : v1.ownBlock ≠ some g := by
  intro hq
  rcases h1.2 with ⟨hv, _⟩ | ⟨q, cap, cur, rfl, _, hh, _⟩
  · subst hv; cases hq
  · injection hq with hq
    have hq : q = g := hq
    subst hq
    unfold Blk at h2
    rw [hh] at h2
    injection h2 with h2
    injection h2 with _ ht
    exact he ht
set_option maxRecDepth 100000 in
set_option maxHeartbeats 8000000 in
theorem ztake_ok (h : ZAt T w g z) (hc : z.canTake = true) (he : ∀ W, Upd T w W → Env W) (hr : RngZ z) : Calls Tryd.prog 16 #[.pointer (some ⟨g, 0, none⟩)] w (TakePost T w g z) := by
  have hz : z.take = { z with under := false } := by unfold Zg.take; rw [if_pos hc]
  obtain ⟨SS, sg, cm, b, A1, c1, A2, c2, h⟩ := h
  have hB0 : Below w.heap.size w (w.alloc (.cells #[.int .i64 0, .slice none 0 0] 43)) := (Below.refl _ _).alloc (Nat.le_refl _) _
  have kb := hid (Blk.new w 43 #[.int .i64 0, .slice none 0 0])
  have H := hid (h.below hB0)
  have H0 := hid h
  obtain ⟨x0, x1, x2, x3, x4, x5, x6, x7⟩ := H.out.cells
  have hun : z.under = true := by unfold Zg.canTake at hc; simp at hc; exact hc.1
  have hle : z.left = [] := by unfold Zg.canTake at hc; simp at hc; exact hc.2
  rw [hun] at x4
  rw [hle] at x6
  have hB := hid hB0
  have hE := hid he
  have hR := hid hr
  have hC := hid hc
  have hZ := hid hz
  have hL := hid hle
  have hok := hid h.ok
  have hne : ¬ (g = w.heap.size) := by have := h.blk.lt; omega
  have hne2 : ¬ (w.heap.size = g) := fun e => hne e.symm
  clear hB0 hz h hc he hr hle hun
  go_enter Tryd.func16, Tryd.ntmps16
  go_upto_region 3 with fail
  generalize w.alloc (.cells #[.int .i64 0, .slice none 0 0] 43) = w1 at *
  have fz := fun q => H.out.blk.frozen q
  have hgl := H.out.blk.lt
  have hflag : Hid (ZIn T SS (w1.setCell ⟨g, 4, none⟩ (.bool false)) g sg cm b A1 c1 A2 c2 { z with under := false }) := hid (by
    have h9 := H.out.blk.set_ 4 (.bool false)
    have hup : Upd (fun q => q = g) w1 (w1.setCell ⟨g, 4, none⟩ (.bool false)) := (Upd.refl (fun q => q = g) w1).setCell (p := ⟨g, 4, none⟩) (fun _ => rfl) _
    have hk := Zg.take_ok H.out.ok
    rw [hZ.out] at hk
    exact H.out.flag (u := false) (L := z.left) hup (by simpa using h9) (.inl ⟨rfl, rfl, rfl⟩) hk)
  have kb2 : Hid (Blk (w1.setCell ⟨g, 4, none⟩ (.bool false)) w.heap.size 43 #[.int .i64 0, .slice none 0 0]) := hid (kb.out.far (p := ⟨g, 4, none⟩) hne2 _)
  have hup2 : Hid (Upd T w (w1.setCell ⟨g, 4, none⟩ (.bool false))) := hid (by
    refine (Upd.of_below (M := T) hB.out fun k hk h => by omega).setCell (p := ⟨g, 4, none⟩) (fun _ => H.out.inT.1) _)
  clear H kb hB x0 x1 x2 x3 x5 x7
  go_upto_region 4 with fail
  generalize w1.setCell ⟨g, 4, none⟩ (.bool false) = w2 at *
  have hflag := hid (hflag.out.keep (w' := w2.drew) (fun _ _ => rfl) (Nat.le_refl _))
  have kb2 := hid kb2.out.drew
  have hup2 := hid hup2.out.drew
  refine wp_region_held_drew (S := fun _ => True) (by kernel_rfl) ?_ (fun hHeld => ?_)
  · exact True.intro
  generalize World.drew w2 = wd at *
  obtain ⟨x0, x1, _, _, _, x5, _, x7⟩ := hflag.out.cells
  have hnw := hid (new_ok z.s.parts z.s.room wd hok.out.s.parts hok.out.s.room)
  refine wpAnyH_more (S' := fun w'' => Below wd.heap.size wd w'') (fun _ _ => True.intro) _ _ _ _ ?_
  have hHeld := Below.refl wd.heap.size wd
  refine wpAnyH_take (i := 0) (v := ?v8) rfl (by kernel_rfl) (by kernel_rfl) (by kernel_rfl) (fun _ _ _ h => h) (Or.inl ⟨by rfl, ?hy8⟩) (by assumption) ?rest8
  case hy8 => intro w' hSw; (try dsimp only at hSw); go_simp; try with_reducible rfl
  (try simp only [Act.put, List.setIfInBounds_toArray, List.set_cons_zero, List.set_cons_succ, List.getElem_toArray, List.getElem_cons_zero, List.getElem_cons_succ])
  refine wpAnyH_take (i := 1) (v := ?v9) rfl (by kernel_rfl) (by kernel_rfl) (by kernel_rfl) (fun _ _ _ h => h) (Or.inl ⟨by rfl, ?hy9⟩) (by assumption) ?rest9
  case hy9 => intro w' hSw; (try dsimp only at hSw); go_simp; try with_reducible rfl
  (try simp only [Act.put, List.setIfInBounds_toArray, List.set_cons_zero, List.set_cons_succ, List.getElem_toArray, List.getElem_cons_zero, List.getElem_cons_succ])
  refine wpAnyH_take (i := 2) (v := ?v10) rfl (by kernel_rfl) (by kernel_rfl) (by kernel_rfl) (fun _ _ _ h => h) (Or.inl ⟨by rfl, ?hy10⟩) (by assumption) ?rest10
  case hy10 => intro w' hSw; (try dsimp only at hSw); go_simp; try with_reducible rfl
  (try simp only [Act.put, List.setIfInBounds_toArray, List.set_cons_zero, List.set_cons_succ, List.getElem_toArray, List.getElem_cons_zero, List.getElem_cons_succ])
  refine wpAnyH_take (i := 3) (v := ?v11) rfl (by kernel_rfl) (by kernel_rfl) (by kernel_rfl) (fun _ _ _ h => h) (Or.inl ⟨by rfl, ?hy11⟩) (by assumption) ?rest11
  case hy11 => intro w' hSw; have q0 : w'.cell? ⟨g, 0, none⟩ = _ := (bcell_old hSw hflag.out.blk.lt).trans x0; (try dsimp only at hSw); go_simp; try with_reducible rfl
  (try simp only [Act.put, List.setIfInBounds_toArray, List.set_cons_zero, List.set_cons_succ, List.getElem_toArray, List.getElem_cons_zero, List.getElem_cons_succ])
  refine wpAnyH_take (i := 4) (v := ?v12) rfl (by kernel_rfl) (by kernel_rfl) (by kernel_rfl) (fun _ _ _ h => h) (Or.inl ⟨by rfl, ?hy12⟩) (by assumption) ?rest12
  case hy12 => intro w' hSw; (try dsimp only at hSw); go_simp; try with_reducible rfl
  (try simp only [Act.put, List.setIfInBounds_toArray, List.set_cons_zero, List.set_cons_succ, List.getElem_toArray, List.getElem_cons_zero, List.getElem_cons_succ])
  refine wpAnyH_take (i := 5) (v := ?v13) rfl (by kernel_rfl) (by kernel_rfl) (by kernel_rfl) (fun _ _ _ h => h) (Or.inl ⟨by rfl, ?hy13⟩) (by assumption) ?rest13
  case hy13 => intro w' hSw; (try dsimp only at hSw); go_simp; try with_reducible rfl
  (try simp only [Act.put, List.setIfInBounds_toArray, List.set_cons_zero, List.set_cons_succ, List.getElem_toArray, List.getElem_cons_zero, List.getElem_cons_succ])
  refine wpAnyH_take (i := 6) (v := ?v14) rfl (by kernel_rfl) (by kernel_rfl) (by kernel_rfl) (fun _ _ _ h => h) (Or.inl ⟨by rfl, ?hy14⟩) (by assumption) ?rest14
  case hy14 => intro w' hSw; (try dsimp only at hSw); go_simp; try with_reducible rfl
  (try simp only [Act.put, List.setIfInBounds_toArray, List.set_cons_zero, List.set_cons_succ, List.getElem_toArray, List.getElem_cons_zero, List.getElem_cons_succ])
  refine wpAnyH_take (i := 7) (v := ?v15) rfl (by kernel_rfl) (by kernel_rfl) (by kernel_rfl) (fun _ _ _ h => h) (Or.inl ⟨by rfl, ?hy15⟩) (by assumption) ?rest15
  case hy15 => intro w' hSw; have q1 : w'.cell? ⟨g, 1, none⟩ = _ := (bcell_old hSw hflag.out.blk.lt).trans x1; (try dsimp only at hSw); go_simp; try with_reducible rfl
  (try simp only [Act.put, List.setIfInBounds_toArray, List.set_cons_zero, List.set_cons_succ, List.getElem_toArray, List.getElem_cons_zero, List.getElem_cons_succ])
  refine wpAnyH_ready (rs := [8]) (by kernel_rfl) (by simp) ?_
  refine AllReadyH.cons rfl (fun K hK => ?_) AllReadyH.nil
  go_simp
  refine hnw.out.mono ?_
  rintro e w3 ⟨S1, sg1, rfl, hP1, hS1, hb3⟩
  have hP1 := hid hP1
  have hS1 := hid hS1
  have hb3 := hid hb3
  refine hK.out _ _ ?_ (fun hHeld => ?_)
  · exact hb3.out
  clear hK K
  (try simp only [Act.put, List.setIfInBounds_toArray, List.set_cons_zero, List.set_cons_succ, List.getElem_toArray, List.getElem_cons_zero, List.getElem_cons_succ])
  refine wpAnyH_take (i := 9) (v := ?v16) rfl (by kernel_rfl) (by kernel_rfl) (by kernel_rfl) (fun _ _ _ h => h) (Or.inl ⟨by rfl, ?hy16⟩) (by assumption) ?rest16
  case hy16 => intro w' hSw; (try dsimp only at hSw); go_simp; try with_reducible rfl
  (try simp only [Act.put, List.setIfInBounds_toArray, List.set_cons_zero, List.set_cons_succ, List.getElem_toArray, List.getElem_cons_zero, List.getElem_cons_succ])
  refine wpAnyH_take (i := 10) (v := ?v17) rfl (by kernel_rfl) (by kernel_rfl) (by kernel_rfl) (fun _ _ _ h => h) (Or.inl ⟨by rfl, ?hy17⟩) (by assumption) ?rest17
  case hy17 => intro w' hSw; (try dsimp only at hSw); go_simp; try with_reducible rfl
  (try simp only [Act.put, List.setIfInBounds_toArray, List.set_cons_zero, List.set_cons_succ, List.getElem_toArray, List.getElem_cons_zero, List.getElem_cons_succ])
  refine wpAnyH_take (i := 11) (v := ?v18) rfl (by kernel_rfl) (by kernel_rfl) (by kernel_rfl) (fun _ _ _ h => h) (Or.inl ⟨by rfl, ?hy18⟩) (by assumption) ?rest18
  case hy18 => intro w' hSw; (try dsimp only at hSw); go_simp; try with_reducible rfl
  (try simp only [Act.put, List.setIfInBounds_toArray, List.set_cons_zero, List.set_cons_succ, List.getElem_toArray, List.getElem_cons_zero, List.getElem_cons_succ])
  refine wpAnyH_take (i := 12) (v := ?v19) rfl (by kernel_rfl) (by kernel_rfl) (by kernel_rfl) (fun _ _ _ h => h) (Or.inl ⟨by rfl, ?hy19⟩) (by assumption) ?rest19
  case hy19 => intro w' hSw; (try dsimp only at hSw); go_simp; try with_reducible rfl
  (try simp only [Act.put, List.setIfInBounds_toArray, List.set_cons_zero, List.set_cons_succ, List.getElem_toArray, List.getElem_cons_zero, List.getElem_cons_succ])
  refine wpAnyH_take (i := 13) (v := ?v20) rfl (by kernel_rfl) (by kernel_rfl) (by kernel_rfl) (fun _ _ _ h => h) (Or.inl ⟨by rfl, ?hy20⟩) (by assumption) ?rest20
  case hy20 => intro w' hSw; (try dsimp only at hSw); go_simp; try with_reducible rfl
  (try simp only [Act.put, List.setIfInBounds_toArray, List.set_cons_zero, List.set_cons_succ, List.getElem_toArray, List.getElem_cons_zero, List.getElem_cons_succ])
  refine wpAnyH_done (by kernel_rfl) ?_ _
  have hflag := hid (hflag.out.below hb3.out)
  have kb3 := hid (kb2.out.below_all hb3.out)
  have hup3 := hid (hup2.out.trans (Upd.of_below (M := T) hb3.out fun k hk h => by have := hup2.out.size; omega) fun _ _ h => h)
  obtain ⟨_, _, _, _, _, x5, _, x7⟩ := hflag.out.cells
  have hsw : Hid (w.heap.size < wd.heap.size) := hid kb2.out.lt
  clear hup2 kb2 hnw
  have hlen : z.taken.length ≤ 262144 := by have := hok.out.cnt; omega
  have hLN : (z.taken.length : Int) ≤ 262144 := by omega
  have hlen := hid hlen
  obtain ⟨ip1, hip1, hp10, hp11, hp12⟩ := info_parts info_str5
  obtain ⟨ip2, hip2, hp20, hp21, hp22⟩ := info_parts info_write5
  have hT3 : Hid (Rd (fun q => q < w3.heap.size) w3 4 A2 z.taken.length (kvCells z.taken)) := hid (Rd.of_own hflag.out.taken).all
  go_wp2_with fail
  go_loopw [6, 7, 48] (fun u v i wr => ∃ (k : Nat) (B : Option Addr) (d : Nat) (C : Option Addr) (f : Nat), u = .slice B k d ∧ v = .slice C k f ∧ i = .int .i64 k ∧ k ≤ z.taken.length ∧ TR w3 wr z.taken k B d C f) (fun _ _ i _ => z.taken.length - (intOf i).toNat)
  case atStart => exact ⟨0, none, 0, none, 0, rfl, rfl, rfl, Nat.zero_le _, World.ownsRow_nil _ _ _ _, World.ownsRow_nil _ _ _ _, Below.refl _ _⟩
  case round =>
    obtain ⟨i, B, d, C, f, rfl, rfl, rfl, hi, R0⟩ := hrel
    have R := hid R0
    clear R0 x7
    by_cases hlt : i < z.taken.length
    · have i1 : (i : Int) < (z.taken.length : Int) := by omega
      obtain ⟨q0, o0, hA2, _, _, y0, y1, y2, y3⟩ := rd_kv (hT3.out.below_all R.out.bel) hlt
      have htk := hid (take_snoc hlt)
      obtain ⟨x, hx⟩ : ∃ x, x = z.taken[i] := ⟨_, rfl⟩
      rw [← hx] at y0 y1 y2 y3 htk
      have i2 : IntKind.i64.wrap ((i : Int) + 1) = (i : Int) + 1 := by rw [IntKind.wrap_i64]; omega
      obtain rfl := hA2
      clear hx
      have kx := hid (Blk.new wr 77 #[.string x.1, .int .i64 x.2.k, .int .i64 x.2.n, .string x.2.s])
      have hba : Below wr.heap.size wr (wr.alloc (.cells #[.string x.1, .int .i64 x.2.k, .int .i64 x.2.n, .string x.2.s] 77)) := (Below.refl _ _).alloc (Nat.le_refl _) _
      have RA := hid (TR.below R.out hba)
      go_upto_region 10 with fail
      generalize hwa : wr.alloc (.cells #[.string x.1, .int .i64 x.2.k, .int .i64 x.2.n, .string x.2.s] 77) = wa at *
      have hxl : Hid (wr.heap.size < wa.heap.size) := hid kx.out.lt
      have z0 : wa.cell? ⟨wr.heap.size, 0, none⟩ = some (.string x.1) := kx.out.cell 0
      have hna := hid hba.size
      clear hwa hba y0 y1 y2 y3
      go_wp2_with (
        at_builtin
        first
        | (
          refine wpList_append_rd _ rfl (.tmp 52) (.tmp 55) 26 rfl w3.heap.size 9 ip1 _ 1 16 Tryd.underlying26 hip1 hp10 hp11 hp12 rfl (by omega) (.slice B i d) i _ rfl (RA.out.ks.alloc _) (fun q => q = wa.heap.size) (some ⟨wa.heap.size, 0, none⟩) 1 1 [.string x.1] rfl (Rd.new _ 9 1 1 #[.string x.1] _ rfl rfl) (by simp [Value.oneCell']) (by have := hlen.out; simp only [maxLen]; omega) (by have := hlen.out; omega) (by have := RA.out.bel.size; simp; omega) ?_
          intro v5 w5 hown5 hg5 hat5
          obtain ⟨B5, d5, rfl, _, _⟩ := own_form hown5
          have hown5 := hid hown5
          have hu5 : Hid (Upd (fun q => (Value.slice B i d).ownBlock = some q) wa w5) := hid (((Upd.refl _ wa).alloc _).grown hg5 fun q hq _ => hq)
          have R5 : Hid (TR5 w3 w5 z.taken i x B5 d5 C f) := hid ⟨by rw [htk.out]; simpa [strs] using hown5.out, own_keep RA.out.ws (fun q hq => hu5.out.block q (RA.out.ws.lt q hq).2 (fun e => own_ne RA.out.ks RA.out.ws (by decide) q e hq)), RA.out.bel.trans (hu5.out.below RA.out.bel.size fun q hq e => by have := (RA.out.ks.lt q e).1; omega)⟩
          have kx5 := hid (kx.out.upd hu5.out fun e => own_blk RA.out.ks kx.out (by decide) e)
          clear hg5 hat5 hown5 hu5 z0
          have z0 : w5.cell? ⟨wr.heap.size, 0, none⟩ = some (.string x.1) := kx5.out.cell 0
          have z1 : w5.cell? ⟨wr.heap.size, 1, none⟩ = some (.int .i64 x.2.k) := kx5.out.cell 1
          have z2 : w5.cell? ⟨wr.heap.size, 2, none⟩ = some (.int .i64 x.2.n) := kx5.out.cell 2
          have z3 : w5.cell? ⟨wr.heap.size, 3, none⟩ = some (.string x.2.s) := kx5.out.cell 3
          have hxl5 := kx5.out.lt
          )
        | (
          refine wpList_append_rd _ rfl (.tmp 57) (.tmp 63) 34 rfl w3.heap.size 67 ip2 _ 5 56 Tryd.underlying34 hip2 hp20 hp21 hp22 rfl (by omega) (.slice C i f) i _ rfl (R5.out.ws.alloc _) (fun q => q = w5.heap.size) (some ⟨w5.heap.size, 0, none⟩) 1 1 [.string x.1, .bool false, .int .i64 x.2.k, .int .i64 x.2.n, .string x.2.s] rfl (Rd.new _ 67 5 1 #[.string x.1, .bool false, .int .i64 x.2.k, .int .i64 x.2.n, .string x.2.s] _ rfl rfl) (by intro v hv; simp at hv; rcases hv with rfl | rfl | rfl | rfl | rfl <;> rfl) (by have := hlen.out; simp only [maxLen]; omega) (by have := hlen.out; omega) (by have := R5.out.bel.size; simp; omega) ?_
          intro v7 w7 hown7 hg7 hat7
          obtain ⟨C7, f7, rfl, _, _⟩ := own_form hown7
          have hown7 := hid hown7
          have hu7 : Hid (Upd (fun q => (Value.slice C i f).ownBlock = some q) w5 w7) := hid (((Upd.refl _ w5).alloc _).grown hg7 fun q hq _ => hq)
          have R7 : Hid (TR w3 w7 z.taken (i + 1) B5 d5 C7 f7) := hid ⟨own_keep R5.out.ks (fun q hq => hu7.out.block q (R5.out.ks.lt q hq).2 (fun e => own_ne R5.out.ks R5.out.ws (by decide) q hq e)), by rw [htk.out]; simpa [wrCells, kvWr] using hown7.out, R5.out.bel.trans (hu7.out.below R5.out.bel.size fun q hq e => by have := (R5.out.ws.lt q e).1; omega)⟩
          clear hg7 hat7 hown7 hu7 z0 z1 z2 z3
          ))
      go_roundw
      case rel => exact ⟨i + 1, B5, d5, C7, f7, rfl, rfl, by go_num, hlt, R7.out⟩
      case measure => simp [intOf]; omega
    · obtain rfl : i = z.taken.length := by omega
      have hkz : Hid (∀ x ∈ z.taken, x.1.size ≤ 32 ∧ x.2.s.size ≤ 64) := hid fun x hx => ⟨key_size hok.out.s (hok.out.tk x hx).1, ok_size (hok.out.tk x hx).2⟩
      have hS1l : Hid (∀ q, S1 q → q < w3.heap.size) := hid hP1.out.lt
      have hks : Hid (Rd (fun q => w3.heap.size ≤ q) wr 1 B z.taken.length (strs (z.taken.map (·.1)))) := hid (by
        have := Rd.of_own' R.out.ks
        rwa [List.take_length] at this)
      have hws : Hid (Rd (fun q => w3.heap.size ≤ q) wr 5 C z.taken.length (wrCells (z.taken.map kvWr))) := hid (by
        have := Rd.of_own' R.out.ws
        rwa [List.take_length] at this)
      have hcl : Hid (Calls Tryd.prog 21 #[.pointer (some ⟨sg1, 0, none⟩), .slice B z.taken.length d] wr fun e w' => PAt S1 w' sg1 (claimS ⟨z.s.parts, z.s.room, []⟩ (z.taken.map (·.1))) ∧ Upd S1 wr w' ∧ ∃ n : Int, e = .returned (.int .i64 n)) := hid (by
        have h9 := claim_any (c := d) (z.taken.map (·.1)) (hP1.out.below R.out.bel) (A := B) (Sk := fun q => w3.heap.size ≤ q) (by rw [List.length_map]; exact hks.out) (fun q hq hS => by have := hS1l.out q hS; omega) (fun k hk => by obtain ⟨x, hx, rfl⟩ := List.mem_map.1 hk; have := (hkz.out x hx).1; omega) (by rw [List.length_map]; have := hlen.out; omega)
        rw [List.length_map] at h9
        exact h9.mono fun e w' h => ⟨h.2.1, h.2.2, _, h.1⟩)
      have hflag := hid (hflag.out.below R.out.bel)
      have kb3 := hid (kb3.out.below_all R.out.bel)
      have hup3 := hid (hup3.out.trans (Upd.of_below (M := T) R.out.bel fun k hk h => by have := hup3.out.size; omega) fun _ _ h => h)
      have hTS : Hid (∀ q, T q → ¬ S1 q) := hid fun q hq hS => by have := hS1.out q hS; have := H0.out.lt q hq; have := hsw.out; omega
      clear R hlt hP1 hks x5
      go_wp2_with fail
      refine hcl.out.mono ?_
      rintro e w5 ⟨hP5, hu5, n5, rfl⟩
      have hP5 := hid hP5
      have hu5 := hid hu5
      have hap : Hid (Calls Tryd.prog 27 #[.pointer (some ⟨sg1, 0, none⟩), .slice C z.taken.length f] w5 fun e w' => PAt S1 w' sg1 z.kept ∧ Upd S1 w5 w' ∧ ∃ n : Int, e = .returned (.int .i64 n)) := hid (by
        have h9 := apply_any (c := f) (z.taken.map kvWr) hP5.out (A := C) (Sk := fun q => w3.heap.size ≤ q) (by rw [List.length_map]; exact hws.out.upd hu5.out fun q hq hS => by have := hS1l.out q hS; omega) (fun q hq hS => by have := hS1l.out q hS; omega) (fun y hy => by obtain ⟨x, hx, rfl⟩ := List.mem_map.1 hy; have := hkz.out x hx; exact ⟨by show x.1.size ≤ _; omega, by show x.2.s.size ≤ _; omega⟩) (by rw [List.length_map]; have := hlen.out; omega)
        rw [List.length_map] at h9
        exact h9.mono fun e w' h => ⟨h.2.1, h.2.2, _, h.1⟩)
      clear hcl
      go_wp2_with fail
      refine hap.out.mono ?_
      rintro e w6 ⟨hP6, hu6, n6, rfl⟩
      have hP6 := hid hP6
      have hu56 := hid (hu5.out.trans hu6 fun _ _ h => h)
      have hflag := hid (hflag.out.upd hu56.out hTS.out)
      have kb3 := hid (kb3.out.upd hu56.out fun hS => by have := hS1.out _ hS; have := hsw.out; omega)
      have hup3 : Hid (Upd T w w6) := hid ((hup3.out.mono fun q hq h => h).trans hu56.out fun q hq hS => absurd (hS1.out q hS) (by have := hsw.out; omega))
      clear hap hP5 hu5 hu6 hws
      go_upto_region 15 with fail
      have hflag := hid (hflag.out.keep (w' := w6.drew) (fun _ _ => rfl) (Nat.le_refl _))
      have kb3 := hid kb3.out.drew
      have hup3 := hid hup3.out.drew
      have hP6 := hid (hP6.out.below ((Below.refl _ _).drew))
      have hE6 := hid (hE.out _ hup3.out)
      have hRk := hid (rng_kept hR.out)
      refine wp_region_held_drew (S := fun _ => True) (by kernel_rfl) ?_ (fun hHeld => ?_)
      · exact True.intro
      generalize World.drew w6 = wd6 at *
      have x5 : wd6.cell? ⟨g, 5, none⟩ = some (.int .i64 z.mark) := hflag.out.cells.2.2.2.2.2.1
      refine wpAnyH_more (S' := fun w'' => w''.cell? ⟨g, 5, none⟩ = some (.int .i64 z.mark)) (fun _ _ => True.intro) _ _ _ _ ?_
      have hHeld := x5
      refine wpAnyH_take (i := 0) (v := ?v1) rfl (by kernel_rfl) (by kernel_rfl) (by kernel_rfl) (fun _ _ _ h => h) (Or.inl ⟨by rfl, ?hy1⟩) (by assumption) ?rest1
      case hy1 => intro w' hSw; (try dsimp only at hSw); go_simp; try with_reducible rfl
      (try simp only [Act.put, List.setIfInBounds_toArray, List.set_cons_zero, List.set_cons_succ, List.getElem_toArray, List.getElem_cons_zero, List.getElem_cons_succ])
      refine wpAnyH_take (i := 1) (v := ?v2) rfl (by kernel_rfl) (by kernel_rfl) (by kernel_rfl) (fun _ _ _ h => h) (Or.inl ⟨by rfl, ?hy2⟩) (by assumption) ?rest2
      case hy2 => intro w' hSw; (try dsimp only at hSw); go_simp; try with_reducible rfl
      (try simp only [Act.put, List.setIfInBounds_toArray, List.set_cons_zero, List.set_cons_succ, List.getElem_toArray, List.getElem_cons_zero, List.getElem_cons_succ])
      refine wpAnyH_take (i := 2) (v := ?v3) rfl (by kernel_rfl) (by kernel_rfl) (by kernel_rfl) (fun _ _ _ h => h) (Or.inl ⟨by rfl, ?hy3⟩) (by assumption) ?rest3
      case hy3 => intro w' hSw; (try dsimp only at hSw); go_simp; try with_reducible rfl
      (try simp only [Act.put, List.setIfInBounds_toArray, List.set_cons_zero, List.set_cons_succ, List.getElem_toArray, List.getElem_cons_zero, List.getElem_cons_succ])
      refine wpAnyH_take (i := 3) (v := ?v4) rfl (by kernel_rfl) (by kernel_rfl) (by kernel_rfl) (fun _ _ _ h => h) (Or.inl ⟨by rfl, ?hy4⟩) (by assumption) ?rest4
      case hy4 => intro w' hSw; (try dsimp only at hSw); go_simp; try with_reducible rfl
      (try simp only [Act.put, List.setIfInBounds_toArray, List.set_cons_zero, List.set_cons_succ, List.getElem_toArray, List.getElem_cons_zero, List.getElem_cons_succ])
      refine wpAnyH_take (i := 4) (v := ?v5) rfl (by kernel_rfl) (by kernel_rfl) (by kernel_rfl) (fun _ _ _ h => h) (Or.inl ⟨by rfl, ?hy5⟩) (by assumption) ?rest5
      case hy5 => intro w' hSw; (try dsimp only at hSw); go_simp; try with_reducible rfl
      (try simp only [Act.put, List.setIfInBounds_toArray, List.set_cons_zero, List.set_cons_succ, List.getElem_toArray, List.getElem_cons_zero, List.getElem_cons_succ])
      refine wpAnyH_ready (rs := [5]) (by kernel_rfl) (by simp) ?_
      refine AllReadyH.cons rfl (fun K hK => ?_) AllReadyH.nil
      go_simp
      refine (bytes_rd hP6.out hE6.out hRk.out).mono ?_
      rintro e w8 ⟨A8, n8, d8, rfl, hn80, hr80, hb80⟩
      have hn8 := hid hn80
      have hr8 := hid hr80
      have hb8 := hid hb80
      clear hn80 hr80 hb80
      have kb8 := hid (kb3.out.below_all hb8.out)
      have y0 : w8.cell? ⟨w.heap.size, 0, none⟩ = some (.int .i64 0) := kb8.out.cell 0
      have y1 : w8.cell? ⟨w.heap.size, 1, none⟩ = some (.slice none 0 0) := kb8.out.cell 1
      have f8 := fun q => kb8.out.frozen q
      have x58 : w8.cell? ⟨g, 5, none⟩ = some (.int .i64 z.mark) := (bcell_old hb8.out hflag.out.blk.lt).trans x5
      refine hK.out _ _ ?_ (fun hHeld => ?_)
      · exact x58
      clear hK K
      (try simp only [Act.put, List.setIfInBounds_toArray, List.set_cons_zero, List.set_cons_succ, List.getElem_toArray, List.getElem_cons_zero, List.getElem_cons_succ])
      refine wpAnyH_take (i := 6) (v := ?v6) rfl (by kernel_rfl) (by kernel_rfl) (by kernel_rfl) (fun _ _ _ h => h) (Or.inl ⟨by rfl, ?hy6⟩) (by assumption) ?rest6
      case hy6 => intro w' hSw; (try dsimp only at hSw); go_simp; try with_reducible rfl
      (try simp only [Act.put, List.setIfInBounds_toArray, List.set_cons_zero, List.set_cons_succ, List.getElem_toArray, List.getElem_cons_zero, List.getElem_cons_succ])
      refine wpAnyH_ready (rs := [7]) (by kernel_rfl) (by simp) ?_
      refine AllReadyH.cons rfl (fun K hK => ?_) AllReadyH.nil
      go_simp

      refine hK.out _ _ ?_ (fun hHeld => ?_)
      · exact ((((Upd.refl (fun q => q = w.heap.size) w8).setCell (p := ⟨w.heap.size, 0, none⟩) (fun _ => rfl) _).setCell (p := ⟨w.heap.size, 1, none⟩) (fun _ => rfl) _).cell x58 hne)
      clear hK K
      (try simp only [Act.put, List.setIfInBounds_toArray, List.set_cons_zero, List.set_cons_succ, List.getElem_toArray, List.getElem_cons_zero, List.getElem_cons_succ])
      refine wpAnyH_take (i := 8) (v := ?v7) rfl (by kernel_rfl) (by kernel_rfl) (by kernel_rfl) (fun _ _ _ h => h) (Or.inl ⟨by rfl, ?hy7⟩) (by assumption) ?rest7
      case hy7 => intro w' hSw; (try dsimp only at hSw); go_simp; try with_reducible rfl
      (try simp only [Act.put, List.setIfInBounds_toArray, List.set_cons_zero, List.set_cons_succ, List.getElem_toArray, List.getElem_cons_zero, List.getElem_cons_succ])
      refine wpAnyH_done (by kernel_rfl) ?_ _
      go_wp2_with fail
      have kf : Blk _ _ _ _ := ((kb8.out.set_ 0 (.int .i64 z.mark)).set_ 1 (.slice A8 n8 d8))
      have hwX : Upd (fun q => q = w.heap.size) w8 ((w8.setCell ⟨w.heap.size, 0, none⟩ (.int .i64 z.mark)).setCell ⟨w.heap.size, 1, none⟩ (.slice A8 n8 d8)) := ((Upd.refl (fun q => q = w.heap.size) w8).setCell (p := ⟨w.heap.size, 0, none⟩) (fun _ => rfl) _).setCell (p := ⟨w.heap.size, 1, none⟩) (fun _ => rfl) _
      refine bodyPost_ret (v := .tuple #[.agg #[.int .i64 z.mark, .slice A8 n8 d8], .bool true]) ?_ rfl ⟨?_, z.mark, A8, n8, d8, by rw [hC.out], fun _ => ⟨rfl, hn8.out, ?_⟩, fun e => (by rw [hC.out] at e; cases e)⟩
      · exact take_res (by simpa using kf) rfl rfl ⟨rfl, rfl⟩
      · rw [hZ.out]
        have hsl := kb8.out.lt
        refine ⟨T, ⟨SS, sg, cm, b, A1, c1, A2, c2, (hflag.out.below hb8.out).upd hwX fun q hq e => ?_⟩, fun q hq => .inl hq, fun q hq => hq, ?_⟩
        · have := H0.out.lt q hq; have e : q = w.heap.size := e; omega
        · exact (hup3.out.trans ((Upd.of_below (M := T) hb8.out fun k hk h => by omega)) fun _ _ h => h).trans hwX fun q hq e => by have e : q = w.heap.size := e; omega
      · refine (hr8.out.upd hwX fun q hq e => ?_).more fun q hq _ => ?_
        · have := kb3.out.lt; have e : q = w.heap.size := e; omega
        · have := hup3.out.size; omega
theorem ztake_any (h : ZAt T w g z) (he : ∀ W, Upd T w W → Env W) (hr : RngZ z) : Calls Tryd.prog 16 #[.pointer (some ⟨g, 0, none⟩)] w (TakePost T w g z) := by
  cases hc : z.canTake with
  | true => exact ztake_ok h hc he hr
  | false => exact ztake_not h hc
end
end Go.Proofs.YtefigpmkiemfhaaDoor

