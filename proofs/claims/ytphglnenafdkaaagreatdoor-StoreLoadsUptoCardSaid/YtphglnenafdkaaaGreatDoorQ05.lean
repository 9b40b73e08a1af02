/- Texts of the proof, joined: KBytes, KBack, VPl2, GMap, SMap, VOrd, SPl, App, GBase. -/
import Derived.Test.YtphglnenafdkaaaGreatDoorQ02
import Derived.Test.YtphglnenafdkaaaGreatDoorQ04
import Derived.Test.YtphglnenafdkaaaGreatDoorQ03
import Derived.Test.YtphglnenafdkaaaGreatDoorQ01
import Derived.Test.YtphglnenafdkaaaGreatDoorRows
import Derived.Laws.StructEq
import Derived.Maps.Own
import Derived.Maps.RangeRun
import Derived.Lib.Bytealg
import Derived.Maps.AppendAt
import Derived.RegionTactic
import Derived.OwnWalk
import Derived.Deep.DeepMust
import Derived.Deep.RegionLaw
import Derived.Deep.RegionHeld3
import Derived.Deep.DeepCutAuto
import Derived.Deep.CutBlock
import Derived.BigRegion
import Derived.StillTailTactics
namespace Go.Proofs.YtphglnenafdkaaaGreatDoor
set_option linter.unusedVariables false
set_option linter.unusedSimpArgs false

/-- a number's bytes -/
def putF : Nat → Nat → List Nat
  | 0, n => [n]
  | k + 1, n => if 128 ≤ n then (n % 128 + 128) :: putF k (n / 128) else [n]
def putU (n : Nat) : List Nat := putF 9 n
def zig (n : Int) : Nat := if 0 ≤ n then (2 * n).toNat else (2 * (-(n + 1)) + 1).toNat
def zag (u : Nat) : Int := if u % 2 = 0 then ((u / 2 : Nat) : Int) else -((u / 2 : Nat) : Int) - 1
/-- the bytes of a text -/
def tb (s : ByteArray) : List Nat := s.data.toList.map UInt8.toNat
theorem tb_len (s : ByteArray) : (tb s).length = s.size := by unfold tb; rw [List.length_map, Array.length_toList]; rfl
def vput (v : Vl) : List Nat := if v.ok = true then (if v.k = 1 then 1 :: putU (zig v.n) else if v.k = 2 then 2 :: (putU v.s.size ++ tb v.s) else [0]) else []
def iput (i : Is) : List Nat := i.op.toNat :: putU i.n.toNat
def Pr.put (p : Pr) : List Nat := putU p.args.toNat ++ (putU p.cs.length ++ (p.cs.flatMap vput ++ (putU p.code.length ++ p.code.flatMap iput)))
/-! a reader -/
/-- a number at a place, from its byte i on: the number and how many bytes it has, or the error -/
def numF (b : List Nat) (at_ : Nat) : Nat → Nat → Nat → (Nat × Nat) ⊕ Int
  | 0, i, acc => .inr 11
  | k + 1, i, acc => match b[at_ + i]? with
    | none => .inr 3
    | some c => if i = 9 ∧ 1 < c then .inr 11
      else if c < 128 then (if 0 < i ∧ c = 0 then .inr 10 else .inl (acc + c * 128 ^ i, i + 1))
      else numF b at_ k (i + 1) (acc + c % 128 * 128 ^ i)
def num (b : List Nat) (at_ : Nat) : (Nat × Nat) ⊕ Int := numF b at_ 10 0 0
structure Rr where
  b : List Nat
  at_ : Nat
  last : Nat
  e : Int
  spot : Nat
deriving DecidableEq
def Rr.new (b : List Nat) : Rr := ⟨b, 0, 0, 0, 0⟩
def Rr.fails (r : Rr) (e : Int) : Rr := { r with e := e, spot := r.at_ }
def Rr.took (r : Rr) (n : Nat) : Rr := { r with last := r.at_, at_ := r.at_ + n }
def Rr.byte (r : Rr) : Nat × Rr := if r.e ≠ 0 then (0, r) else match r.b[r.at_]? with | none => (0, r.fails 3) | some c => (c, r.took 1)
def Rr.uint (r : Rr) : Nat × Rr := if r.e ≠ 0 then (0, r) else match num r.b r.at_ with | .inr e => (0, r.fails e) | .inl (n, k) => (n, r.took k)
def Rr.int (r : Rr) : Int × Rr := if r.e ≠ 0 then (0, r) else match num r.b r.at_ with | .inr e => (0, r.fails e) | .inl (n, k) => (zag n, r.took k)
def Rr.count (r : Rr) (most : Int) : Nat × Rr := if r.e ≠ 0 then (0, r) else match num r.b r.at_ with | .inr e => (0, r.fails e) | .inl (n, k) => if most < 0 ∨ most < n then (0, r.fails 6) else (n, r.took k)
def bt (l : List Nat) : ByteArray := ⟨(l.map UInt8.ofNat).toArray⟩
def Rr.text (r : Rr) (most : Int) : ByteArray × Rr := if r.e ≠ 0 then (⟨#[]⟩, r) else match num r.b r.at_ with | .inr e => (⟨#[]⟩, r.fails e) | .inl (n, k) => if most < 0 ∨ most < n then (⟨#[]⟩, r.fails 1) else if r.b.length < r.at_ + k + n then (⟨#[]⟩, r.fails 3) else (bt ((r.b.drop (r.at_ + k)).take n), r.took (k + n))
def Rr.fail (r : Rr) (e : Int) : Rr := if r.e = 0 ∧ e ≠ 0 then { r with e := e, spot := r.last } else r
def Rr.end_ (r : Rr) : Rr := if r.e = 0 ∧ r.at_ < r.b.length then r.fails 4 else r
def Rr.rest (r : Rr) : Nat := if r.e ≠ 0 then 0 else r.b.length - r.at_
/-- the value that comes next -/
def Rr.take (r : Rr) : Vl × Rr :=
  let (k, r1) := r.byte
  if k = 0 then (vl0, r1)
  else if k = 1 then (let (n, r2) := r1.int; (if r2.e = 0 then ⟨1, n, ⟨#[]⟩⟩ else vl0, r2))
  else if k = 2 then (let (s, r2) := r1.text 64; if okT s = true then (if r2.e = 0 then ⟨2, 0, s⟩ else vl0, r2) else (vl0, r2.fail 20))
  else (vl0, r1.fail 20)
/-- the constants -/
def getC : Nat → Rr → List Vl → (Rr × List Vl) ⊕ (Int × Nat)
  | 0, r, l => .inl (r, l)
  | k + 1, r, l => if r.e ≠ 0 then .inl (r, l) else
    let (v, r1) := r.take
    if r1.e = 0 ∧ v.k = 0 then .inr (51, r.at_) else getC k r1 (l ++ [v])
/-- the code; where the first operand stands that is too great -/
def getI : Nat → Rr → List Is → Option Nat → Rr × List Is × Option Nat
  | 0, r, l, w => (r, l, w)
  | k + 1, r, l, w => if r.e ≠ 0 then (r, l, w) else
    let (op, r1) := r.byte
    let (n, r2) := r1.uint
    getI k r2 (l ++ [⟨op, ((min n 255 : Nat) : Int)⟩]) (if 255 < n ∧ w = none then some r1.at_ else w)
def getP (b : List Nat) : Pr ⊕ (Int × Nat) :=
  let (a, r) := (Rr.new b).count 8
  let (n, r) := r.count 32
  match getC n r [] with
  | .inr e => .inr e
  | .inl (r, cs) =>
    let (m, r) := r.count 256
    let (r, code, wide) := getI m r [] none
    let r := r.end_
    if r.e ≠ 0 then .inr (r.e, r.spot)
    else match wide with
    | some w => .inr (54, w)
    | none => let p : Pr := ⟨a, cs, code⟩; if p.check.1 ≠ 0 then .inr (p.check.1, p.check.2.toNat) else .inl p
/-! laws -/
theorem putF_len (k : Nat) : ∀ n, 1 ≤ (putF k n).length ∧ (putF k n).length ≤ k + 1 := by
  induction k with
  | zero => intro n; simp [putF]
  | succ k ih =>
    intro n
    unfold putF
    split
    · have := ih (n / 128); simp; omega
    · simp
theorem putF_lt (k : Nat) : ∀ n, n < 128 ^ k * 2 → ∀ x ∈ putF k n, x < 256 := by
  induction k with
  | zero => intro n h x hx; simp [putF] at hx; simp at h; omega
  | succ k ih =>
    intro n h x hx
    unfold putF at hx
    split at hx
    · rcases List.mem_cons.1 hx with rfl | hx
      · omega
      · exact ih (n / 128) (by rw [Nat.pow_succ] at h; omega) x hx
    · simp at hx; omega
theorem num_putF (b : List Nat) (at_ : Nat) : ∀ (k n i acc : Nat), i + k = 9 → n < 128 ^ k * 2 → (0 < i → 0 < n) → (∀ j c, (putF k n)[j]? = some c → b[at_ + i + j]? = some c) → numF b at_ (k + 1) i acc = .inl (acc + n * 128 ^ i, i + (putF k n).length) := by
  intro k
  induction k with
  | zero =>
    intro n i acc hi hn hp hb
    simp at hn
    have h0 := hb 0 n (by simp [putF])
    unfold numF
    rw [show at_ + i = at_ + i + 0 by rfl, h0]
    simp only
    rw [if_neg (by omega), if_pos (by omega), if_neg (by omega)]
    simp [putF]
  | succ k ih =>
    intro n i acc hi hn hp hb
    unfold putF at hb ⊢
    by_cases h : 128 ≤ n
    · rw [if_pos h] at hb ⊢
      have h0 := hb 0 (n % 128 + 128) (by simp)
      unfold numF
      rw [show at_ + i = at_ + i + 0 by rfl, h0]
      simp only
      rw [if_neg (by omega), if_neg (by omega)]
      rw [ih (n / 128) (i + 1) _ (by omega) (by rw [Nat.pow_succ] at hn; omega) (by omega) (fun j c hj => by
        have := hb (j + 1) c (by simpa using hj)
        rwa [show at_ + (i + 1) + j = at_ + i + (j + 1) by omega])]
      have e1 : (n % 128 + 128) % 128 = n % 128 := by omega
      rw [e1]
      congr 1
      · congr 1
        · rw [Nat.pow_succ]
          have : n * 128 ^ i = n % 128 * 128 ^ i + n / 128 * (128 ^ i * 128) := by
            have h2 := Nat.div_add_mod n 128
            calc n * 128 ^ i = (128 * (n / 128) + n % 128) * 128 ^ i := by rw [h2]
              _ = n % 128 * 128 ^ i + n / 128 * (128 ^ i * 128) := by rw [Nat.add_mul, Nat.add_comm, Nat.mul_comm 128, Nat.mul_assoc, Nat.mul_comm 128]
          omega
        · simp; omega
    · rw [if_neg h] at hb ⊢
      have h0 := hb 0 n (by simp)
      unfold numF
      rw [show at_ + i = at_ + i + 0 by rfl, h0]
      simp only
      rw [if_neg (by omega), if_pos (by omega), if_neg (by omega)]
      simp
theorem num_put (pre post : List Nat) (n : Nat) (hn : n < 18446744073709551616) : num (pre ++ (putU n ++ post)) pre.length = .inl (n, (putU n).length) := by
  unfold num
  have h9 : n < 128 ^ 9 * 2 := by
    have : 128 ^ 9 * 2 = 18446744073709551616 := by decide
    omega
  have := num_putF (pre ++ (putU n ++ post)) pre.length 9 n 0 0 rfl h9 (by omega) (fun j c hj => by
    rw [Nat.add_zero, List.getElem?_append_right (by omega), Nat.add_sub_cancel_left, List.getElem?_append_left (by
      have := (List.getElem?_eq_some_iff.1 hj).1; exact this)]
    exact hj)
  simpa [putU] using this
theorem zag_zig (n : Int) : zag (zig n) = n := by
  unfold zag zig
  by_cases h : 0 ≤ n
  · rw [if_pos h, if_pos (by omega)]; omega
  · rw [if_neg h, if_neg (by omega)]; omega
theorem zig_lt {n : Int} (h1 : -9223372036854775808 ≤ n) (h2 : n ≤ 9223372036854775807) : zig n < 18446744073709551616 := by
  unfold zig; split <;> omega
theorem bt_tb (s : ByteArray) : bt (tb s) = s := by
  unfold bt tb
  rw [List.map_map]
  have : (UInt8.ofNat ∘ UInt8.toNat) = id := by funext c; simp
  rw [this, List.map_id]

end Go.Proofs.YtphglnenafdkaaaGreatDoor

namespace Go.Proofs.YtphglnenafdkaaaGreatDoor
set_option linter.unusedVariables false
set_option linter.unusedSimpArgs false

/-- these bytes stand at a place -/
def Has (b : List Nat) (a : Nat) (l : List Nat) : Prop := ∀ j c, l[j]? = some c → b[a + j]? = some c
theorem Has.app {b : List Nat} {a : Nat} {l m : List Nat} (h : Has b a (l ++ m)) : Has b a l ∧ Has b (a + l.length) m := by
  refine ⟨fun j c hj => h j c ?_, fun j c hj => ?_⟩
  · rw [List.getElem?_append_left (List.getElem?_eq_some_iff.1 hj).1]; exact hj
  · rw [Nat.add_assoc]
    refine h _ c ?_
    rw [List.getElem?_append_right (by omega), Nat.add_sub_cancel_left]; exact hj
theorem Has.cons {b : List Nat} {a c : Nat} {m : List Nat} (h : Has b a (c :: m)) : b[a]? = some c ∧ Has b (a + 1) m := ⟨h 0 c rfl, (Has.app (l := [c]) h).2⟩
theorem Has.self (l : List Nat) : Has l 0 l := fun j c hj => by rwa [Nat.zero_add]
theorem Has.len {b : List Nat} {a : Nat} {l : List Nat} (h : Has b a l) (hl : 0 < l.length) : a + l.length ≤ b.length := by
  have := h (l.length - 1) _ (List.getElem?_eq_getElem (by omega))
  have := (List.getElem?_eq_some_iff.1 this).1
  omega
theorem Has.took {b : List Nat} {a : Nat} {l : List Nat} (h : Has b a l) (ha : a + l.length ≤ b.length) : (b.drop a).take l.length = l := by
  apply List.ext_getElem?
  intro j
  by_cases hj : j < l.length
  · rw [List.getElem?_take_of_lt hj, List.getElem?_drop, h j _ (List.getElem?_eq_getElem hj), List.getElem?_eq_getElem hj]
  · rw [List.getElem?_take_eq_none (by omega), List.getElem?_eq_none (by omega)]
theorem num_has {b : List Nat} {a n : Nat} (h : Has b a (putU n)) (hn : n < 18446744073709551616) : num b a = .inl (n, (putU n).length) := by
  unfold num
  have h9 : n < 128 ^ 9 * 2 := by
    have : 128 ^ 9 * 2 = 18446744073709551616 := by decide
    omega
  have := num_putF b a 9 n 0 0 rfl h9 (by omega) (fun j c hj => by rw [Nat.add_zero]; exact h j c hj)
  simpa [putU] using this
section
variable {r : Rr} {n : Nat}
theorem count_has {most : Nat} (he : r.e = 0) (h : Has r.b r.at_ (putU n)) (hm : n ≤ most) (hs : most < 18446744073709551616) : r.count most = (n, r.took (putU n).length) := by
  unfold Rr.count
  rw [if_neg (by simp [he]), num_has h (by omega)]
  simp only
  rw [if_neg (by omega)]
theorem uint_has (he : r.e = 0) (h : Has r.b r.at_ (putU n)) (hs : n < 18446744073709551616) : r.uint = (n, r.took (putU n).length) := by
  unfold Rr.uint
  rw [if_neg (by simp [he]), num_has h (by omega)]
theorem int_has {n : Int} (he : r.e = 0) (h : Has r.b r.at_ (putU (zig n))) (h1 : -9223372036854775808 ≤ n) (h2 : n ≤ 9223372036854775807) : r.int = (n, r.took (putU (zig n)).length) := by
  unfold Rr.int
  rw [if_neg (by simp [he]), num_has h (zig_lt h1 h2)]
  simp only
  rw [zag_zig]
theorem byte_has {c : Nat} (he : r.e = 0) (h : r.b[r.at_]? = some c) : r.byte = (c, r.took 1) := by
  unfold Rr.byte
  rw [if_neg (by simp [he]), h]
theorem text_has {s : ByteArray} (he : r.e = 0) (h : Has r.b r.at_ (putU s.size ++ tb s)) (hs : s.size ≤ 64) : r.text 64 = (s, r.took ((putU s.size).length + s.size)) := by
  obtain ⟨h1, h2⟩ := h.app
  unfold Rr.text
  rw [if_neg (by simp [he]), num_has h1 (by omega)]
  simp only
  have hl := h1.len (by have := putF_len 9 s.size; unfold putU; omega)
  have hr : r.at_ + (putU s.size).length + (tb s).length ≤ r.b.length := by
    by_cases e : (tb s).length = 0
    · omega
    · have := h2.len (by omega); omega
  have ht := h2.took hr
  rw [tb_len] at ht hr
  rw [if_neg (by omega), if_neg (by omega), ht, bt_tb]
theorem vput_len (v : Vl) (h : v.ok = true) : 1 ≤ (vput v).length := by
  unfold vput
  rw [if_pos h]
  split
  · simp
  · split <;> simp
def Vl.rng (v : Vl) : Prop := -9223372036854775808 ≤ v.n ∧ v.n ≤ 9223372036854775807
theorem ok_forms {v : Vl} (h : v.ok = true) : v = vl0 ∨ (v.k = 1 ∧ v.s = ⟨#[]⟩) ∨ (v.k = 2 ∧ v.n = 0 ∧ v.s.size ≤ 64 ∧ okT v.s = true) := by
  unfold Vl.ok at h
  split at h
  · rename_i h1
    simp only [Bool.and_eq_true, decide_eq_true_eq] at h
    obtain ⟨k, n, s⟩ := v
    simp only at h1 h
    exact .inl (by rw [h1, h.1, h.2]; rfl)
  · split at h
    · rename_i h2
      exact .inr (.inl ⟨h2, of_decide_eq_true h⟩)
    · split at h
      · rename_i h3
        simp only [Bool.and_eq_true, decide_eq_true_eq] at h
        exact .inr (.inr ⟨h3, h.1, h.2.1, h.2.2⟩)
      · cases h
theorem took_e (r : Rr) (k : Nat) : (r.took k).e = r.e ∧ (r.took k).b = r.b ∧ (r.took k).at_ = r.at_ + k := ⟨rfl, rfl, rfl⟩
theorem take_has {v : Vl} (he : r.e = 0) (hv : v.ok = true) (hr : v.rng) (h : Has r.b r.at_ (vput v)) : ∃ r', r.take = (v, r') ∧ r'.b = r.b ∧ r'.e = 0 ∧ r'.at_ = r.at_ + (vput v).length := by
  unfold vput at h ⊢
  rw [if_pos hv] at h ⊢
  rcases ok_forms hv with rfl | ⟨h1, h2⟩ | ⟨h1, h2, h3, h4⟩
  · rw [if_neg (by decide), if_neg (by decide)] at h ⊢
    have h0 := h.cons.1
    refine ⟨r.took 1, ?_, rfl, he, rfl⟩
    unfold Rr.take
    rw [byte_has he h0]
    simp
  · rw [if_pos h1] at h ⊢
    obtain ⟨h0, h5⟩ := h.cons
    refine ⟨(r.took 1).took (putU (zig v.n)).length, ?_, rfl, he, ?_⟩
    · unfold Rr.take
      rw [byte_has he h0]
      simp only
      rw [if_neg (by decide)]
      simp only [if_true]
      rw [int_has (r := r.took 1) he h5 hr.1 hr.2]
      simp only
      rw [if_pos (show ((r.took 1).took (putU (zig v.n)).length).e = 0 from he)]
      obtain ⟨k, n, s⟩ := v
      simp only at h1 h2
      rw [h1, h2]
    · show r.at_ + 1 + _ = _
      simp; omega
  · rw [if_neg (by omega), if_pos h1] at h ⊢
    obtain ⟨h0, h5⟩ := h.cons
    refine ⟨(r.took 1).took ((putU v.s.size).length + v.s.size), ?_, rfl, he, ?_⟩
    · unfold Rr.take
      rw [byte_has he h0]
      simp only
      rw [if_neg (by decide), if_neg (by decide)]
      simp only [if_true]
      rw [text_has (r := r.took 1) he h5 h3]
      simp only
      rw [if_pos h4, if_pos (show ((r.took 1).took ((putU v.s.size).length + v.s.size)).e = 0 from he)]
      obtain ⟨k, n, s⟩ := v
      simp only at h1 h2
      rw [h1, h2]
    · show r.at_ + 1 + _ = _
      simp [tb_len]; omega
end
theorem getC_has : ∀ (cs : List Vl) (r : Rr) (l : List Vl), r.e = 0 → (∀ v ∈ cs, v.ok = true ∧ v.k ≠ 0 ∧ v.rng) → Has r.b r.at_ (cs.flatMap vput) → ∃ r', getC cs.length r l = .inl (r', l ++ cs) ∧ r'.b = r.b ∧ r'.e = 0 ∧ r'.at_ = r.at_ + (cs.flatMap vput).length := by
  intro cs
  induction cs with
  | nil => intro r l he _ _; exact ⟨r, by simp [getC], rfl, he, by simp⟩
  | cons v cs ih =>
    intro r l he hv h
    rw [List.flatMap_cons] at h
    obtain ⟨h1, h2⟩ := h.app
    obtain ⟨a1, a2, a3⟩ := hv v List.mem_cons_self
    obtain ⟨r1, b1, b2, b3, b4⟩ := take_has he a1 a3 h1
    obtain ⟨r2, c1, c2, c3, c4⟩ := ih r1 (l ++ [v]) b3 (fun u hu => hv u (List.mem_cons_of_mem _ hu)) (by rw [b2, b4]; exact h2)
    refine ⟨r2, ?_, c2.trans b2, c3, ?_⟩
    · rw [List.length_cons, getC, if_neg (by simp [he]), b1]
      simp only
      rw [if_neg (by rintro ⟨_, h⟩; exact a2 h), c1]
      simp
    · rw [c4, b4, List.flatMap_cons, List.length_append]; omega
theorem getI_has : ∀ (code : List Is) (r : Rr) (l : List Is), r.e = 0 → (∀ i ∈ code, 0 ≤ i.op ∧ 0 ≤ i.n ∧ i.n ≤ 255) → Has r.b r.at_ (code.flatMap iput) → ∃ r', getI code.length r l none = (r', l ++ code, none) ∧ r'.b = r.b ∧ r'.e = 0 ∧ r'.at_ = r.at_ + (code.flatMap iput).length := by
  intro code
  induction code with
  | nil => intro r l he _ _; exact ⟨r, by simp [getI], rfl, he, by simp⟩
  | cons i code ih =>
    intro r l he hv h
    rw [List.flatMap_cons] at h
    obtain ⟨h1, h2⟩ := h.app
    obtain ⟨a1, a2, a3⟩ := hv i List.mem_cons_self
    unfold iput at h1
    obtain ⟨g1, g2⟩ := h1.cons
    obtain ⟨r2, c1, c2, c3, c4⟩ := ih ((r.took 1).took (putU i.n.toNat).length) (l ++ [i]) he (fun u hu => hv u (List.mem_cons_of_mem _ hu)) (by
      show Has r.b (r.at_ + 1 + _) _
      unfold iput at h2
      rw [List.length_cons] at h2
      rwa [show r.at_ + 1 + (putU i.n.toNat).length = r.at_ + ((putU i.n.toNat).length + 1) by omega])
    refine ⟨r2, ?_, c2, c3, ?_⟩
    · rw [List.length_cons, getI, if_neg (by simp [he]), byte_has he g1]
      simp only
      rw [uint_has (r := r.took 1) he g2 (by omega)]
      simp only
      rw [if_neg (by omega), show min i.n.toNat 255 = i.n.toNat by omega, Int.toNat_of_nonneg a1, Int.toNat_of_nonneg a2, c1]
      simp
    · rw [c4, List.flatMap_cons, List.length_append]
      show r.at_ + 1 + _ + _ = _
      unfold iput
      rw [List.length_cons]; omega
/-- what a form that is right says -/
theorem form_ok {p : Pr} (h : p.form.1 = 0) : 0 ≤ p.args ∧ p.args ≤ 8 ∧ p.cs.length ≤ 32 ∧ (∀ v ∈ p.cs, v.ok = true ∧ v.k ≠ 0) ∧ 0 < p.code.length ∧ p.code.length ≤ 256 ∧ ∀ i ∈ p.code, isOp i.op = true ∧ 0 ≤ i.n ∧ i.n < p.most i.op := by
  unfold Pr.form at h
  split at h
  · cases h
  rename_i h1
  split at h
  · cases h
  rename_i h2
  split at h
  · rename_i h3; exact absurd h h3
  rename_i h3
  split at h
  · cases h
  rename_i h4
  refine ⟨by omega, by omega, by omega, fun v hv => ?_, by omega, by omega, fun i hi => ?_⟩
  · obtain ⟨j, hj, rfl⟩ := List.mem_iff_getElem.1 hv
    rcases scan_form (fun i => conE (p.cs.getD i vl0)) p.cs.length 0 with ⟨_, h5⟩ | ⟨q, _, _, h6, h7, _⟩
    · have := h5 j (Nat.zero_le _) (by omega)
      simp only [List.getD_eq_getElem?_getD, List.getElem?_eq_getElem hj, Option.getD_some, conE] at this
      split at this
      · assumption
      · cases this
    · rw [h7] at h3; exact absurd h3 (by simpa using h6)
  · obtain ⟨j, hj, rfl⟩ := List.mem_iff_getElem.1 hi
    rcases scan_form (fun i => p.insE (p.code.getD i is0)) p.code.length 0 with ⟨_, h5⟩ | ⟨q, _, _, h6, h7, _⟩
    · have := h5 j (Nat.zero_le _) (by omega)
      simp only [List.getD_eq_getElem?_getD, List.getElem?_eq_getElem hj, Option.getD_some, Pr.insE] at this
      split at this
      · cases this
      · rename_i h8
        split at this
        · rename_i h9; exact ⟨by simpa using h8, h9.1, h9.2⟩
        · cases this
    · rw [h7] at h; exact absurd h h6
theorem most_le {p : Pr} (h : p.form.1 = 0) (op : Int) : p.most op ≤ 256 := by
  obtain ⟨h1, h2, h3, _, _, h6, _⟩ := form_ok h
  unfold Pr.most
  split
  · omega
  · split
    · omega
    · split <;> omega
theorem get_put {p : Pr} (hc : p.check.1 = 0) (hr : ∀ v ∈ p.cs, v.rng) : getP p.put = .inl p := by
  obtain ⟨d, hd, hf, _⟩ := deps_len hc
  obtain ⟨f1, f2, f3, f4, f5, f6, f7⟩ := form_ok hf
  have h0 := Has.self p.put
  unfold Pr.put at h0
  obtain ⟨g1, h1⟩ := h0.app
  obtain ⟨g2, h2⟩ := h1.app
  obtain ⟨g3, h3⟩ := h2.app
  obtain ⟨g4, g5⟩ := h3.app
  obtain ⟨B, hB⟩ : ∃ B, B = p.put := ⟨_, rfl⟩
  have hB' : putU p.args.toNat ++ (putU p.cs.length ++ (p.cs.flatMap vput ++ (putU p.code.length ++ p.code.flatMap iput))) = B := by rw [hB]; rfl
  rw [hB'] at g1 g2 g3 g4 g5
  rw [← hB]
  unfold getP
  have c1 := count_has (r := Rr.new B) (most := 8) (n := p.args.toNat) rfl g1 (by omega) (by omega)
  rw [show ((8 : Nat) : Int) = 8 from rfl] at c1
  rw [c1]
  simp only
  obtain ⟨R1, hR1⟩ : ∃ R1, R1 = (Rr.new B).took (putU p.args.toNat).length := ⟨_, rfl⟩
  rw [← hR1]
  have b1 : R1.b = B ∧ R1.e = 0 ∧ R1.at_ = 0 + (putU p.args.toNat).length := by subst hR1; exact ⟨rfl, rfl, rfl⟩
  have c2 := count_has (r := R1) (most := 32) (n := p.cs.length) b1.2.1 (by rw [b1.1, b1.2.2]; exact g2) f3 (by omega)
  rw [show ((32 : Nat) : Int) = 32 from rfl] at c2
  rw [c2]
  simp only
  obtain ⟨R2, hR2⟩ : ∃ R2, R2 = R1.took (putU p.cs.length).length := ⟨_, rfl⟩
  rw [← hR2]
  have b2 : R2.b = B ∧ R2.e = 0 ∧ R2.at_ = 0 + (putU p.args.toNat).length + (putU p.cs.length).length := by subst hR2; exact ⟨b1.1, b1.2.1, by show R1.at_ + _ = _; rw [b1.2.2]⟩
  obtain ⟨R3, c3, d1, d2, d3⟩ := getC_has p.cs R2 [] b2.2.1 (fun v hv => ⟨(f4 v hv).1, (f4 v hv).2, hr v hv⟩) (by rw [b2.1, b2.2.2]; exact g3)
  rw [c3]
  simp only [List.nil_append]
  have c4 := count_has (r := R3) (most := 256) (n := p.code.length) d2 (by rw [d1, b2.1, d3, b2.2.2]; exact g4) f6 (by omega)
  rw [show ((256 : Nat) : Int) = 256 from rfl] at c4
  rw [c4]
  simp only
  obtain ⟨R4, hR4⟩ : ∃ R4, R4 = R3.took (putU p.code.length).length := ⟨_, rfl⟩
  rw [← hR4]
  have b4 : R4.b = B ∧ R4.e = 0 ∧ R4.at_ = 0 + (putU p.args.toNat).length + (putU p.cs.length).length + (p.cs.flatMap vput).length + (putU p.code.length).length := by subst hR4; exact ⟨d1.trans b2.1, d2, by show R3.at_ + _ = _; rw [d3, b2.2.2]⟩
  obtain ⟨R5, c5, e1, e2, e3⟩ := getI_has p.code R4 [] b4.2.1 (fun i hi => by
    obtain ⟨q1, q2, q3⟩ := f7 i hi
    have := most_le hf i.op
    unfold isOp at q1
    simp only [Bool.and_eq_true, decide_eq_true_eq] at q1
    exact ⟨by omega, q2, by omega⟩) (by rw [b4.1, b4.2.2]; exact g5)
  rw [c5]
  simp only [List.nil_append]
  have hend : R5.end_ = R5 := by
    unfold Rr.end_
    rw [if_neg]
    rintro ⟨_, h⟩
    rw [e1, b4.1, e3, b4.2.2, ← hB'] at h
    simp only [List.length_append] at h
    omega
  rw [hend, if_neg (by rw [e2]; decide)]
  have hp : (⟨((p.args.toNat : Nat) : Int), p.cs, p.code⟩ : Pr) = p := by
    obtain ⟨a, cs, code⟩ := p
    simp only at f1 ⊢
    rw [Int.toNat_of_nonneg f1]
  rw [hp, if_neg (by rw [hc]; decide)]

end Go.Proofs.YtphglnenafdkaaaGreatDoor

namespace Go.Proofs.YtphglnenafdkaaaGreatDoor
open Go
set_option linter.unusedVariables false
set_option linter.unusedSimpArgs false

theorem takeWhile_all {α : Type} {p : α → Bool} : ∀ {l : List α}, (∀ c ∈ l, p c = true) → l.takeWhile p = l := by
  intro l
  induction l with
  | nil => intro _; rfl
  | cons c r ih => intro h; rw [List.takeWhile_cons, if_pos (h c (List.mem_cons_self ..)), ih fun c hc => h c (List.mem_cons_of_mem _ hc)]
def numT (neg : Bool) (ds : List UInt8) : List UInt8 := if neg = true then 45 :: ds else ds
theorem num_of (neg : Bool) {ds : List UInt8} (hd : ∀ c ∈ ds, isD c = true) : numL (numT neg ds) = numE neg ds (numT neg ds).length := by
  unfold numL digs fromL numT
  cases neg with
  | true => simp [takeWhile_all hd]
  | false =>
    have h : ds.head? ≠ some 45 := fun e => by
      have := hd 45 (List.mem_of_mem_head? e)
      exact absurd this (by decide)
    simp [h, takeWhile_all hd]
theorem parse_num (neg : Bool) {ds : List UInt8} (hd : ∀ c ∈ ds, isD c = true) (h0 : neg = true ∨ ds ≠ []) : parseL (numT neg ds) = numE neg ds (numT neg ds).length := by
  rw [← num_of neg hd]
  unfold numT
  cases neg with
  | true => simp [parseL]
  | false =>
    cases ds with
    | nil => simp at h0
    | cons c r =>
      have hc := hd c (List.mem_cons_self ..)
      have h34 : c ≠ 34 := fun e => by subst e; exact absurd hc (by decide)
      simp [parseL, hc, h34]
theorem takeWhile_len {α : Type} {p : α → Bool} {l : List α} (h : l.length ≤ (l.takeWhile p).length) : l.takeWhile p = l := by
  have h1 := List.takeWhile_append_dropWhile (p := p) (l := l)
  have h2 := congrArg List.length h1
  rw [List.length_append] at h2
  have : l.dropWhile p = [] := List.eq_nil_of_length_eq_zero (by omega)
  rw [this, List.append_nil] at h1
  exact h1
theorem takeWhile_mem {α : Type} {p : α → Bool} : ∀ {l : List α}, ∀ c ∈ l.takeWhile p, p c = true := by
  intro l
  induction l with
  | nil => intro c hc; cases hc
  | cons a r ih =>
    intro c hc
    rw [List.takeWhile_cons] at hc
    split at hc
    · rename_i ha
      rcases List.mem_cons.1 hc with rfl | hc
      · exact ha
      · exact ih c hc
    · cases hc
theorem numE_good {neg : Bool} {ds : List UInt8} {len : Nat} (h : (numE neg ds len).e = 0) : ds ≠ [] ∧ (ds.head? = some 48 → neg = false ∧ ds.length = 1) ∧ (if neg = true then dval 0 ds ≤ 9223372036854775808 else dval 0 ds < 9223372036854775808) ∧ len ≤ (if neg = true then 1 else 0) + ds.length ∧ numE neg ds len = .good (intV (if neg = true then -(dval 0 ds : Int) else dval 0 ds)) := by
  unfold numE at h ⊢
  simp only at h ⊢
  by_cases h1 : ds = []
  · rw [if_pos h1] at h; exfalso; (repeat' split at h) <;> simp [Pz.bad] at h
  · rw [if_neg h1] at h ⊢
    by_cases h2 : ds.head? = some 48 ∧ neg = true
    · rw [if_pos h2] at h; simp [Pz.bad] at h
    · rw [if_neg h2] at h ⊢
      by_cases h3 : ds.head? = some 48 ∧ 1 < ds.length
      · rw [if_pos h3] at h; simp [Pz.bad] at h
      · rw [if_neg h3] at h ⊢
        by_cases h4 : (if neg = true then 9223372036854775808 < dval 0 ds else 9223372036854775808 ≤ dval 0 ds)
        · rw [if_pos h4] at h; simp [Pz.bad] at h
        · rw [if_neg h4] at h ⊢
          by_cases h5 : (if neg = true then 1 else 0) + ds.length < len
          · rw [if_pos h5] at h; simp [Pz.bad] at h
          · rw [if_neg h5] at h ⊢
            refine ⟨h1, fun e => ?_, ?_, by omega, rfl⟩
            · have : 0 < ds.length := List.length_pos_iff.2 h1
              refine ⟨?_, ?_⟩
              · cases neg with
                | true => exact absurd ⟨e, rfl⟩ h2
                | false => rfl
              · have : ¬ 1 < ds.length := fun h => h3 ⟨e, h⟩
                omega
            · cases neg <;> simp at h4 ⊢ <;> omega
theorem numE_of {neg : Bool} {ds : List UInt8} {len : Nat} (h1 : ds ≠ []) (h2 : ds.head? = some 48 → neg = false ∧ ds.length = 1) (h3 : if neg = true then dval 0 ds ≤ 9223372036854775808 else dval 0 ds < 9223372036854775808) (h4 : len ≤ (if neg = true then 1 else 0) + ds.length) : numE neg ds len = .good (intV (if neg = true then -(dval 0 ds : Int) else dval 0 ds)) := by
  unfold numE
  simp only
  rw [if_neg h1, if_neg (fun e => by have := (h2 e.1).1; rw [e.2] at this; cases this), if_neg (fun e => by have := (h2 e.1).2; omega), if_neg (by cases neg <;> simp at h3 ⊢ <;> omega), if_neg (by omega)]
theorem itoa_dval (neg : Bool) {ds : List UInt8} (hd : ∀ c ∈ ds, isD c = true) (h1 : ds ≠ []) (h2 : ds.head? = some 48 → neg = false ∧ ds.length = 1) : Lib.itoa (if neg = true then -(dval 0 ds : Int) else dval 0 ds) = numT neg ds := by
  have e := dec_dval ds.length ds rfl hd h1 (fun h => (h2 h).2)
  unfold Lib.itoa numT
  cases neg with
  | true =>
    have : 0 < dval 0 ds := dval_pos hd h1 (fun h => by have := (h2 h).1; cases this)
    simp only [if_true]
    rw [if_pos (by omega), show (-(dval 0 ds : Int)).natAbs = dval 0 ds by omega, e]
  | false =>
    simp only [Bool.false_eq_true, if_false]
    rw [if_neg (by omega), show ((dval 0 ds : Int)).toNat = dval 0 ds by omega, e]
theorem numL_shape {s : List UInt8} (h : s.length ≤ (if (decide (s.head? = some 45)) = true then 1 else 0) + (digs s).length) (hne : s ≠ []) : s = numT (decide (s.head? = some 45)) (digs s) := by
  unfold numT
  unfold digs fromL at *
  cases s with
  | nil => exact absurd rfl hne
  | cons c r =>
    by_cases hc : c = 45
    · subst hc
      simp at h ⊢
      exact (takeWhile_len (by omega)).symm
    · simp [hc] at h ⊢
      exact (takeWhile_len (by simpa using h)).symm
theorem head_take {l : List UInt8} {k : Nat} (hk : 0 < k) : (l.take k).head? = l.head? := by
  cases k with
  | zero => omega
  | succ k => cases l <;> rfl
theorem want_good : ∀ (q r : List UInt8) (i : Nat), (wantL r q i).e = 0 → r = q
  | [], [], _, _ => rfl
  | [], _ :: _, i, h => absurd h (by simp [wantL, Pz.bad])
  | _ :: _, [], i, h => absurd h (by simp [wantL, Pz.bad])
  | d :: q, c :: r, i, h => by
    unfold wantL at h
    split at h
    · rename_i e; rw [e, want_good q r _ h]
    · simp [Pz.bad] at h
/-- what is read is what would be printed; its beginnings -/
theorem parse_good {s : List UInt8} (h : (parseL s).e = 0) : ∃ v, parseL s = .good v ∧ v.ok = true ∧ v.rng ∧ litL v = s ∧ ∀ cut, cut < s.length → (parseL (s.take cut)).e = 0 ∨ parseL (s.take cut) = .bad 3 cut := by
  cases s with
  | nil => simp [parseL, Pz.bad] at h
  | cons c r =>
    by_cases h1 : c = 34
    · subst h1
      simp only [parseL, if_true] at h ⊢
      obtain ⟨t, e1, e2, e3, e4, e5⟩ := scan_good r.length r 1 [] (Nat.le_refl _) h (by simp)
      rw [List.nil_append] at e1 e4
      refine ⟨wordV t, e1, ?_, ⟨by simp [wordV], by simp [wordV]⟩, ?_, fun cut hc => ?_⟩
      · unfold Vl.ok wordV
        simp only
        rw [if_neg (by decide), if_neg (by decide)]
        simp only [if_true, decide_true, Bool.true_and, Bool.and_eq_true, decide_eq_true_eq]
        refine ⟨by simpa [ByteArray.size] using e4, ?_⟩
        unfold okT
        rw [List.all_eq_true]
        simpa using e3
      · unfold litL wordV
        simp only
        rw [if_neg (by decide), if_neg (by decide)]
        simp [e2]
      · rcases cut with _ | cut
        · right; rfl
        · right
          simp only [List.take_succ_cons, if_true]
          rw [e5 cut (by simp at hc; omega)]
          congr 1; omega
    · by_cases h2 : c = 45 ∨ isD c = true
      · have hp : parseL (c :: r) = numL (c :: r) := by simp only [parseL]; rw [if_neg h1, if_pos h2]
        rw [hp] at h ⊢
        unfold numL at h ⊢
        generalize hneg : decide ((c :: r).head? = some 45) = neg at h ⊢
        obtain ⟨g1, g2, g3, g4, g5⟩ := numE_good h
        have hs := numL_shape (s := c :: r) (by rw [hneg]; exact g4) (by simp)
        rw [hneg] at hs
        generalize hds : digs (c :: r) = ds at *
        have hd : ∀ c ∈ ds, isD c = true := by rw [← hds]; unfold digs; exact takeWhile_mem
        refine ⟨_, g5, ?_, ?_, ?_, fun cut hc => ?_⟩
        · simp [Vl.ok, intV]
        · unfold Vl.rng intV; cases neg <;> simp at g3 ⊢ <;> omega
        · rw [hs, ← itoa_dval neg hd g1 g2]; simp [litL, intV]
        · rw [hs] at hc ⊢
          cases neg with
          | true =>
            rcases cut with _ | cut
            · right; rfl
            · have e : (numT true ds).take (cut + 1) = numT true (ds.take cut) := by simp [numT]
              rw [e, parse_num true (fun c hc => hd c (List.mem_of_mem_take hc)) (.inl rfl)]
              rcases cut with _ | cut
              · right; simp [numE, numT]
              · left
                rw [numE_of]
                · rfl
                · intro e; have := congrArg List.length e; rw [List.length_take, List.length_nil] at this; simp [numT] at hc; omega
                · intro e; rw [head_take (by omega)] at e; exact absurd (g2 e).1 (by decide)
                · have := dval_take ds (cut + 1) 0; simp at g3 ⊢; omega
                · unfold numT; simp only [if_true, List.length_cons]; omega
          | false =>
            rcases cut with _ | cut
            · right; rfl
            · have e : (numT false ds).take (cut + 1) = numT false (ds.take (cut + 1)) := by simp [numT]
              have hne : ds.take (cut + 1) ≠ [] := by intro e; have := congrArg List.length e; rw [List.length_take, List.length_nil] at this; simp [numT] at hc; omega
              rw [e, parse_num false (fun c hc => hd c (List.mem_of_mem_take hc)) (.inr hne)]
              left
              rw [numE_of hne]
              · rfl
              · intro e; rw [head_take (by omega)] at e; have := (g2 e).2; simp [numT] at hc; omega
              · have := dval_take ds (cut + 1) 0; simp at g3 ⊢; omega
              · unfold numT; simp only [Bool.false_eq_true, if_false]; omega
      · have hp : parseL (c :: r) = wantL (c :: r) noneT 0 := by simp only [parseL]; rw [if_neg h1, if_neg h2]
        rw [hp] at h ⊢
        have hs : c :: r = noneT := want_good _ _ _ h
        rw [hs]
        refine ⟨vl0, rfl, rfl, ⟨by decide, by decide⟩, rfl, fun cut hc => .inr ?_⟩
        rcases cut with _ | _ | _ | _ | cut
        · rfl
        · rfl
        · rfl
        · rfl
        · exfalso; have h4 : noneT.length = 4 := rfl; omega
/-- what is printed is read -/
theorem parse_lit {v : Vl} (hv : v.ok = true) (hr : v.rng) : parseL (litL v) = .good v := by
  rcases ok_forms hv with rfl | ⟨h1, h2⟩ | ⟨h1, h2, h3, h4⟩
  · rfl
  · obtain ⟨k, n, s⟩ := v
    simp only at h1 h2
    subst h1 h2
    unfold litL
    rw [if_pos rfl]
    simp only
    have hb : -9223372036854775808 ≤ n ∧ n ≤ 9223372036854775807 := hr
    by_cases hn : n < 0
    · have e : Lib.itoa n = numT true (Lib.decDigits n.natAbs) := by unfold Lib.itoa numT; rw [if_pos hn]; rfl
      rw [e, parse_num true (dec_isD _) (.inl rfl), numE_of (dec_ne _) (fun e => absurd e (dec_head _ (by omega))) (by rw [dval_dec]; simp only [if_true]; omega) (by unfold numT; simp only [if_true, List.length_cons]; omega)]
      rw [dval_dec]
      unfold intV
      simp only [if_true]
      rw [show -((n.natAbs : Nat) : Int) = n by omega]
    · have e : Lib.itoa n = numT false (Lib.decDigits n.toNat) := by unfold Lib.itoa numT; rw [if_neg hn]; rfl
      rw [e, parse_num false (dec_isD _) (.inr (dec_ne _)), numE_of (dec_ne _) (fun e => ⟨rfl, ?_⟩) (by rw [dval_dec]; simp only [Bool.false_eq_true, if_false]; omega) (by unfold numT; simp only [Bool.false_eq_true, if_false]; omega)]
      · rw [dval_dec]
        unfold intV
        simp only [Bool.false_eq_true, if_false]
        rw [show ((n.toNat : Nat) : Int) = n by omega]
      · by_cases h0 : n.toNat = 0
        · rw [h0, dec_zero]; rfl
        · exact absurd e (dec_head _ h0)
  · obtain ⟨k, n, s⟩ := v
    simp only at h1 h2 h3 h4
    subst h1 h2
    unfold litL
    have hl : s.data.toList.length = s.size := by rw [Array.length_toList]; rfl
    rw [if_neg (by simp), if_neg (by simp)]
    simp only [parseL, if_true]
    rw [scan_esc _ _ _ (by unfold okT at h4; rw [List.all_eq_true] at h4; exact h4) (by rw [List.length_nil, hl]; omega)]
    rfl
theorem lit_inj {v w : Vl} (hv : v.ok = true) (hr : v.rng) (hw : w.ok = true) (hq : w.rng) (h : litL v = litL w) : v = w := by
  have h1 := parse_lit hv hr
  rw [h, parse_lit hw hq] at h1
  have := congrArg Pz.v h1
  exact this.symm
/-- what Number says -/
def numR (p : Pz) : Int × Bool := (p.v.n, decide (p.e = 0 ∧ p.v.k = 1))
end Go.Proofs.YtphglnenafdkaaaGreatDoor

namespace Go.Proofs.YtphglnenafdkaaaGreatDoor
open Go.RowKit

/-- how the keys of a map's key type lie in memory -/
structure KeyEnc (P : Program) (k : TypeId) (κ : Type) [DecidableEq κ] where
  enc : κ → Value
  desc : TypeDesc
  under : P.underlying k = some desc
  eq : ∀ (a b : κ) (w : World), (Op.equal k (enc a) (enc b)).run P w = .ok (decide (a = b)) w
  check : ∀ (em : Bool) (a : κ) (w : World), (Instr.checkKey em 10000 k (enc a)).run P w = .ok () w
  now : ∀ a b : κ, Instr.sameNow desc (enc a) (enc b) = none ∨ Instr.sameNow desc (enc a) (enc b) = some (decide (a = b))
  bits : ∀ a : κ, Instr.sameBits 10000 (enc a) (enc a) = true

section
variable {P : Program} {k : TypeId} {κ : Type} [DecidableEq κ] (E : KeyEnc P k κ)

/-- the first entry of a key: its place and value -/
def look (x : κ) : List (κ × Value) → Nat → Option (Nat × Value)
  | [], _ => none
  | p :: l, i => if x = p.1 then some (i, p.2) else look x l (i + 1)
def getK (x : κ) (l : List (κ × Value)) : Option Value := (look x l 0).map (·.2)
def setK (x : κ) (v : Value) : List (κ × Value) → List (κ × Value)
  | [] => [(x, v)]
  | p :: l => if x = p.1 then (x, v) :: l else p :: setK x v l
def delK (x : κ) : List (κ × Value) → List (κ × Value)
  | [] => []
  | p :: l => if x = p.1 then l else p :: delK x l

def pairs (es : List MapEntry) : List (Value × Value) := es.map fun e => (e.key, e.val)
def encs (l : List (κ × Value)) : List (Value × Value) := l.map fun p => (E.enc p.1, p.2)

theorem findNow_ok (x : κ) : ∀ (es : List MapEntry) (l : List (κ × Value)) (i : Nat), pairs es = encs E l → ∀ r, Instr.findNow E.desc (E.enc x) es i = some r → r = look x l i := by
  intro es
  induction es with
  | nil =>
    intro l i h r hr
    cases l with
    | nil => simp [Instr.findNow] at hr; simp [look, hr]
    | cons p l => simp [pairs, encs] at h
  | cons e es ih =>
    intro l i h r hr
    cases l with
    | nil => simp [pairs, encs] at h
    | cons p l =>
      simp only [pairs, encs, List.map_cons, List.cons.injEq, Prod.mk.injEq] at h
      obtain ⟨⟨hk, hv⟩, ht⟩ := h
      simp only [Instr.findNow, hk] at hr
      rcases E.now x p.1 with hn | hn
      · rw [hn] at hr; simp at hr
      · rw [hn] at hr
        by_cases hx : x = p.1
        · subst hx
          simp at hr
          simp [look, ← hr, hv]
        · simp only [hx, decide_false] at hr
          simp only [look, if_neg hx]
          exact ih l (i + 1) ht r hr
theorem findAsking_ok (x : κ) (w : World) : ∀ (es : List MapEntry) (l : List (κ × Value)) (i : Nat), pairs es = encs E l → (Instr.findAsking k (E.enc x) es i).run P w = .ok (look x l i) w := by
  intro es
  induction es with
  | nil =>
    intro l i h
    cases l with
    | nil => simp [Instr.findAsking, look]
    | cons p l => simp [pairs, encs] at h
  | cons e es ih =>
    intro l i h
    cases l with
    | nil => simp [pairs, encs] at h
    | cons p l =>
      simp only [pairs, encs, List.map_cons, List.cons.injEq, Prod.mk.injEq] at h
      obtain ⟨⟨hk, hv⟩, ht⟩ := h
      simp only [Instr.findAsking, Sem.run_bind, hk, E.eq, Result.andThen_ok]
      by_cases hx : x = p.1
      · subst hx; simp [look, hv]
      · simp only [hx, decide_false, look]
        simpa using ih l (i + 1) ht
theorem findKey_ok (x : κ) (w : World) (es : List MapEntry) (l : List (κ × Value)) (h : pairs es = encs E l) : (Instr.findKey k (E.enc x) es).run P w = .ok (look x l 0) w := by
  simp only [Instr.findKey, Sem.run_bind, run_underlying E.under, Result.andThen_ok]
  cases hf : Instr.findNow E.desc (E.enc x) es 0 with
  | none => exact findAsking_ok E x w es l 0 h
  | some r => rw [findNow_ok E x es l 0 h r hf]; simp

/-- block b is a map that holds just l -/
def MapIs (w : World) (b : Nat) (l : List (κ × Value)) : Prop := ∃ es clock, w.heap[b]? = some (.map es clock) ∧ pairs es.toList = encs E l ∧ MapKept.Stamped es clock

variable {E}
theorem MapIs.lt {w : World} {b : Nat} {l : List (κ × Value)} (h : MapIs E w b l) : b < w.heap.size := by
  obtain ⟨es, c, h, _⟩ := h
  exact (Array.getElem?_eq_some_iff.1 h).1
theorem MapIs.keep {w w' : World} {b : Nat} {l : List (κ × Value)} (h : MapIs E w b l) (hb : w'.heap[b]? = w.heap[b]?) : MapIs E w' b l := by
  obtain ⟨es, c, h, h2⟩ := h
  exact ⟨es, c, hb.trans h, h2⟩
theorem MapIs.alloc {w : World} {b : Nat} {l : List (κ × Value)} (h : MapIs E w b l) (o : Obj) : MapIs E (w.alloc o) b l := h.keep (Below.heap_alloc w o b h.lt)
theorem MapIs.setCell {w : World} {b : Nat} {l : List (κ × Value)} (h : MapIs E w b l) (p : Addr) (u : Value) (hp : b ≠ p.block) : MapIs E (w.setCell p u) b l := h.keep (Below.heap_setCell w p u b hp)
theorem MapIs.below {w w' : World} {b : Nat} {l : List (κ × Value)} (h : MapIs E w b l) (hb : Below w.heap.size w w') : MapIs E w' b l := h.keep (hb.block b h.lt)
theorem MapIs.upd {w w' : World} {b : Nat} {l : List (κ × Value)} {M : Nat → Prop} (h : MapIs E w b l) (hb : Upd M w w') (hn : ¬ M b) : MapIs E w' b l := h.keep (hb.block b h.lt hn)
theorem MapIs.new (w : World) : MapIs E (w.alloc (.map #[] 0)) w.heap.size [] := ⟨#[], 0, heap_alloc_new w _, rfl, MapKept.stamped_empty _⟩
theorem MapIs.new' (w : World) {g : Nat} (hg : g = w.heap.size) : MapIs E (w.alloc (.map #[] 0)) g [] := by subst hg; exact .new w
/-- a map and a row of cells are two -/
theorem MapIs.ne_blk {w : World} {b g : Nat} {l : List (κ × Value)} {t : TypeId} {cs : Array Value} (h : MapIs E w b l) (hb : Blk w g t cs) : b ≠ g := by
  rintro rfl
  obtain ⟨es, c, h, _⟩ := h
  unfold Blk at hb
  rw [h] at hb
  cases hb

theorem MapIs.size {w : World} {b : Nat} {l : List (κ × Value)} (h : MapIs E w b l) : ∃ es clock, w.heap[b]? = some (.map es clock) ∧ es.size = l.length := by
  obtain ⟨es, c, h, h2, _⟩ := h
  refine ⟨es, c, h, ?_⟩
  have := congrArg List.length h2
  simpa [pairs, encs] using this

/-- 'v, ok := m[k]' -/
theorem MapIs.lookup_ok {w : World} {b : Nat} {l : List (κ × Value)} {t e : TypeId} (h : MapIs E w b l) (ht : P.underlying t = some (.map k e)) {z : Value} (hz : ∀ w, (zeroValue e).run P w = .ok z w) (x : κ) :
    (Instr.lookup t (.map (some b)) (E.enc x) true).run P w = .ok (.tuple #[(getK x l).getD z, .bool (getK x l).isSome]) w := by
  obtain ⟨es, c, h, h2, _⟩ := h
  simp only [Instr.lookup, Sem.run_bind, run_underlying ht, Result.andThen_ok, MapKept.run_getObj_map h, Sem.run_pure, E.check, findKey_ok E x w es.toList l h2]
  cases hl : look x l 0 with
  | none => simp [getK, hl, hz]
  | some r => simp [getK, hl]
/-- 'm[k]' -/
theorem MapIs.lookup {w : World} {b : Nat} {l : List (κ × Value)} {t e : TypeId} (h : MapIs E w b l) (ht : P.underlying t = some (.map k e)) {z : Value} (hz : ∀ w, (zeroValue e).run P w = .ok z w) (x : κ) :
    (Instr.lookup t (.map (some b)) (E.enc x) false).run P w = .ok ((getK x l).getD z) w := by
  obtain ⟨es, c, h, h2, _⟩ := h
  simp only [Instr.lookup, Sem.run_bind, run_underlying ht, Result.andThen_ok, MapKept.run_getObj_map h, Sem.run_pure, E.check, findKey_ok E x w es.toList l h2]
  cases hl : look x l 0 with
  | none => simp [getK, hl, hz]
  | some r => simp [getK, hl]
theorem look_none {x : κ} {v : Value} : ∀ {l : List (κ × Value)} {i : Nat}, look x l i = none → setK x v l = l ++ [(x, v)] ∧ delK x l = l := by
  intro l
  induction l with
  | nil => intro i _; exact ⟨rfl, rfl⟩
  | cons p l ih =>
    intro i h
    by_cases hx : x = p.1
    · simp [look, hx] at h
    · simp only [look, if_neg hx] at h
      obtain ⟨h1, h2⟩ := ih h
      simp [setK, delK, hx, h1, h2]
theorem look_some {x : κ} {v : Value} : ∀ {l : List (κ × Value)} {i j : Nat} {v0 : Value}, look x l i = some (j, v0) → i ≤ j ∧ l[j - i]? = some (x, v0) ∧ setK x v l = l.modify (j - i) (fun _ => (x, v)) ∧ delK x l = l.eraseIdx (j - i) := by
  intro l
  induction l with
  | nil => intro i j v0 h; simp [look] at h
  | cons p l ih =>
    intro i j v0 h
    by_cases hx : x = p.1
    · simp only [look, if_pos hx, Option.some.injEq, Prod.mk.injEq] at h
      obtain ⟨rfl, rfl⟩ := h
      subst hx
      simp [setK, delK]
    · simp only [look, if_neg hx] at h
      obtain ⟨h0, h1, h2, h3⟩ := ih h
      have e : j - i = (j - (i + 1)) + 1 := by omega
      refine ⟨by omega, ?_, ?_, ?_⟩
      · rw [e]; simpa using h1
      · rw [e]; simp [setK, hx, h2]
      · rw [e]; simp [delK, hx, h3]

theorem map_eraseIdx {α β : Type} (f : α → β) : ∀ (l : List α) (j : Nat), (l.eraseIdx j).map f = (l.map f).eraseIdx j := by
  intro l
  induction l with
  | nil => intro j; rfl
  | cons a l ih =>
    intro j
    cases j with
    | zero => rfl
    | succ j => simp [ih]
theorem heap_set_ne (w : World) (b : Nat) (o : Obj) (i : Nat) (hi : i ≠ b) : ({ w with heap := w.heap.setIfInBounds b o } : World).heap[i]? = w.heap[i]? := by
  show (w.heap.setIfInBounds b o)[i]? = _
  rw [Array.getElem?_setIfInBounds_ne (Ne.symm hi)]
theorem heap_set_eq (w : World) (b : Nat) (o : Obj) (hb : b < w.heap.size) : ({ w with heap := w.heap.setIfInBounds b o } : World).heap[b]? = some o := by
  show (w.heap.setIfInBounds b o)[b]? = _
  rw [Array.getElem?_setIfInBounds_self_of_lt hb]
theorem grown_set (w : World) (b : Nat) (o : Obj) : w.grownBy { w with heap := w.heap.setIfInBounds b o } (some b) :=
  ⟨rfl, rfl, rfl, by simp, fun k _ hn => heap_set_ne w b o k (fun e => hn (by rw [e]))⟩

/-- 'm[k] = v' -/
theorem look_none_key {x : κ} : ∀ {l : List (κ × Value)} {i : Nat}, look x l i = none → ∀ p ∈ l, p.1 ≠ x := by
  intro l
  induction l with
  | nil => intro i _ p hp; cases hp
  | cons q l ih =>
    intro i h p hp
    unfold look at h
    by_cases e : x = q.1
    · rw [if_pos e] at h; cases h
    · rw [if_neg e] at h
      rcases List.mem_cons.1 hp with rfl | hp
      · exact fun h => e h.symm
      · exact ih h p hp
theorem KeyEnc.inj (E : KeyEnc P k κ) (w : World) {a b : κ} (h : E.enc a = E.enc b) : a = b := by
  have h1 := E.eq a b w
  have h2 := E.eq b b w
  rw [h, h2] at h1
  injection h1 with h1 _
  simpa using h1
theorem MapIs.update {w : World} {b : Nat} {l : List (κ × Value)} {t e : TypeId} (h : MapIs E w b l) (ht : P.underlying t = some (.map k e)) (x : κ) (v : Value) :
    ∃ w', (Instr.mapUpdate t (.map (some b)) (E.enc x) v).run P w = .ok () w' ∧ MapIs E w' b (setK x v l) ∧ w.grownBy w' (some b) ∧ w'.heap.size = w.heap.size := by
  have hlt := h.lt
  obtain ⟨es, c, h, h2, hst⟩ := h
  simp only [Instr.mapUpdate, Sem.run_bind, run_underlying ht, Result.andThen_ok, MapKept.run_getObj_map h, E.check, findKey_ok E x w es.toList l h2]
  cases hl : look x l 0 with
  | none =>
    refine ⟨_, MapKept.run_setObj_map _ h, ⟨_, _, heap_set_eq w b _ hlt, ?_, MapKept.stamped_push hst fun y hy e => ?_⟩, grown_set w b _, by simp⟩
    · rw [(look_none (v := v) hl).1]
      simp [pairs, encs] at h2 ⊢
      exact h2
    · have hy2 : (y.key, y.val) ∈ encs E l := by rw [← h2]; exact List.mem_map.2 ⟨y, hy, rfl⟩
      obtain ⟨p, hp, e2⟩ := List.mem_map.1 hy2
      have e3 : E.enc p.1 = y.key := by injection e2
      exact look_none_key hl p hp (E.inj w (e3.trans e))
  | some r =>
    obtain ⟨j, v0⟩ := r
    obtain ⟨_, h1, h3, _⟩ := look_some (v := v) hl
    simp only [Nat.sub_zero] at h1 h3
    have hk : (((es[j]?).map (·.key)).getD (E.enc x)) = E.enc x := by
      have := congrArg (fun q => (q[j]?).map (·.1)) h2
      simp [pairs, encs, h1] at this
      cases hj : es[j]? with
      | none => simp
      | some y => simp [hj] at this; simp [this]
    simp only [hk, Instr.keyThatStays, E.bits, if_true, Sem.run_pure, Sem.run_bind, Result.andThen_ok]
    refine ⟨_, MapKept.run_setObj_map _ h, ⟨_, _, heap_set_eq w b _ hlt, ?_, MapKept.stamped_modify hst _ _ (fun _ _ => rfl) fun y hy hj => ?_⟩, grown_set w b _, by simp⟩
    rotate_left
    · have := congrArg (fun q => (q[j]?).map (·.1)) h2
      simp [pairs, encs, h1, hj] at this
      exact this.symm
    rw [h3]
    simp only [pairs, encs, Array.toList_modify] at h2 ⊢
    apply List.ext_getElem?
    intro i
    have h2i := congrArg (fun q => q[i]?) h2
    simp only [List.getElem?_map, List.getElem?_modify] at h2i ⊢
    by_cases hi : j = i
    · subst hi
      simp only [if_true] at *
      cases hj : es.toList[j]? <;> cases hj2 : l[j]? <;> simp_all
    · simp only [if_neg hi] at *
      simpa using h2i
/-- 'len(m)' -/
theorem MapIs.len {w : World} {b : Nat} {l : List (κ × Value)} {t e : TypeId} (h : MapIs E w b l) (ht : P.underlying t = some (.map k e)) (ty : TypeId) :
    (Builtin.len_ #[t] ty #[.map (some b)]).run P w = .ok (.int .i64 l.length) w := by
  obtain ⟨es, c, h, hs⟩ := h.size
  simp [Builtin.len_, run_underlying ht, MapKept.run_getObj_map h, goInt, hs]
end

end Go.Proofs.YtphglnenafdkaaaGreatDoor

namespace Go.Proofs.YtphglnenafdkaaaGreatDoor
open Go.RowKit
set_option linter.unusedVariables false
set_option linter.unusedSimpArgs false

section
variable {P : Program} {k : TypeId} {κ : Type} [DecidableEq κ] {E : KeyEnc P k κ}
theorem look_shift (x : κ) : ∀ (l : List (κ × Value)) (i : Nat), (look x l i).map (·.2) = (look x l 0).map (·.2) := by
  intro l
  induction l with
  | nil => intro i; rfl
  | cons p l ih =>
    intro i
    unfold look
    split
    · rfl
    · rw [ih (i + 1), ih (0 + 1)]
theorem getK_cons (x : κ) (p : κ × Value) (l : List (κ × Value)) : getK x (p :: l) = if x = p.1 then some p.2 else getK x l := by
  unfold getK
  rw [look]
  split
  · rfl
  · rw [look_shift]
theorem getK_set {x y : κ} {v : Value} : ∀ {l : List (κ × Value)}, getK y (setK x v l) = if y = x then some v else getK y l := by
  intro l
  induction l with
  | nil => unfold setK; rw [getK_cons]
  | cons p l ih =>
    unfold setK
    split
    · rename_i h
      rw [getK_cons, getK_cons]
      simp only
      split
      · rfl
      · rename_i h2; rw [if_neg (fun e => h2 (e.trans h.symm))]
    · rename_i h
      rw [getK_cons, getK_cons, ih]
      by_cases h1 : y = p.1
      · rw [if_pos h1, if_neg (fun e => h (e.symm.trans h1)), if_pos h1]
      · rw [if_neg h1, if_neg h1]
theorem getK_none {x : κ} : ∀ {l : List (κ × Value)}, getK x l = none ↔ ∀ p ∈ l, p.1 ≠ x := by
  intro l
  induction l with
  | nil => simp [getK, look]
  | cons p l ih =>
    rw [getK_cons]
    by_cases h : x = p.1
    · simp [h]
    · rw [if_neg h, ih]
      simp
      exact fun _ e => h e.symm
theorem getK_del {x y : κ} : ∀ {l : List (κ × Value)}, (l.map (·.1)).Nodup → getK y (delK x l) = if y = x then none else getK y l := by
  intro l
  induction l with
  | nil => intro _; unfold delK; simp [getK, look]
  | cons p l ih =>
    intro hn
    have hn' := List.nodup_cons.1 hn
    unfold delK
    split
    · rename_i h
      rw [getK_cons]
      by_cases h1 : y = x
      · rw [if_pos h1, getK_none]
        intro q hq e
        exact hn'.1 (List.mem_map.2 ⟨q, hq, by rw [e, h1, h]⟩)
      · rw [if_neg h1, if_neg (fun e => h1 (e.trans h.symm))]
    · rename_i h
      rw [getK_cons, getK_cons, ih hn'.2]
      by_cases h1 : y = p.1
      · rw [if_pos h1, if_neg (fun e => h (e.symm.trans h1)), if_pos h1]
      · rw [if_neg h1, if_neg h1]
theorem getK_mem {x : κ} {v : Value} : ∀ {l : List (κ × Value)}, (l.map (·.1)).Nodup → (getK x l = some v ↔ (x, v) ∈ l) := by
  intro l
  induction l with
  | nil => simp [getK, look]
  | cons p l ih =>
    intro hn
    have hn' := List.nodup_cons.1 hn
    rw [getK_cons]
    by_cases h : x = p.1
    · rw [if_pos h]
      constructor
      · intro e; injection e with e; subst e; rw [h]; exact List.mem_cons_self ..
      · intro e
        rcases List.mem_cons.1 e with e | e
        · rw [← e]
        · exact absurd (List.mem_map.2 ⟨_, e, h⟩) hn'.1
    · rw [if_neg h, ih hn'.2]
      constructor
      · exact List.mem_cons_of_mem _
      · intro e
        rcases List.mem_cons.1 e with e | e
        · exact absurd (congrArg (·.1) e) h
        · exact e
theorem MapIs.nodup {w : World} {b : Nat} {l : List (κ × Value)} (h : MapIs E w b l) : (l.map (·.1)).Nodup := by
  obtain ⟨es, c, _, h2, h3⟩ := h
  have h4 : ((pairs es.toList).map (·.1)).Nodup := by
    have e : (pairs es.toList).map (·.1) = es.toList.map (·.key) := by unfold pairs; rw [List.map_map]; rfl
    rw [e]; exact h3.2.2
  rw [h2] at h4
  have e : (encs E l).map (·.1) = (l.map (·.1)).map E.enc := by unfold encs; rw [List.map_map, List.map_map]; rfl
  rw [e] at h4
  rw [List.nodup_iff_pairwise_ne] at h4 ⊢
  exact (List.pairwise_map.1 h4).imp fun h e => h (by rw [e])
/-- 'delete(m, k)' -/
theorem MapIs.delete' {w : World} {b : Nat} {l : List (κ × Value)} {t e kt : TypeId} (h : MapIs E w b l) (ht : P.underlying t = some (.map k e)) (ty : TypeId) (x : κ) :
    ∃ w', (Builtin.delete_ #[t, kt] ty #[.map (some b), E.enc x]).run P w = .ok (.tuple #[]) w' ∧ MapIs E w' b (delK x l) ∧ w.grownBy w' (some b) ∧ w'.heap.size = w.heap.size := by
  have hlt := h.lt
  obtain ⟨es, c, h, h2, hst⟩ := h
  simp only [Builtin.delete_, Sem.run_bind, run_underlying ht, Result.andThen_ok, MapKept.run_getObj_map h, E.check, findKey_ok E x w es.toList l h2, List.getElem?_toArray, List.getElem?_cons_zero, List.getElem?_cons_succ]
  cases hl : look x l 0 with
  | none =>
    refine ⟨_, by simp only [Sem.run_bind, MapKept.run_setObj_map _ h, Result.andThen_ok, Sem.run_pure], ⟨_, _, heap_set_eq w b _ hlt, ?_, hst⟩, grown_set w b _, by simp⟩
    rw [(look_none (v := .nilIface) hl).2]
    exact h2
  | some r =>
    obtain ⟨j, v0⟩ := r
    obtain ⟨_, h1, _, h3⟩ := look_some (v := .nilIface) hl
    simp only [Nat.sub_zero] at h1 h3
    refine ⟨_, by simp only [Sem.run_bind, MapKept.run_setObj_map _ h, Result.andThen_ok, Sem.run_pure]; rfl, ⟨_, _, heap_set_eq w b _ hlt, ?_, MapKept.stamped_erase hst _⟩, grown_set w b _, by simp⟩
    rw [h3]
    have hj : j < es.size := by
      have h4 := (List.getElem?_eq_some_iff.1 h1).1
      have h5 := congrArg List.length h2
      simp [pairs, encs] at h5
      omega
    simp only [pairs, encs] at h2 ⊢
    unfold Array.eraseIdxIfInBounds
    rw [dif_pos hj, Array.toList_eraseIdx, ← map_eraseIdx', h2, map_eraseIdx']
where
  map_eraseIdx' {α β : Type} (f : α → β) : ∀ (l : List α) (j : Nat), (l.map f).eraseIdx j = (l.eraseIdx j).map f := by
    intro l
    induction l with
    | nil => intro j; rfl
    | cons a l ih =>
      intro j
      cases j with
      | zero => rfl
      | succ j => simp [ih]

/-- block b is a map that has at each key what D says -/
def MapF (E : KeyEnc P k κ) (w : World) (b : Nat) (D : κ → Option Value) : Prop := ∃ l, MapIs E w b l ∧ ∀ x, getK x l = D x
variable {w w' : World} {b : Nat} {D D' : κ → Option Value} {t e kt : TypeId}
theorem MapF.lt (h : MapF E w b D) : b < w.heap.size := by obtain ⟨l, h, _⟩ := h; exact h.lt
theorem MapF.keep (h : MapF E w b D) (hb : w'.heap[b]? = w.heap[b]?) : MapF E w' b D := by obtain ⟨l, h, h2⟩ := h; exact ⟨l, h.keep hb, h2⟩
theorem MapF.congr (h : MapF E w b D) (hd : ∀ x, D x = D' x) : MapF E w b D' := by obtain ⟨l, h, h2⟩ := h; exact ⟨l, h, fun x => (h2 x).trans (hd x)⟩
theorem MapF.upd {M : Nat → Prop} (h : MapF E w b D) (hb : Upd M w w') (hn : ¬ M b) : MapF E w' b D := h.keep (hb.block b h.lt hn)
theorem MapF.below (h : MapF E w b D) (hb : Below w.heap.size w w') : MapF E w' b D := h.keep (hb.block b h.lt)
theorem MapF.new (w : World) : MapF E (w.alloc (.map #[] 0)) w.heap.size fun _ => none := ⟨[], .new w, fun _ => rfl⟩
theorem MapF.ne_blk {g : Nat} {t : TypeId} {cs : Array Value} (h : MapF E w b D) (hb : Blk w g t cs) : b ≠ g := by obtain ⟨l, h, _⟩ := h; exact h.ne_blk hb
theorem MapF.lookup (h : MapF E w b D) (ht : P.underlying t = some (.map k e)) {z : Value} (hz : ∀ w, (zeroValue e).run P w = .ok z w) (x : κ) :
    (Instr.lookup t (.map (some b)) (E.enc x) false).run P w = .ok ((D x).getD z) w := by
  obtain ⟨l, h, h2⟩ := h
  rw [h.lookup ht hz x, h2]
theorem MapF.update (h : MapF E w b D) (ht : P.underlying t = some (.map k e)) (x : κ) (v : Value) :
    ∃ w', (Instr.mapUpdate t (.map (some b)) (E.enc x) v).run P w = .ok () w' ∧ MapF E w' b (fun y => if y = x then some v else D y) ∧ w.grownBy w' (some b) ∧ w'.heap.size = w.heap.size := by
  obtain ⟨l, h, h2⟩ := h
  obtain ⟨w', h3, h4, h5, h6⟩ := h.update ht x v
  exact ⟨w', h3, ⟨_, h4, fun y => by rw [getK_set, h2]⟩, h5, h6⟩
theorem MapF.delete (h : MapF E w b D) (ht : P.underlying t = some (.map k e)) (ty : TypeId) (x : κ) :
    ∃ w', (Builtin.delete_ #[t, kt] ty #[.map (some b), E.enc x]).run P w = .ok (.tuple #[]) w' ∧ MapF E w' b (fun y => if y = x then none else D y) ∧ w.grownBy w' (some b) ∧ w'.heap.size = w.heap.size := by
  obtain ⟨l, h, h2⟩ := h
  obtain ⟨w', h3, h4, h5, h6⟩ := h.delete' (kt := kt) ht ty x
  exact ⟨w', h3, ⟨_, h4, fun y => by rw [getK_del h.nodup, h2]⟩, h5, h6⟩
theorem MapF.len (h : MapF E w b D) (ht : P.underlying t = some (.map k e)) (ty : TypeId) (ks : List κ) (hn : ks.Nodup) (hk : ∀ x, x ∈ ks ↔ (D x).isSome = true) :
    (Builtin.len_ #[t] ty #[.map (some b)]).run P w = .ok (.int .i64 ks.length) w := by
  obtain ⟨l, h, h2⟩ := h
  rw [h.len ht ty]
  have hp : (l.map (·.1)).Perm ks := (List.perm_ext_iff_of_nodup h.nodup hn).2 fun x => by
    rw [hk, ← h2]
    constructor
    · intro hx
      obtain ⟨p, hp, rfl⟩ := List.mem_map.1 hx
      rw [(getK_mem h.nodup).2 (show (p.1, p.2) ∈ l from hp)]; rfl
    · intro hx
      obtain ⟨v, hv⟩ := Option.isSome_iff_exists.1 hx
      exact List.mem_map.2 ⟨_, (getK_mem h.nodup).1 hv, rfl⟩
  have := hp.length_eq
  rw [List.length_map] at this
  rw [this]

/-! a range over a map -/
/-- what has come -/
def doneOf (es : Array MapEntry) (seen : Array Nat) : List (Value × Value) := pairs (es.toList.filter fun e => seen.contains e.born)
theorem done_none (es : Array MapEntry) : doneOf es #[] = [] := by unfold doneOf; simp [pairs]
theorem done_all {es : Array MapEntry} {seen : Array Nat} (h : (leftOf es seen).size = 0) : doneOf es seen = pairs es.toList := by
  unfold doneOf
  rw [List.filter_eq_self.2 (all_seen es seen h)]
theorem done_push_list {p : Nat → Bool} {e : MapEntry} : ∀ {l : List MapEntry}, (l.map (·.born)).Nodup → e ∈ l → p e.born = false → (l.filter fun x => p x.born || x.born == e.born).Perm (e :: l.filter fun x => p x.born) := by
  intro l
  induction l with
  | nil => intro _ h; cases h
  | cons a l ih =>
    intro hn he hp
    have hn' := List.nodup_cons.1 hn
    by_cases hb : a.born = e.born
    · have hae : a = e := by
        rcases List.mem_cons.1 he with h | h
        · exact h.symm
        · exact absurd (List.mem_map.2 ⟨e, h, hb.symm⟩) hn'.1
      subst hae
      have e1 : (l.filter fun x => p x.born || x.born == a.born) = l.filter fun x => p x.born := by
        apply List.filter_congr
        intro x hx
        have : x.born ≠ a.born := fun h => hn'.1 (List.mem_map.2 ⟨x, hx, h⟩)
        simp [this]
      rw [List.filter_cons_of_pos (by simp), List.filter_cons_of_neg (by simp [hp]), e1]
    · have he' : e ∈ l := by
        rcases List.mem_cons.1 he with h | h
        · exact absurd (by rw [h]) hb
        · exact h
      have := ih hn'.2 he' hp
      by_cases hpa : p a.born = true
      · rw [List.filter_cons_of_pos (by simp [hpa]), List.filter_cons_of_pos (p := fun x : MapEntry => p x.born) hpa]
        exact (this.cons a).trans (List.Perm.swap ..)
      · rw [List.filter_cons_of_neg (by simp [hpa, hb]), List.filter_cons_of_neg (p := fun x : MapEntry => p x.born) hpa]
        exact this
theorem done_push {es : Array MapEntry} {seen : Array Nat} {e : MapEntry} (hst : (es.toList.map (·.born)).Nodup) (he : e ∈ es.toList) (hn : seen.contains e.born = false) : (doneOf es (seen.push e.born)).Perm ((e.key, e.val) :: doneOf es seen) := by
  unfold doneOf
  have h := done_push_list (p := fun b => seen.contains b) hst he hn
  have e1 : (es.toList.filter fun x => (seen.push e.born).contains x.born) = es.toList.filter fun x => seen.contains x.born || x.born == e.born := List.filter_congr fun x _ => contains_push _ _ _
  rw [e1]
  exact (h.map fun e => (e.key, e.val))
theorem seen_of {w : World} {r : Nat} {m : Option Nat} {n : Nat} {seen : Array Nat} {c : Nat} (h : w.heap[r]? = some (.mapIter m n seen c)) : w.iterSeen r = seen := by
  unfold World.iterSeen; rw [h]
theorem upd_grown {M : Nat → Prop} {w w' : World} {row : Option Nat} (hg : w.grownBy w' row) (hr : ∀ k, row = some k → M k) : Upd M w w' := (Upd.refl M w).grown hg fun k hk _ => hr k hk
/-- one step of a range over a map: nothing is left, or one entry that had not come -/
theorem range_step {wr : World} {r bm clock c0 : Nat} {seen : Array Nat} {es : Array MapEntry} (hr : wr.heap[r]? = some (.mapIter (some bm) clock seen c0)) (hesr : wr.heap[bm]? = some (.map es clock)) (hst : MapKept.Stamped es clock) (hc0 : clock ≤ c0) :
    ((leftOf es seen).size = 0 ∧ ∀ ty, (Instr.next (.pointer (some ⟨r, 0, none⟩)) false ty).run P wr = .ok (.tuple #[.bool false]) wr) ∨
    ∃ e wn, e ∈ es.toList ∧ seen.contains e.born = false ∧ (leftOf es (seen.push e.born)).size < (leftOf es seen).size ∧ Upd (fun j => j = r) wr wn ∧ wn.heap.size = wr.heap.size ∧ wn.heap[r]? = some (.mapIter (some bm) clock (seen.push e.born) clock) ∧ wn.heap[bm]? = some (.map es clock) ∧
      (∀ ty, (Instr.next (.pointer (some ⟨r, 0, none⟩)) false ty).run P wr = .ok (.tuple #[.bool true, e.key, e.val]) wn) ∧ (Instr.entry (.pointer (some ⟨r, 0, none⟩))).run P wn = .ok (.tuple #[e.key, e.val]) wn := by
  have law := fun ty => run_next_at (P := P) wr ty r bm clock c0 seen es clock hr hesr hst.1 hc0
  rcases law 0 with ⟨h0, hrun⟩ | ⟨e, he, w1, hw1, hrun⟩
  · exact .inl ⟨h0, fun _ => hrun⟩
  · right
    have hrl : r < wr.heap.size := (Array.getElem?_eq_some_iff.1 hr).1
    have hw1h : w1.heap = wr.heap := by rcases hw1 with rfl | rfl <;> rfl
    have hne : bm ≠ r := by rintro rfl; rw [hr] at hesr; cases hesr
    have hun : Upd (fun j => j = r) wr (Go.ChangeMaps.setBlock w1 r (.mapIter (some bm) clock (seen.push e.born) clock)) := by
      have hb : Upd (fun j => j = r) wr w1 := by
        rcases hw1 with rfl | rfl
        · exact Upd.refl _ _
        · exact (Upd.refl _ _).drew
      exact hb.grown (grown_set w1 r _) fun k hk _ => by injection hk with hk; exact hk.symm
    have hrn : (Go.ChangeMaps.setBlock w1 r (.mapIter (some bm) clock (seen.push e.born) clock)).heap[r]? = some (.mapIter (some bm) clock (seen.push e.born) clock) := heap_set_eq w1 _ _ (by rw [hw1h]; exact hrl)
    have hbn := (hun.block _ (Array.getElem?_eq_some_iff.1 hesr).1 hne).trans hesr
    refine ⟨e, _, (mem_left he).1, (mem_left he).2, left_shrinks es seen e he, hun, ?_, hrn, hbn, fun _ => hrun, run_entry_at (P := P) _ r bm clock seen es clock e hrn hbn (mem_left he).1 hst.2.1⟩
    show (w1.heap.setIfInBounds _ _).size = _
    rw [hw1h]; simp
/-- what has come of a map that holds l -/
theorem done_list {w : World} {b : Nat} {l : List (κ × Value)} {es : Array MapEntry} {clock : Nat} (hpr : pairs es.toList = encs E l) {e : MapEntry} (he : e ∈ es.toList) : ∃ p ∈ l, e.key = E.enc p.1 ∧ e.val = p.2 := by
  have hy : (e.key, e.val) ∈ encs E l := by rw [← hpr]; exact List.mem_map.2 ⟨e, he, rfl⟩
  obtain ⟨p, hp, e2⟩ := List.mem_map.1 hy
  injection e2 with e3 e4
  exact ⟨p, hp, e3.symm, e4.symm⟩
theorem encs_inj {l m : List (κ × Value)} : ∀ (w : World), (encs E l).Perm (encs E m) → l.Perm m := by
  intro w h
  unfold encs at h
  have hinj : Function.Injective (fun p : κ × Value => (E.enc p.1, p.2)) := fun p q e => by
    obtain ⟨p1, p2⟩ := p; obtain ⟨q1, q2⟩ := q
    injection e with e1 e2
    simp only at e1 e2
    rw [E.inj w e1, e2]
  exact perm_of_map hinj h
where
  perm_of_map {α β : Type} {f : α → β} (hf : Function.Injective f) : ∀ {l m : List α}, (l.map f).Perm (m.map f) → l.Perm m := by
    intro l
    induction l with
    | nil => intro m h; have := h.length_eq; simp at this; rw [List.eq_nil_of_length_eq_zero this.symm]
    | cons a l ih =>
      intro m h
      have ha : f a ∈ m.map f := h.subset (List.mem_cons_self ..)
      obtain ⟨a', ha', e⟩ := List.mem_map.1 ha
      obtain rfl := hf e
      obtain ⟨m1, m2, rfl⟩ := List.append_of_mem ha'
      have h2 : (l.map f).Perm ((m1 ++ m2).map f) := by
        have h3 : ((m1 ++ a' :: m2).map f).Perm (f a' :: (m1 ++ m2).map f) := by
          simp only [List.map_append, List.map_cons]
          exact List.perm_middle
        exact (h.trans h3).cons_inv
      exact ((ih h2).cons a').trans List.perm_middle.symm
end
end Go.Proofs.YtphglnenafdkaaaGreatDoor

namespace Go.Proofs.YtphglnenafdkaaaGreatDoor
open Go
set_option linter.unusedVariables false
set_option linter.unusedSimpArgs false

/-- a three-way order -/
structure Ord3 {α : Type} (f : α → α → Int) : Prop where
  rng : ∀ a b, f a b = -1 ∨ f a b = 0 ∨ f a b = 1
  zero : ∀ a b, f a b = 0 ↔ a = b
  anti : ∀ a b, f b a = - f a b
  trans : ∀ a b c, f a b = -1 → f b c = -1 → f a c = -1
def cmpI (a b : Int) : Int := if a < b then -1 else if b < a then 1 else 0
theorem ord_int : Ord3 cmpI where
  rng a b := by unfold cmpI; by_cases h1 : a < b <;> by_cases h2 : b < a <;> simp [h1, h2]
  zero a b := by unfold cmpI; by_cases h1 : a < b <;> by_cases h2 : b < a <;> simp [h1, h2] <;> omega
  anti a b := by unfold cmpI; by_cases h1 : a < b <;> by_cases h2 : b < a <;> simp [h1, h2] <;> omega
  trans a b c h1 h2 := by
    unfold cmpI at *
    by_cases p1 : a < b
    · by_cases p2 : b < c
      · rw [if_pos (by omega)]
      · rw [if_neg p2] at h2; split at h2 <;> omega
    · rw [if_neg p1] at h1; split at h1 <;> omega
theorem ord_bytes : Ord3 Lib.compareBytes where
  rng a := by
    induction a with
    | nil => intro b; cases b <;> simp [Lib.compareBytes]
    | cons x l ih =>
      intro b
      cases b with
      | nil => simp [Lib.compareBytes]
      | cons y m => unfold Lib.compareBytes; by_cases h1 : x < y <;> by_cases h2 : y < x <;> simp only [h1, h2, if_true, if_false] <;> (first | exact ih m | simp)
  zero a := by
    induction a with
    | nil => intro b; cases b <;> simp [Lib.compareBytes]
    | cons x l ih =>
      intro b
      cases b with
      | nil => simp [Lib.compareBytes]
      | cons y m =>
        unfold Lib.compareBytes
        by_cases h1 : x < y
        · rw [if_pos h1]; simp; rintro rfl; exact absurd h1 (UInt8.lt_irrefl _)
        · by_cases h2 : y < x
          · rw [if_neg h1, if_pos h2]; simp; rintro rfl; exact absurd h2 (UInt8.lt_irrefl _)
          · have : x = y := UInt8.le_antisymm (UInt8.not_lt.1 h2) (UInt8.not_lt.1 h1)
            rw [if_neg h1, if_neg h2, ih m, this]; simp
  anti a := by
    induction a with
    | nil => intro b; cases b <;> simp [Lib.compareBytes]
    | cons x l ih =>
      intro b
      cases b with
      | nil => simp [Lib.compareBytes]
      | cons y m =>
        unfold Lib.compareBytes
        by_cases h1 : x < y
        · simp [h1, UInt8.lt_asymm h1]
        · by_cases h2 : y < x
          · simp [h1, h2]
          · rw [if_neg h1, if_neg h2, if_neg h2, if_neg h1]; exact ih m
  trans a := by
    induction a with
    | nil => intro b c; cases b <;> cases c <;> simp [Lib.compareBytes]
    | cons x l ih =>
      intro b c
      cases b with
      | nil => simp [Lib.compareBytes]
      | cons y m =>
        cases c with
        | nil => simp [Lib.compareBytes]
        | cons z n =>
          unfold Lib.compareBytes
          intro h1 h2
          by_cases a1 : x < y
          · by_cases a2 : y < z
            · rw [if_pos (UInt8.lt_trans a1 a2)]
            · rw [if_neg a2] at h2
              by_cases a3 : z < y
              · rw [if_pos a3] at h2; cases h2
              · have : y = z := UInt8.le_antisymm (UInt8.not_lt.1 a3) (UInt8.not_lt.1 a2)
                rw [← this, if_pos a1]
          · rw [if_neg a1] at h1
            by_cases a4 : y < x
            · rw [if_pos a4] at h1; cases h1
            · have e : x = y := UInt8.le_antisymm (UInt8.not_lt.1 a4) (UInt8.not_lt.1 a1)
              rw [if_neg a4] at h1
              subst e
              by_cases a2 : x < z
              · rw [if_pos a2]
              · rw [if_neg a2] at h2 ⊢
                by_cases a3 : z < x
                · rw [if_pos a3] at h2; cases h2
                · rw [if_neg a3] at h2 ⊢
                  exact ih m n h1 h2
/-- the order of values -/
def Vl.cmp (a b : Vl) : Int := if cmpI a.k b.k ≠ 0 then cmpI a.k b.k else if cmpI a.n b.n ≠ 0 then cmpI a.n b.n else Lib.compareBytes a.s.data.toList b.s.data.toList
theorem s_inj (a b : ByteArray) (h : a.data.toList = b.data.toList) : a = b := by
  obtain ⟨⟨a⟩⟩ := a; obtain ⟨⟨b⟩⟩ := b; simp at h; rw [h]
theorem ord_vl : Ord3 Vl.cmp where
  rng a b := by
    unfold Vl.cmp
    split
    · exact ord_int.rng _ _
    · split
      · exact ord_int.rng _ _
      · exact ord_bytes.rng _ _
  zero a b := by
    unfold Vl.cmp
    by_cases h1 : cmpI a.k b.k = 0
    · by_cases h2 : cmpI a.n b.n = 0
      · rw [if_neg (by simp [h1]), if_neg (by simp [h2]), ord_bytes.zero]
        have e1 := (ord_int.zero _ _).1 h1
        have e2 := (ord_int.zero _ _).1 h2
        obtain ⟨k, n, s⟩ := a; obtain ⟨k', n', s'⟩ := b
        simp only at e1 e2
        subst e1 e2
        simp
        exact ⟨fun h => s_inj _ _ (by rw [h]), fun h => by rw [h]⟩
      · rw [if_neg (by simp [h1]), if_pos h2]
        exact ⟨fun h => absurd h h2, by rintro rfl; exact absurd ((ord_int.zero _ _).2 rfl) h2⟩
    · rw [if_pos h1]
      exact ⟨fun h => absurd h h1, by rintro rfl; exact absurd ((ord_int.zero _ _).2 rfl) h1⟩
  anti a b := by
    unfold Vl.cmp
    have e1 := ord_int.anti a.k b.k
    have e2 := ord_int.anti a.n b.n
    have e3 := ord_bytes.anti a.s.data.toList b.s.data.toList
    rw [e1, e2, e3]
    split <;> split <;> (first | rfl | omega | (split <;> split <;> (first | rfl | omega)))
  trans a b c h1 h2 := by
    have k1 := ord_int.rng a.k b.k; have k2 := ord_int.rng b.k c.k
    have n1 := ord_int.rng a.n b.n; have n2 := ord_int.rng b.n c.n
    have kt := ord_int.trans a.k b.k c.k; have nt := ord_int.trans a.n b.n c.n
    have st := ord_bytes.trans a.s.data.toList b.s.data.toList c.s.data.toList
    have kz1 := (ord_int.zero a.k b.k).1; have kz2 := (ord_int.zero b.k c.k).1
    have nz1 := (ord_int.zero a.n b.n).1; have nz2 := (ord_int.zero b.n c.n).1
    unfold Vl.cmp at *
    by_cases p1 : cmpI a.k b.k = 0
    · rw [kz1 p1]
      by_cases p2 : cmpI b.k c.k = 0
      · rw [if_neg (by simp [p1])] at h1
        rw [if_neg (by simp [p2])] at h2 ⊢
        by_cases q1 : cmpI a.n b.n = 0
        · rw [nz1 q1]
          by_cases q2 : cmpI b.n c.n = 0
          · rw [if_neg (by simp [q1])] at h1
            rw [if_neg (by simp [q2])] at h2 ⊢
            exact st h1 h2
          · rw [if_pos q2] at h2 ⊢; exact h2
        · rw [if_pos q1] at h1
          by_cases q2 : cmpI b.n c.n = 0
          · rw [← nz2 q2]; rw [if_pos q1]; exact h1
          · rw [if_pos q2] at h2
            have := nt h1 h2
            rw [if_pos (by omega)]; exact this
      · rw [if_pos p2] at h2 ⊢; exact h2
    · rw [if_pos p1] at h1
      by_cases p2 : cmpI b.k c.k = 0
      · rw [← kz2 p2]; rw [if_pos p1]; exact h1
      · rw [if_pos p2] at h2
        have := kt h1 h2
        rw [if_pos (by omega)]; exact this
end Go.Proofs.YtphglnenafdkaaaGreatDoor

namespace Go.Proofs.YtphglnenafdkaaaGreatDoor
open Go
set_option linter.unusedVariables false
set_option linter.unusedSimpArgs false

/-! the order of keys -/
theorem less_cmp : ∀ a b : List UInt8, Op.bytesLess a b = decide (Lib.compareBytes a b = -1) := by
  intro a
  induction a with
  | nil => intro b; cases b <;> simp [Op.bytesLess, Lib.compareBytes]
  | cons x l ih =>
    intro b
    cases b with
    | nil => simp [Op.bytesLess, Lib.compareBytes]
    | cons y m =>
      unfold Op.bytesLess Lib.compareBytes
      by_cases h1 : x < y
      · simp [h1]
      · by_cases h2 : y < x
        · have : x ≠ y := by rintro rfl; exact UInt8.lt_irrefl _ h2
          simp [h1, h2, this]
        · have : x = y := UInt8.le_antisymm (UInt8.not_lt.1 h2) (UInt8.not_lt.1 h1)
          subst this
          simp only [h1, decide_false, Bool.false_or, if_false, BEq.rfl, Bool.true_and, ih]
def ltB (a b : ByteArray) : Bool := Op.bytesLess a.toList b.toList
theorem ltB_iff (a b : ByteArray) : ltB a b = true ↔ Lib.compareBytes a.toList b.toList = -1 := by unfold ltB; rw [less_cmp]; simp
theorem ltB_irrefl (a : ByteArray) : ltB a a = false := by
  cases h : ltB a a with
  | false => rfl
  | true => rw [ltB_iff, (ord_bytes.zero _ _).2 rfl] at h; cases h
theorem ltB_trans {a b c : ByteArray} (h1 : ltB a b = true) (h2 : ltB b c = true) : ltB a c = true := by
  rw [ltB_iff] at *; exact ord_bytes.trans _ _ _ h1 h2
theorem ltB_tri {a b : ByteArray} (h1 : ltB a b = false) (h2 : ltB b a = false) : a = b := by
  have h1' : ¬ ltB a b = true := by rw [h1]; simp
  have h2' : ¬ ltB b a = true := by rw [h2]; simp
  rw [ltB_iff] at h1' h2'
  rw [ord_bytes.anti] at h2'
  apply ba_inj
  rw [← ord_bytes.zero]
  rcases ord_bytes.rng a.toList b.toList with h | h | h
  · exact absurd h h1'
  · exact h
  · exact absurd (by rw [h]) h2'
theorem ltB_asymm {a b : ByteArray} (h1 : ltB a b = true) : ltB b a = false := by
  cases h : ltB b a with
  | false => rfl
  | true => have := ltB_trans h1 h; rw [ltB_irrefl] at this; cases this
theorem ltB_ne {a b : ByteArray} (h1 : ltB a b = true) : a ≠ b := by rintro rfl; rw [ltB_irrefl] at h1; cases h1
/-! keys -/
def keyB (c : UInt8) : Bool := (decide (97 ≤ c.toNat) && decide (c.toNat ≤ 122)) || (decide (48 ≤ c.toNat) && decide (c.toNat ≤ 57)) || decide (c.toNat = 47) || decide (c.toNat = 58) || decide (c.toNat = 46) || decide (c.toNat = 95) || decide (c.toNat = 45)
def validK (k : ByteArray) : Bool := k.toList.all keyB && decide (1 ≤ k.size) && decide (k.size ≤ 32)
def hashL : Nat → List UInt8 → Nat
  | h, [] => h
  | h, c :: r => hashL ((h ^^^ c.toNat) * 1099511628211 % 18446744073709551616) r
def hash0 (k : ByteArray) : Nat := hashL 14695981039346656037 k.toList
def partK (n : Nat) (k : ByteArray) : Nat := hash0 k % n
theorem partK_lt {n : Nat} (k : ByteArray) (h : 0 < n) : partK n k < n := Nat.mod_lt _ h
/-! lists of keys with values -/
abbrev Kv := ByteArray × Vl
def Asc (L : List Kv) : Prop := L.Pairwise fun x y => ltB x.1 y.1 = true
def hasK (k : ByteArray) (L : List Kv) : Bool := L.any fun x => decide (x.1 = k)
def valK (k : ByteArray) : List Kv → Vl
  | [] => vl0
  | x :: l => if x.1 = k then x.2 else valK k l
def insK (k : ByteArray) : List Kv → List Kv
  | [] => [(k, vl0)]
  | x :: l => if ltB x.1 k then x :: insK k l else if x.1 = k then x :: l else (k, vl0) :: x :: l
def upK (k : ByteArray) (v : Vl) (L : List Kv) : List Kv := L.map fun x => if x.1 = k then (k, v) else x
def dumpL (L : List Kv) : List Kv := L.filter fun x => !decide (x.2.k = 0)
def cntP (n p : Nat) (L : List Kv) : Nat := L.countP fun x => decide (partK n x.1 = p)
section
variable {L : List Kv} {k j : ByteArray} {v : Vl} {n p : Nat}
theorem hasK_cons (x : Kv) (L : List Kv) (k : ByteArray) : hasK k (x :: L) = (decide (x.1 = k) || hasK k L) := rfl
theorem hasK_mem : hasK k L = true ↔ ∃ x ∈ L, x.1 = k := by simp [hasK]
theorem hasK_asc {x : Kv} (h : Asc (x :: L)) (hk : ltB x.1 k = false) : x.1 = k ∨ hasK k (x :: L) = false := by
  by_cases e : x.1 = k
  · exact .inl e
  · right
    cases hh : hasK k (x :: L) with
    | false => rfl
    | true =>
      obtain ⟨y, hy, rfl⟩ := hasK_mem.1 hh
      rcases List.mem_cons.1 hy with rfl | hy
      · exact absurd rfl e
      · have := (List.pairwise_cons.1 h).1 y hy
        rw [this] at hk; cases hk
theorem hasK_ins : ∀ {L : List Kv}, hasK j (insK k L) = (decide (k = j) || hasK j L) := by
  intro L
  induction L with
  | nil => simp [insK, hasK]
  | cons x l ih =>
    unfold insK
    split
    · rw [hasK_cons, ih, hasK_cons]; simp [Bool.or_left_comm]
    · split
      · rename_i h; rw [hasK_cons, h]; simp
      · rw [hasK_cons]
theorem ins_mem : ∀ {L : List Kv} {x : Kv}, x ∈ insK k L → x = (k, vl0) ∨ x ∈ L := by
  intro L
  induction L with
  | nil => intro x h; simp [insK] at h; exact .inl h
  | cons y l ih =>
    intro x h
    unfold insK at h
    split at h
    · rcases List.mem_cons.1 h with rfl | h
      · exact .inr (List.mem_cons_self ..)
      · exact (ih h).imp id (List.mem_cons_of_mem _)
    · split at h
      · exact .inr h
      · rcases List.mem_cons.1 h with rfl | h
        · exact .inl rfl
        · exact .inr h
theorem ins_asc : ∀ {L : List Kv}, Asc L → Asc (insK k L) := by
  intro L
  induction L with
  | nil => intro _; simp [insK, Asc]
  | cons x l ih =>
    intro h
    have h' := List.pairwise_cons.1 h
    unfold insK
    split
    · rename_i hk
      refine List.pairwise_cons.2 ⟨fun y hy => ?_, ih h'.2⟩
      rcases ins_mem hy with rfl | hy
      · exact hk
      · exact h'.1 y hy
    · split
      · exact h
      · rename_i h1 h2
        have h3 : ltB k x.1 = true := by
          cases e : ltB k x.1 with
          | true => rfl
          | false => exact absurd (ltB_tri (by simpa using h1) e) h2
        refine List.pairwise_cons.2 ⟨fun y hy => ?_, h⟩
        rcases List.mem_cons.1 hy with rfl | hy
        · exact h3
        · exact ltB_trans h3 (h'.1 y hy)
theorem valK_none : ∀ {L : List Kv}, hasK k L = false → valK k L = vl0 := by
  intro L
  induction L with
  | nil => intro _; rfl
  | cons x l ih =>
    intro h
    rw [hasK_cons] at h
    simp at h
    unfold valK
    rw [if_neg h.1]
    exact ih h.2
theorem valK_ins : ∀ {L : List Kv}, Asc L → valK j (insK k L) = valK j L := by
  intro L
  induction L with
  | nil => intro _; unfold insK valK; split <;> simp [valK]
  | cons x l ih =>
    intro h
    have h' := List.pairwise_cons.1 h
    unfold insK
    split
    · rw [valK, valK, ih h'.2]
    · split
      · rfl
      · rename_i h1 h2
        rw [valK]
        split
        · rename_i e
          simp only at e
          subst e
          rcases hasK_asc h (by simpa using h1) with e | e
          · exact absurd e h2
          · exact (valK_none e).symm
        · rfl
theorem ins_has : ∀ {L : List Kv}, Asc L → hasK k L = true → insK k L = L := by
  intro L
  induction L with
  | nil => intro _ h; cases h
  | cons x l ih =>
    intro h hk
    have h' := List.pairwise_cons.1 h
    unfold insK
    split
    · rename_i h1
      rw [hasK_cons] at hk
      have hne := ltB_ne h1
      simp [hne] at hk
      rw [ih h'.2 hk]
    · split
      · rfl
      · rename_i h1 h2
        rcases hasK_asc h (by simpa using h1) with e | e
        · exact absurd e h2
        · rw [e] at hk; cases hk
/-- where a key stands, or would stand -/
def posK (k : ByteArray) (L : List Kv) : Nat := L.countP fun x => ltB x.1 k
theorem pos_t {x : Kv} {L : List Kv} {k : ByteArray} (h : ltB x.1 k = true) : posK k (x :: L) = posK k L + 1 := List.countP_cons_of_pos (p := fun x : Kv => ltB x.1 k) h
theorem pos_f {x : Kv} {L : List Kv} {k : ByteArray} (h : ¬ ltB x.1 k = true) : posK k (x :: L) = posK k L := List.countP_cons_of_neg (p := fun x : Kv => ltB x.1 k) h
theorem pos_z {l : List Kv} {x : Kv} {k : ByteArray} (h : ∀ y ∈ l, ltB x.1 y.1 = true) (h1 : ¬ ltB x.1 k = true) : posK k l = 0 := List.countP_eq_zero.2 fun y hy e => h1 (ltB_trans (h y hy) e)
theorem posK_le : posK k L ≤ L.length := List.countP_le_length
theorem ins_split : ∀ {L : List Kv}, Asc L → hasK k L = false → insK k L = L.take (posK k L) ++ [(k, vl0)] ++ L.drop (posK k L) := by
  intro L
  induction L with
  | nil => intro _ _; rfl
  | cons x l ih =>
    intro h hk
    have h' := List.pairwise_cons.1 h
    rw [hasK_cons] at hk
    simp only [Bool.or_eq_false_iff, decide_eq_false_iff_not] at hk
    unfold insK
    by_cases h1 : ltB x.1 k = true
    · rw [if_pos h1, ih h'.2 hk.2, pos_t h1]
      simp
    · have hz := pos_z h'.1 h1
      rw [if_neg h1, if_neg hk.1, pos_f h1, hz]
      simp
theorem pos_get : ∀ {L : List Kv}, Asc L → hasK k L = true → ∃ x, L[posK k L]? = some x ∧ x.1 = k ∧ x.2 = valK k L := by
  intro L
  induction L with
  | nil => intro _ h; cases h
  | cons x l ih =>
    intro h hk
    have h' := List.pairwise_cons.1 h
    rw [hasK_cons] at hk
    by_cases h1 : ltB x.1 k = true
    · have hne := ltB_ne h1
      simp [hne] at hk
      obtain ⟨y, e1, e2, e3⟩ := ih h'.2 hk
      rw [pos_t h1]
      exact ⟨y, by simpa using e1, e2, by rw [valK, if_neg hne]; exact e3⟩
    · have hx : x.1 = k := by
        rcases hasK_asc h (by simpa using h1) with e | e
        · exact e
        · rw [hasK_cons] at e; rw [e] at hk; cases hk
      have hz := pos_z h'.1 h1
      rw [pos_f h1, hz]
      exact ⟨x, rfl, hx, by rw [valK, if_pos hx]⟩
theorem pos_lt : ∀ {L : List Kv}, Asc L → ∀ i x, L[i]? = some x → (ltB x.1 k = true ↔ i < posK k L) := by
  intro L
  induction L with
  | nil => intro _ i x h; simp at h
  | cons y l ih =>
    intro h i x hx
    have h' := List.pairwise_cons.1 h
    by_cases h1 : ltB y.1 k = true
    · rw [pos_t h1]
      cases i with
      | zero => simp at hx; subst hx; simp [h1]
      | succ i =>
        simp at hx
        have := ih h'.2 i x hx
        rw [this]; omega
    · have hz := pos_z h'.1 h1
      rw [pos_f h1, hz]
      cases i with
      | zero => simp at hx; subst hx; simp [h1]
      | succ i =>
        simp at hx
        have hm := List.mem_of_getElem? hx
        have : ¬ ltB x.1 k = true := fun e => h1 (ltB_trans (h'.1 x hm) e)
        simp [this]
theorem cnt_ins : ∀ {L : List Kv}, Asc L → cntP n p (insK k L) = cntP n p L + if hasK k L = false ∧ partK n k = p then 1 else 0 := by
  intro L h
  cases hk : hasK k L with
  | true => rw [ins_has h hk]; simp
  | false =>
    rw [ins_split h hk]
    unfold cntP
    rw [List.countP_append, List.countP_append, List.countP_singleton]
    have : L.countP (fun x => decide (partK n x.1 = p)) = (L.take (posK k L)).countP (fun x => decide (partK n x.1 = p)) + (L.drop (posK k L)).countP (fun x => decide (partK n x.1 = p)) := by
      rw [← List.countP_append, List.take_append_drop]
    rw [this]
    by_cases e : partK n k = p <;> simp [e] <;> omega
theorem up_keys : (upK k v L).map (·.1) = L.map (·.1) := by
  unfold upK
  rw [List.map_map]
  apply List.map_congr_left
  intro x _
  simp only [Function.comp]
  split
  · rename_i h; exact h.symm
  · rfl
theorem asc_keys {L' : List Kv} (h : L'.map (·.1) = L.map (·.1)) (ha : Asc L) : Asc L' := by
  have e : ∀ M : List Kv, Asc M ↔ (M.map (·.1)).Pairwise fun x y => ltB x y = true := fun M => by unfold Asc; rw [List.pairwise_map]
  rw [e] at *
  rw [h]; exact ha
theorem up_asc (h : Asc L) : Asc (upK k v L) := asc_keys up_keys h
theorem has_keys {L' : List Kv} (h : L'.map (·.1) = L.map (·.1)) : hasK j L' = hasK j L := by
  have e : ∀ M : List Kv, hasK j M = (M.map (·.1)).any fun x => decide (x = j) := fun M => by unfold hasK; rw [List.any_map]; rfl
  rw [e, e, h]
theorem hasK_up : hasK j (upK k v L) = hasK j L := has_keys up_keys
theorem cnt_keys {L' : List Kv} (h : L'.map (·.1) = L.map (·.1)) : cntP n p L' = cntP n p L := by
  have e : ∀ M : List Kv, cntP n p M = (M.map (·.1)).countP fun x => decide (partK n x = p) := fun M => by unfold cntP; rw [List.countP_map]; rfl
  rw [e, e, h]
theorem cnt_up : cntP n p (upK k v L) = cntP n p L := cnt_keys up_keys
theorem valK_up : ∀ {L : List Kv}, valK j (upK k v L) = if k = j ∧ hasK k L = true then v else valK j L := by
  intro L
  induction L with
  | nil => simp [upK, valK, hasK]
  | cons x l ih =>
    have e : upK k v (x :: l) = (if x.1 = k then (k, v) else x) :: upK k v l := rfl
    rw [e, valK, ih, hasK_cons, valK]
    by_cases h1 : x.1 = k
    · rw [if_pos h1]
      by_cases h2 : k = j
      · simp [h1, h2]
      · have : x.1 ≠ j := fun e => h2 (h1.symm.trans e)
        simp [h1, h2, this]
    · rw [if_neg h1]
      by_cases h2 : x.1 = j
      · have : k ≠ j := fun e => h1 (h2.trans e.symm)
        simp [h2, this]
      · simp [h1, h2]
theorem valK_mem {x : Kv} : ∀ {L : List Kv}, Asc L → x ∈ L → valK x.1 L = x.2 := by
  intro L
  induction L with
  | nil => intro _ h; cases h
  | cons y l ih =>
    intro h hx
    have h' := List.pairwise_cons.1 h
    unfold valK
    rcases List.mem_cons.1 hx with rfl | hx
    · rw [if_pos rfl]
    · rw [if_neg (ltB_ne (h'.1 x hx)), ih h'.2 hx]
theorem asc_nodup (h : Asc L) : (L.map (·.1)).Nodup := by
  unfold Asc at h
  rw [List.nodup_iff_pairwise_ne, List.pairwise_map]
  exact h.imp fun h => ltB_ne h
/-- two rising lists that have the same are one -/
theorem asc_eq {L M : List Kv} (hL : Asc L) (hM : Asc M) (h : L.Perm M) : L = M :=
  h.eq_of_pairwise (fun a b _ _ h1 h2 => by rw [ltB_asymm h1] at h2; cases h2) hL hM
theorem dump_asc (h : Asc L) : Asc (dumpL L) := h.filter _
end
/-! stores -/
structure St where
  parts : Nat
  room : Nat
  L : List Kv
/-- a write -/
structure Wr where
  key : ByteArray
  gone : Bool
  v : Vl
def riseB (ks : List ByteArray) : Bool := (List.range (ks.length - 1)).all fun i => ltB (ks.getD i ⟨#[]⟩) (ks.getD (i + 1) ⟨#[]⟩)
def moreK (s : St) (ks : List ByteArray) (p : Nat) : Nat := ks.countP fun k => !hasK k s.L && decide (partK s.parts k = p)
def fullB (s : St) (ks : List ByteArray) : Bool := (List.range s.parts).any fun p => decide (0 < moreK s ks p) && decide (s.room < cntP s.parts p s.L + moreK s ks p)
def claimE (s : St) (ks : List ByteArray) : Int := if ks.any (fun k => !validK k) = true then 30 else if riseB ks = false then 40 else if fullB s ks = true then 5 else 0
def insAll (L : List Kv) (ks : List ByteArray) : List Kv := ks.foldl (fun L k => insK k L) L
def claimS (s : St) (ks : List ByteArray) : St := if claimE s ks = 0 then { s with L := insAll s.L ks } else s
def wrE (s : St) (ws : List Wr) (i : Nat) : Int :=
  let w := ws.getD i ⟨⟨#[]⟩, false, vl0⟩
  if validK w.key = false then 30
  else if 0 < i ∧ ltB (ws.getD (i - 1) ⟨⟨#[]⟩, false, vl0⟩).key w.key = false then 40
  else if hasK w.key s.L = false then 41
  else if w.v.ok = false then 20
  else if w.gone = true ∧ w.v ≠ vl0 then 2
  else 0
def applyE (s : St) (ws : List Wr) : Int := (scan (wrE s ws) ws.length 0).1
def upAll (L : List Kv) (ws : List Wr) : List Kv := ws.foldl (fun L x => upK x.key x.v L) L
def applyS (s : St) (ws : List Wr) : St := if applyE s ws = 0 then { s with L := upAll s.L ws } else s
/-- what always holds -/
structure St.Ok (s : St) : Prop where
  parts : 1 ≤ s.parts ∧ s.parts ≤ 64
  room : 1 ≤ s.room ∧ s.room ≤ 4096
  asc : Asc s.L
  key : ∀ x ∈ s.L, validK x.1 = true
  val : ∀ x ∈ s.L, x.2.ok = true
  cnt : ∀ p, p < s.parts → cntP s.parts p s.L ≤ s.room
section
variable {s : St} {ks : List ByteArray} {ws : List Wr}
theorem insAll_asc : ∀ {ks : List ByteArray} {L : List Kv}, Asc L → Asc (insAll L ks) := by
  intro ks
  induction ks with
  | nil => intro L h; exact h
  | cons k ks ih => intro L h; exact ih (ins_asc h)
theorem insAll_has {j : ByteArray} : ∀ {ks : List ByteArray} {L : List Kv}, hasK j (insAll L ks) = (ks.any (fun k => decide (k = j)) || hasK j L) := by
  intro ks
  induction ks with
  | nil => intro L; simp [insAll]
  | cons k ks ih =>
    intro L
    show hasK j (insAll (insK k L) ks) = _
    rw [ih, hasK_ins, List.any_cons]
    cases decide (k = j) <;> cases ks.any (fun k => decide (k = j)) <;> simp
theorem insAll_val {j : ByteArray} : ∀ {ks : List ByteArray} {L : List Kv}, Asc L → valK j (insAll L ks) = valK j L := by
  intro ks
  induction ks with
  | nil => intro L _; rfl
  | cons k ks ih => intro L h; exact (ih (ins_asc h)).trans (valK_ins h)
theorem insAll_mem : ∀ {ks : List ByteArray} {L : List Kv} {x : Kv}, x ∈ insAll L ks → (x.1 ∈ ks ∧ x.2 = vl0) ∨ x ∈ L := by
  intro ks
  induction ks with
  | nil => intro L x h; exact .inr h
  | cons k ks ih =>
    intro L x h
    rcases ih (L := insK k L) h with h | h
    · exact .inl ⟨List.mem_cons_of_mem _ h.1, h.2⟩
    · rcases ins_mem h with rfl | h
      · exact .inl ⟨List.mem_cons_self .., rfl⟩
      · exact .inr h
theorem insAll_cnt {n p : Nat} : ∀ {ks : List ByteArray} {L : List Kv}, Asc L → ks.Nodup → cntP n p (insAll L ks) = cntP n p L + ks.countP fun k => !hasK k L && decide (partK n k = p) := by
  intro ks
  induction ks with
  | nil => intro L _ _; rfl
  | cons k ks ih =>
    intro L h hn
    have hn' := List.nodup_cons.1 hn
    show cntP n p (insAll (insK k L) ks) = _
    rw [ih (ins_asc h) hn'.2, cnt_ins h, List.countP_cons]
    have e : (ks.countP fun j => !hasK j (insK k L) && decide (partK n j = p)) = ks.countP fun j => !hasK j L && decide (partK n j = p) := by
      apply List.countP_congr
      intro j hj
      have : k ≠ j := by rintro rfl; exact hn'.1 hj
      rw [hasK_ins]; simp [this]
    rw [e]
    cases hasK k L <;> by_cases h2 : partK n k = p <;> simp [h2] <;> omega
theorem rise_lt (h : riseB ks = true) : ∀ i j, i < j → j < ks.length → ltB (ks.getD i ⟨#[]⟩) (ks.getD j ⟨#[]⟩) = true := by
  intro i j hij hj
  unfold riseB at h
  rw [List.all_eq_true] at h
  induction j with
  | zero => omega
  | succ j ih =>
    have h1 := h j (List.mem_range.2 (by omega))
    by_cases e : i = j
    · subst e; exact h1
    · exact ltB_trans (ih (by omega) (by omega)) h1
theorem rise_nodup (h : riseB ks = true) : ks.Nodup := by
  rw [List.nodup_iff_pairwise_ne, List.pairwise_iff_getElem]
  intro i j hi hj hij
  have := ltB_ne (rise_lt h i j hij hj)
  simpa [List.getD_eq_getElem?_getD, hi, hj] using this
theorem claim_ok (h : s.Ok) (ks : List ByteArray) : (claimS s ks).Ok := by
  unfold claimS
  split
  · rename_i he
    unfold claimE at he
    split at he; · cases he
    rename_i h1
    split at he; · cases he
    rename_i h2
    split at he; · cases he
    rename_i h3
    have hr : riseB ks = true := by simpa using h2
    refine ⟨h.parts, h.room, insAll_asc h.asc, fun x hx => ?_, fun x hx => ?_, fun p hp => ?_⟩
    · rcases insAll_mem hx with ⟨hx, _⟩ | hx
      · simp at h1; exact h1 _ hx
      · exact h.key x hx
    · rcases insAll_mem hx with ⟨_, hx⟩ | hx
      · rw [hx]; decide
      · exact h.val x hx
    · show cntP s.parts p (insAll s.L ks) ≤ s.room
      rw [insAll_cnt h.asc (rise_nodup hr)]
      have hp' : p < s.parts := hp
      have h4 : ¬ (0 < moreK s ks p ∧ s.room < cntP s.parts p s.L + moreK s ks p) := by
        intro h4
        apply h3
        unfold fullB
        exact List.any_eq_true.2 ⟨p, List.mem_range.2 hp', by simp [h4.1, h4.2]⟩
      have h5 := h.cnt p hp'
      unfold moreK at h4
      omega
  · exact h
theorem upAll_keys : ∀ {ws : List Wr} {L : List Kv}, (upAll L ws).map (·.1) = L.map (·.1) := by
  intro ws
  induction ws with
  | nil => intro L; rfl
  | cons x ws ih => intro L; exact (ih (L := upK x.key x.v L)).trans up_keys
theorem up_mem {k : ByteArray} {v : Vl} {L : List Kv} {x : Kv} (h : x ∈ upK k v L) : (x.1 = k ∧ x.2 = v) ∨ x ∈ L := by
  obtain ⟨y, hy, rfl⟩ := List.mem_map.1 h
  split
  · exact .inl ⟨rfl, rfl⟩
  · exact .inr hy
theorem upAll_mem : ∀ {ws : List Wr} {L : List Kv} {x : Kv}, x ∈ upAll L ws → (∃ u ∈ ws, x.1 = u.key ∧ x.2 = u.v) ∨ x ∈ L := by
  intro ws
  induction ws with
  | nil => intro L x h; exact .inr h
  | cons u ws ih =>
    intro L x h
    rcases ih (L := upK u.key u.v L) h with ⟨y, hy, h⟩ | h
    · exact .inl ⟨y, List.mem_cons_of_mem _ hy, h⟩
    · rcases up_mem h with h | h
      · exact .inl ⟨u, List.mem_cons_self .., h⟩
      · exact .inr h
theorem scan_zero (f : Nat → Int) : ∀ (n i : Nat), (scan f n i).1 = 0 ↔ ∀ j, i ≤ j → j < i + n → f j = 0 := by
  intro n
  induction n with
  | zero => intro i; simp [scan]; intro j h1 h2; omega
  | succ n ih =>
    intro i
    unfold scan
    by_cases h : f i = 0
    · rw [if_pos h, ih]
      exact ⟨fun h1 j h2 h3 => by by_cases e : j = i; · rw [e]; exact h
                                  · exact h1 j (by omega) (by omega), fun h1 j h2 h3 => h1 j (by omega) (by omega)⟩
    · rw [if_neg h]
      exact ⟨fun h1 => absurd h1 h, fun h1 => h1 i (by omega) (by omega)⟩
theorem apply_zero (h : applyE s ws = 0) (u : Wr) (hu : u ∈ ws) : validK u.key = true ∧ hasK u.key s.L = true ∧ u.v.ok = true := by
  obtain ⟨i, hi⟩ := List.getElem?_of_mem hu
  have hlt := (List.getElem?_eq_some_iff.1 hi).1
  have := (scan_zero (wrE s ws) ws.length 0).1 h i (by omega) (by omega)
  unfold wrE at this
  simp only [List.getD_eq_getElem?_getD, hi, Option.getD_some] at this
  split at this; · cases this
  rename_i h1
  split at this; · cases this
  split at this; · cases this
  rename_i h3
  split at this; · cases this
  rename_i h4
  exact ⟨by simpa using h1, by simpa using h3, by simpa using h4⟩
theorem apply_ok (h : s.Ok) (ws : List Wr) : (applyS s ws).Ok := by
  unfold applyS
  split
  · rename_i he
    refine ⟨h.parts, h.room, asc_keys upAll_keys h.asc, fun x hx => ?_, fun x hx => ?_, fun p hp => ?_⟩
    · rcases upAll_mem hx with ⟨u, hu, e, _⟩ | hx
      · rw [e]; exact (apply_zero he u hu).1
      · exact h.key x hx
    · rcases upAll_mem hx with ⟨u, hu, _, e⟩ | hx
      · rw [e]; exact (apply_zero he u hu).2.2
      · exact h.val x hx
    · show cntP s.parts p (upAll s.L ws) ≤ s.room
      rw [cnt_keys upAll_keys]; exact h.cnt p hp
  · exact h
end
end Go.Proofs.YtphglnenafdkaaaGreatDoor

namespace Go.Proofs.YtphglnenafdkaaaGreatDoor
open Go.RowKit

theorem add_zero (b o j : Nat) : (Addr.mk b o none).add j = ⟨b, o + j, none⟩ := Addr.add_lit b o j

section
variable {P : Program} (w : World)
theorem run_append_nothing (base : Nat) (t ty e : TypeId) (i : TypeInfo) (size : Nat) (ht : P.underlying t = some (.slice e)) (hi : P.info? e = some i) (_hsize : i.size = size)
    (v : Value) (n : Nat) (xs : List Value) (hown : w.ownsRow base e size v n xs) (A : Option Addr) (c : Nat) : (Builtin.append_ #[t, t] ty #[v, .slice A 0 c]).run P w = .ok v w := by
  have hf : ∀ A : Option Addr, (Builtin.firstCells i.size 0 (.slice A 0 c)).run P w = .ok #[] w := by
    intro A; cases A <;> simp [Builtin.firstCells, loadCells, loadCellsFrom]
  rcases hown.2 with ⟨rfl, rfl⟩ | ⟨g, cap, cur, rfl, _, _, hnc, _⟩
  · simp [Builtin.append_, run_underlying ht, sizeOf, typeInfo, hi, Builtin.lenOf, hf]
  · simp [Builtin.append_, run_underlying ht, sizeOf, typeInfo, hi, Builtin.lenOf, hf, hnc, storeCells]

theorem run_append_rd (base : Nat) (t ty e : TypeId) (i : TypeInfo) (z : Value) (size bytes : Nat) (ht : P.underlying t = some (.slice e)) (hi : P.info? e = some i) (hz : i.zero = some z)
    (hsize : i.size = size) (hby : i.bytes = bytes) (hzs : z.cells.size = size) (hsz : 0 < size)
    (v : Value) (n : Nat) (xs : List Value) (hown : w.ownsRow base e size v n xs)
    (S : Nat → Prop) (A : Option Addr) (m c : Nat) (news : List Value) (hr : Rd S w size A m news) (h1 : ∀ u ∈ news, u.oneCell' = true)
    (h63 : n + m ≤ maxLen) (hbytes : (n + m) * bytes ≤ 140737488355328) (hbase : base ≤ w.heap.size) :
    ∃ v' w', (Builtin.append_ #[t, t] ty #[v, .slice A m c]).run P w = .ok v' w' ∧ w'.ownsRow base e size v' (n + m) (xs ++ news) ∧ w.grownBy w' v.ownBlock ∧
      (v'.ownBlock = v.ownBlock ∨ v'.ownBlock = some w.heap.size) := by
  rcases Nat.eq_zero_or_pos m with h0 | h0
  · subst h0
    have hn : news = [] := List.eq_nil_of_length_eq_zero (by simpa using hr.1)
    subst hn
    exact ⟨v, w, run_append_nothing w base t ty e i size ht hi hsize v n xs hown A c, by simpa using hown, World.grownBy.refl w _, .inl rfl⟩
  · obtain ⟨b, o, rfl, _, _, hc⟩ := hr.2 h0
    obtain ⟨v', w', hrun, h2, h3, _, h5⟩ := run_append_own_at (P := P) w base t ty e i z size bytes ht hi hz hsize hby hzs hsz v n xs hown ⟨b, o, none⟩ m c news hr.1 (fun j u hu => by rw [add_zero]; exact hc j u hu) h1 h63 hbytes hbase
    exact ⟨v', w', hrun, h2, h3, h5⟩

theorem wp_append_rd {o : Oper} {a : Act} {K : Act → World → Prop} {Q : Exit → Act → World → Prop} (s x : Operand) (t : TypeId)
    (ho : o.op = .call { callee := .builtin .append, args := #[s, x], argTypes := #[t, t] })
    (base : Nat) (e : TypeId) (i : TypeInfo) (z : Value) (size bytes : Nat) (ht : P.underlying t = some (.slice e)) (hi : P.info? e = some i) (hz : i.zero = some z)
    (hsize : i.size = size) (hby : i.bytes = bytes) (hzs : z.cells.size = size) (hsz : 0 < size)
    (v : Value) (n : Nat) (xs : List Value) (hs : a.eval s = v) (hown : w.ownsRow base e size v n xs)
    (S : Nat → Prop) (A : Option Addr) (m c : Nat) (news : List Value) (hx : a.eval x = .slice A m c) (hr : Rd S w size A m news) (h1 : ∀ u ∈ news, u.oneCell' = true)
    (h63 : n + m ≤ maxLen) (hbytes : (n + m) * bytes ≤ 140737488355328) (hbase : base ≤ w.heap.size)
    (h : ∀ v' w', w'.ownsRow base e size v' (n + m) (xs ++ news) → w.grownBy w' v.ownBlock → (v'.ownBlock = v.ownBlock ∨ v'.ownBlock = some w.heap.size) → K (a.put o.dst v') w') : o.wp P a w K Q := by
  obtain ⟨v', w', hrun, h2, h3, h4⟩ := run_append_rd (P := P) w base t o.type e i z size bytes ht hi hz hsize hby hzs hsz v n xs hown S A m c news hr h1 h63 hbytes hbase
  unfold Oper.wp execOp
  simp only [ho, resolve, invoke, builtin, Sem.run_bind, Sem.run_pure, Result.andThen_ok, List.map_toArray, List.map_cons, List.map_nil, hs, hx, hrun]
  exact h v' w' h2 h3 h4

theorem wpList_append_rd {ops : Array Oper} {rest : List Oper} {o : Oper} {a : Act} {Q : Exit → Act → World → Prop} (hgd : o.guard = none) (s x : Operand) (t : TypeId)
    (ho : o.op = .call { callee := .builtin .append, args := #[s, x], argTypes := #[t, t] })
    (base : Nat) (e : TypeId) (i : TypeInfo) (z : Value) (size bytes : Nat) (ht : P.underlying t = some (.slice e)) (hi : P.info? e = some i) (hz : i.zero = some z)
    (hsize : i.size = size) (hby : i.bytes = bytes) (hzs : z.cells.size = size) (hsz : 0 < size)
    (v : Value) (n : Nat) (xs : List Value) (hs : a.eval s = v) (hown : w.ownsRow base e size v n xs)
    (S : Nat → Prop) (A : Option Addr) (m c : Nat) (news : List Value) (hx : a.eval x = .slice A m c) (hr : Rd S w size A m news) (h1 : ∀ u ∈ news, u.oneCell' = true)
    (h63 : n + m ≤ maxLen) (hbytes : (n + m) * bytes ≤ 140737488355328) (hbase : base ≤ w.heap.size)
    (h : ∀ v' w', w'.ownsRow base e size v' (n + m) (xs ++ news) → w.grownBy w' v.ownBlock → (v'.ownBlock = v.ownBlock ∨ v'.ownBlock = some w.heap.size) → wpList P ops Q rest (a.put o.dst v') w') : wpList P ops Q (o :: rest) a w :=
  wpList_plain hgd fun _ hK => wp_append_rd w s x t ho base e i z size bytes ht hi hz hsize hby hzs hsz v n xs hs hown S A m c news hx hr h1 h63 hbytes hbase fun v' w' h2 h3 h4 => hK _ _ (h v' w' h2 h3 h4)
end

/-- an owned row reads -/
theorem Rd.of_own {w : World} {base : Nat} {e : TypeId} {size n c : Nat} {A : Option Addr} {xs : List Value} (h : w.ownsRow base e size (.slice A n c) n xs) : Rd (fun b => some b = (Value.slice A n c).ownBlock) w size A n xs := by
  refine ⟨h.1, fun hn => ?_⟩
  obtain ⟨g, cap, hv, _, hlt⟩ := h.form hn
  have hA : A = some ⟨g, 0, none⟩ := by injection hv
  subst hA
  exact ⟨g, 0, rfl, rfl, hlt, fun j u hu => by have := h.cells (g := g) rfl j u hu; rwa [add_zero] at this⟩
theorem own_form {w : World} {base : Nat} {e : TypeId} {size n : Nat} {v : Value} {xs : List Value} (h : w.ownsRow base e size v n xs) : ∃ A c, v = .slice A n c ∧ n ≤ c ∧ c ≤ maxLen := by
  rcases h.2 with ⟨rfl, rfl⟩ | ⟨g, cap, cur, rfl, _, _, h1, h2, _⟩
  · exact ⟨_, _, rfl, Nat.le_refl _, by simp [maxLen]⟩
  · exact ⟨_, _, rfl, h1, h2⟩

/-- a clone -/
def Cloned (e size : Nat) (xs : List Value) (n : Nat) (w : World) (v : Value) (w' : World) : Prop :=
  w'.ownsRow w.heap.size e size v n xs ∧ Below w.heap.size w w'

theorem cloned_nil (e size : Nat) (w w' : World) (h : Below w.heap.size w w') : Cloned e size [] 0 w (.slice none 0 0) w' :=
  ⟨World.ownsRow_nil _ _ _ _, h⟩

theorem eql_nil (t e : TypeId) (h : Tryz.prog.underlying t = some (.slice e)) (w : World) (a : Option Addr) (n c : Nat) : (binOp .eql t (.slice a n c) (.slice none 0 0)).run Tryz.prog w = .ok (.bool a.isNone) w := by
  simp only [binOp]
  simp [run_equal_slice_nil w t e a n c h]

end Go.Proofs.YtphglnenafdkaaaGreatDoor

namespace Go.Proofs.YtphglnenafdkaaaGreatDoor
open Go.RowKit
set_option linter.unusedVariables false
set_option linter.unusedSimpArgs false

theorem own_below {w w' : World} {base : Nat} {e : TypeId} {size n : Nat} {v : Value} {xs : List Value} (h : w.ownsRow base e size v n xs) (hb : Below w.heap.size w w') : w'.ownsRow base e size v n xs := by
  refine ⟨h.1, ?_⟩
  rcases h.2 with hn | ⟨g, cap, cur, rfl, hg, hh, rest⟩
  · exact .inl hn
  · exact .inr ⟨g, cap, cur, rfl, hg, (hb.block g (Array.getElem?_eq_some_iff.1 hh).1).trans hh, rest⟩
theorem own_base {w : World} {base base' : Nat} {e : TypeId} {size n : Nat} {v : Value} {xs : List Value} (hb : base' ≤ base) (h : w.ownsRow base e size v n xs) : w.ownsRow base' e size v n xs := by
  refine ⟨h.1, ?_⟩
  rcases h.2 with hn | ⟨g, cap, cur, rfl, hg, rest⟩
  · exact .inl hn
  · exact .inr ⟨g, cap, cur, rfl, by omega, rest⟩
/-- a copy's append: what was there before the new row was laid is as it was -/
theorem below_of_copy {W w1 : World} {o : Obj} (hg : (W.alloc o).grownBy w1 (some W.heap.size)) : Below W.heap.size W w1 :=
  ((Below.refl _ _).alloc (Nat.le_refl _) o).grown hg (by simp) fun k hk => by injection hk with hk; omega
theorem own_empty (W : World) (e : TypeId) (size : Nat) : (W.alloc (.cells #[] e)).ownsRow W.heap.size e size (.slice (some ⟨W.heap.size, 0, none⟩) 0 0) 0 [] := World.ownsRow_made W #[] 0 (Nat.le_refl _) (by simp [maxLen]) (by simp)

theorem own_empty' (W : World) (e : TypeId) (size : Nat) (g : Nat) (hg : g = W.heap.size) : (W.alloc (.cells #[] e)).ownsRow g e size (.slice (some ⟨g, 0, none⟩) 0 0) 0 [] := by
  subst hg; exact own_empty W e size
theorem below_of_copy' {W w1 : World} {o : Obj} {g : Nat} (hg : (W.alloc o).grownBy w1 (Value.slice (some ⟨g, 0, none⟩) 0 0).ownBlock) (hW : g = W.heap.size) : Below W.heap.size W w1 := by
  subst hW; exact below_of_copy hg
/-- 'append(T{}, src...)': a copy in a row of its own -/
theorem wpList_copy_rd {P : Program} (W : World) {ops : Array Oper} {rest : List Oper} {o : Oper} {a : Act} {Q : Exit → Act → World → Prop} (hgd : o.guard = none) (s x : Operand) (t : TypeId)
    (ho : o.op = .call { callee := .builtin .append, args := #[s, x], argTypes := #[t, t] })
    (e : TypeId) (i : TypeInfo) (z : Value) (size bytes : Nat) (ht : P.underlying t = some (.slice e)) (hi : P.info? e = some i) (hz : i.zero = some z)
    (hsize : i.size = size) (hby : i.bytes = bytes) (hzs : z.cells.size = size) (hsz : 0 < size)
    (g : Nat) (hs : a.eval s = .slice (some ⟨g, 0, none⟩) 0 0) (hg : g = W.heap.size)
    (S : Nat → Prop) (A : Option Addr) (m c : Nat) (news : List Value) (hx : a.eval x = .slice A m c) (hr : Rd S W size A m news) (h1 : ∀ u ∈ news, u.oneCell' = true)
    (h63 : m ≤ maxLen) (hbytes : m * bytes ≤ 140737488355328)
    (h : ∀ A' c' w', w'.ownsRow W.heap.size e size (.slice A' m c') m news → Below W.heap.size W w' → wpList P ops Q rest (a.put o.dst (.slice A' m c')) w') : wpList P ops Q (o :: rest) a (W.alloc (.cells #[] e)) := by
  subst hg
  refine wpList_append_rd _ hgd s x t ho W.heap.size e i z size bytes ht hi hz hsize hby hzs hsz (.slice (some ⟨W.heap.size, 0, none⟩) 0 0) 0 [] hs (own_empty W e size) S A m c news hx (hr.alloc _) h1 (by omega) (by simpa using hbytes) (by simp) ?_
  intro v' w' h2 h3 _
  simp only [Nat.zero_add, List.nil_append] at h2
  obtain ⟨A', c', rfl, _, _⟩ := own_form h2
  exact h A' c' w' h2 (below_of_copy h3)

theorem Rd.of_own' {w : World} {base : Nat} {e : TypeId} {size n c : Nat} {A : Option Addr} {xs : List Value} (h : w.ownsRow base e size (.slice A n c) n xs) : Rd (fun b => base ≤ b) w size A n xs :=
  (Rd.of_own h).more fun b hb _ => (h.lt b hb.symm).1
theorem Rd.setCell {S : Nat → Prop} {w : World} {size n : Nat} {A : Option Addr} {xs : List Value} (h : Rd S w size A n xs) {p : Addr} (hp : ¬ S p.block) (u : Value) : Rd S (w.setCell p u) size A n xs :=
  h.keep fun b hb _ => Below.heap_setCell w p u b (by rintro rfl; exact hp hb)
theorem Rd.new (w : World) (e : TypeId) (size n : Nat) (cs : Array Value) (g : Nat) (hg : g = w.heap.size) (hn : cs.size = n * size) : Rd (fun b => b = g) (w.alloc (.cells cs e)) size (some ⟨g, 0, none⟩) n cs.toList := by
  subst hg
  refine ⟨by simpa using hn, fun _ => ⟨_, 0, rfl, rfl, by simp, fun j u hu => ?_⟩⟩
  rw [Nat.zero_add, (Blk.new w e cs).cell j]
  simpa using hu

theorem own_type_ne {w : World} {base base' : Nat} {e e' : TypeId} {size size' n n' : Nat} {v v' : Value} {xs xs' : List Value} (h : w.ownsRow base e size v n xs) (h' : w.ownsRow base' e' size' v' n' xs') (hne : e ≠ e') : v.ownBlock = none ∨ v.ownBlock ≠ v'.ownBlock := by
  rcases h.2 with ⟨rfl, _⟩ | ⟨g, cap, cur, rfl, _, hh, _⟩
  · left; rfl
  · right
    rcases h'.2 with ⟨rfl, _⟩ | ⟨g', cap', cur', rfl, _, hh', _⟩
    · simp [Value.ownBlock]
    · simp only [Value.ownBlock, ne_eq, Option.some.injEq]
      rintro rfl
      rw [hh] at hh'
      injection hh' with hh'
      injection hh' with _ ht
      exact hne ht
def OwnS (S : Nat → Prop) (w : World) (e : TypeId) (size : Nat) (v : Value) (n : Nat) (xs : List Value) : Prop := w.ownsRow 0 e size v n xs ∧ ∀ b, v.ownBlock = some b → S b
section
variable {S S' : Nat → Prop} {w w' : World} {e : TypeId} {size n : Nat} {v : Value} {xs : List Value}
theorem OwnS.keep (h : OwnS S w e size v n xs) (hk : ∀ b, S b → b < w.heap.size → w'.heap[b]? = w.heap[b]?) : OwnS S w' e size v n xs := by
  refine ⟨⟨h.1.1, ?_⟩, h.2⟩
  rcases h.1.2 with hn | ⟨g, cap, cur, rfl, hg, hh, rest⟩
  · exact .inl hn
  · exact .inr ⟨g, cap, cur, rfl, hg, (hk g (h.2 g rfl) (Array.getElem?_eq_some_iff.1 hh).1).trans hh, rest⟩
theorem OwnS.of_own {base : Nat} (h : w.ownsRow base e size v n xs) : OwnS (fun b => base ≤ b ∧ b < w.heap.size) w e size v n xs := ⟨own_base (Nat.zero_le _) h, fun b hb => h.lt b hb⟩
theorem OwnS.more (h : OwnS S w e size v n xs) (hS : ∀ b, S b → b < w.heap.size → S' b) : OwnS S' w e size v n xs := ⟨h.1, fun b hb => hS b (h.2 b hb) (h.1.lt b hb).2⟩
theorem OwnS.rd {A : Option Addr} {c : Nat} (h : OwnS S w e size (.slice A n c) n xs) : Rd S w size A n xs := (Rd.of_own h.1).more fun b hb _ => h.2 b hb.symm
end
theorem Upd.of_below' {w w' : World} (h : Below w.heap.size w w') (M : Nat → Prop) : Upd M w w' := Upd.of_below h fun k hk hB => absurd hk (by omega)
theorem below_two {w : World} (o o' : Obj) : Below w.heap.size w ((w.alloc o).alloc o') := ((Below.refl _ _).alloc (Nat.le_refl _) o).alloc (by simp) o'

theorem OwnS.keepT {S : Nat → Prop} {w w' : World} {e : TypeId} {size n : Nat} {v : Value} {xs : List Value} (h : OwnS S w e size v n xs) (hk : ∀ b cs, Blk w b e cs → w'.heap[b]? = w.heap[b]?) : OwnS S w' e size v n xs := by
  refine ⟨⟨h.1.1, ?_⟩, h.2⟩
  rcases h.1.2 with hn | ⟨g, cap, cur, rfl, hg, hh, rest⟩
  · exact .inl hn
  · exact .inr ⟨g, cap, cur, rfl, hg, (hk g cur hh).trans hh, rest⟩
theorem own_formS {w : World} {base : Nat} {e : TypeId} {size n : Nat} {A : Option Addr} {c : Nat} {xs : List Value} (h : w.ownsRow base e size (.slice A n c) n xs) (hn : 0 < n) : ∃ g cur, A = some ⟨g, 0, none⟩ ∧ Blk w g e cur := by
  rcases h.2 with ⟨h0, h1⟩ | ⟨g, cap, cur, hv, _, hb, _⟩
  · omega
  · simp only [Value.slice.injEq] at hv
    exact ⟨g, cur, hv.1, hb⟩

theorem own_upd {M : Nat → Prop} {w w' : World} {e : TypeId} {size n c : Nat} {gr : Nat} {xs : List Value} (h : w.ownsRow 0 e size (.slice (some ⟨gr, 0, none⟩) n c) n xs) (hu : Upd M w w') (hM : ¬ M gr) : w'.ownsRow 0 e size (.slice (some ⟨gr, 0, none⟩) n c) n xs := by
  refine ⟨h.1, ?_⟩
  rcases h.2 with ⟨h0, _⟩ | ⟨g, cap, cur, hv, hg, hh, rest⟩
  · cases h0
  · simp only [Value.slice.injEq, Option.some.injEq, Addr.mk.injEq, true_and, and_true] at hv
    obtain ⟨rfl, rfl⟩ := hv
    have hl : gr < w.heap.size := (Array.getElem?_eq_some_iff.1 hh).1
    exact .inr ⟨gr, c, cur, rfl, hg, (hu.block gr hl hM).trans hh, rest⟩
theorem own_updB {M : Nat → Prop} {w w' : World} {base : Nat} {e : TypeId} {size n : Nat} {v : Value} {xs : List Value} (h : w.ownsRow base e size v n xs) (hu : Upd M w w') (hM : ∀ k, base ≤ k → k < w.heap.size → ¬ M k) : w'.ownsRow base e size v n xs := by
  refine ⟨h.1, ?_⟩
  rcases h.2 with hn | ⟨g, cap, cur, rfl, hg, hh, rest⟩
  · exact .inl hn
  · have hl : g < w.heap.size := (Array.getElem?_eq_some_iff.1 hh).1
    exact .inr ⟨g, cap, cur, rfl, hg, (hu.block g hl (hM g hg hl)).trans hh, rest⟩
theorem int_eq (a b : Int) (w : World) : (Op.equal 3 (.int .i64 a) (.int .i64 b)).run Tryz.prog w = .ok (decide (a = b)) w := by
  have ht : Tryz.prog.underlying 3 = some (.int .i64) := Tryz.underlying3
  unfold Op.equal Op.maxDepth
  go_simp
  first | done | (by_cases h : a = b <;> simp [h])
theorem int_check (em : Bool) (a : Int) (w : World) : (Instr.checkKey em 10000 3 (.int .i64 a)).run Tryz.prog w = .ok () w := by
  kernel_rfl
def intE : KeyEnc Tryz.prog 3 Int where
  enc := .int .i64
  desc := _
  under := Tryz.underlying3
  eq := int_eq
  check := int_check
  now := fun a b => .inr (by by_cases h : a = b <;> simp [Instr.sameNow, h])
  bits := fun a => by
    rw [show (10000 : Nat) = 9998 + 1 + 1 from rfl]
    simp [Instr.sameBits]

/-- the value at a key -/
def getA {κ α : Type} [DecidableEq κ] (k : κ) : List (κ × α) → Option α
  | [] => none
  | p :: l => if k = p.1 then some p.2 else getA k l
def setA {κ α : Type} [DecidableEq κ] (k : κ) (v : α) : List (κ × α) → List (κ × α)
  | [] => [(k, v)]
  | p :: l => if k = p.1 then (k, v) :: l else p :: setA k v l
def delA {κ α : Type} [DecidableEq κ] (k : κ) : List (κ × α) → List (κ × α)
  | [] => []
  | p :: l => if k = p.1 then l else p :: delA k l
theorem look_map {κ α : Type} [DecidableEq κ] (f : α → Value) (k : κ) : ∀ (l : List (κ × α)) (i : Nat), (look k (l.map fun p => (p.1, f p.2)) i).map (·.2) = (getA k l).map f := by
  intro l
  induction l with
  | nil => intro i; rfl
  | cons p l ih =>
    intro i
    by_cases h : k = p.1
    · simp [look, getA, h]
    · simp [look, getA, h, ih]
theorem getK_map {κ α : Type} [DecidableEq κ] (f : α → Value) (k : κ) (l : List (κ × α)) : getK k (l.map fun p => (p.1, f p.2)) = (getA k l).map f := look_map f k l 0
theorem setK_map {κ α : Type} [DecidableEq κ] (f : α → Value) (k : κ) (v : α) (l : List (κ × α)) : setK k (f v) (l.map fun p => (p.1, f p.2)) = (setA k v l).map fun p => (p.1, f p.2) := by
  induction l with
  | nil => rfl
  | cons p l ih =>
    by_cases h : k = p.1
    · simp [setK, setA, h]
    · simp [setK, setA, h, ih]
theorem delK_map {κ α : Type} [DecidableEq κ] (f : α → Value) (k : κ) (l : List (κ × α)) : delK k (l.map fun p => (p.1, f p.2)) = (delA k l).map fun p => (p.1, f p.2) := by
  induction l with
  | nil => rfl
  | cons p l ih =>
    by_cases h : k = p.1
    · simp [delK, delA, h]
    · simp [delK, delA, h, ih]
section
variable {κ α : Type} [DecidableEq κ]
theorem getA_mem {k : κ} {l : List (κ × α)} {v : α} (h : getA k l = some v) : (k, v) ∈ l := by
  induction l with
  | nil => cases h
  | cons p l ih =>
    by_cases e : k = p.1
    · simp only [getA, e, if_true, Option.some.injEq] at h
      subst h; subst e; exact List.mem_cons_self
    · simp only [getA, e, if_false] at h
      exact List.mem_cons_of_mem _ (ih h)
theorem getA_set (k j : κ) (v : α) (l : List (κ × α)) : getA j (setA k v l) = if j = k then some v else getA j l := by
  induction l with
  | nil => by_cases h : j = k <;> simp [setA, getA, h]
  | cons p l ih =>
    by_cases h : k = p.1
    · by_cases e : j = k
      · subst e; simp [setA, getA, h]
      · have : ¬ j = p.1 := fun x => e (x.trans h.symm)
        simp [setA, getA, h, e, this]
    · by_cases e : j = p.1
      · have : ¬ j = k := fun x => h (x.symm.trans e)
        simp [setA, getA, h, e]
        intro x; exact absurd x.symm h
      · simp [setA, getA, h, e, ih]
theorem setA_mem {k : κ} {v : α} {l : List (κ × α)} {p : κ × α} (h : p ∈ setA k v l) : p = (k, v) ∨ p ∈ l := by
  induction l with
  | nil => exact .inl (by simpa [setA] using h)
  | cons q l ih =>
    by_cases e : k = q.1
    · simp only [setA, e, if_true] at h
      rcases List.mem_cons.1 h with h | h
      · exact .inl (by rw [h, e])
      · exact .inr (List.mem_cons_of_mem _ h)
    · simp only [setA, e, if_false] at h
      rcases List.mem_cons.1 h with h | h
      · exact .inr (h ▸ List.mem_cons_self)
      · rcases ih h with h | h
        · exact .inl h
        · exact .inr (List.mem_cons_of_mem _ h)
/-- keys stand once -/
def Once (l : List (κ × α)) : Prop := (l.map (·.1)).Nodup
theorem Once.set {k : κ} {v : α} {l : List (κ × α)} (h : Once l) : Once (setA k v l) := by
  unfold Once at *
  induction l with
  | nil => simp [setA]
  | cons p l ih =>
    simp only [List.map_cons, List.nodup_cons] at h
    by_cases e : k = p.1
    · simp only [setA, e, if_true, List.map_cons, List.nodup_cons]; exact h
    · simp only [setA, e, if_false, List.map_cons, List.nodup_cons]
      refine ⟨fun hm => ?_, ih h.2⟩
      obtain ⟨q, hq, he⟩ := List.mem_map.1 hm
      rcases setA_mem hq with rfl | hq
      · exact e he
      · exact h.1 (List.mem_map.2 ⟨q, hq, he⟩)
theorem Once.del {k : κ} {l : List (κ × α)} (h : Once l) : Once (delA k l) ∧ ∀ j, getA j (delA k l) = if j = k then none else getA j l := by
  unfold Once at *
  induction l with
  | nil => exact ⟨h, fun j => by simp [delA, getA]⟩
  | cons p l ih =>
    simp only [List.map_cons, List.nodup_cons] at h
    have hn : ∀ (l : List (κ × α)), p.1 ∉ l.map (·.1) → getA p.1 l = none := by
      intro l hl
      cases hg : getA p.1 l with
      | none => rfl
      | some v => exact absurd (List.mem_map.2 ⟨_, getA_mem hg, rfl⟩) hl
    by_cases e : k = p.1
    · subst e
      simp only [delA, if_true]
      refine ⟨h.2, fun j => ?_⟩
      by_cases hj : j = p.1
      · subst hj; simp [hn l h.1]
      · simp [getA, hj]
    · obtain ⟨i1, i2⟩ := ih h.2
      have hsub : ∀ q, q ∈ delA k l → q ∈ l := by
        intro q
        clear ih h hn i1 i2
        induction l with
        | nil => intro h; cases h
        | cons r l ih =>
          intro hq
          by_cases e : k = r.1
          · simp only [delA, e, if_true] at hq; exact List.mem_cons_of_mem _ hq
          · simp only [delA, e, if_false] at hq
            rcases List.mem_cons.1 hq with h | h
            · exact h ▸ List.mem_cons_self
            · exact List.mem_cons_of_mem _ (ih h)
      simp only [delA, e, if_false, List.map_cons, List.nodup_cons]
      refine ⟨⟨fun hm => ?_, i1⟩, fun j => ?_⟩
      · obtain ⟨q, hq, he⟩ := List.mem_map.1 hm
        exact h.1 (List.mem_map.2 ⟨q, hsub q hq, he⟩)
      · by_cases hj : j = p.1
        · subst hj
          have : ¬ p.1 = k := fun x => e x.symm
          simp [getA, this]
        · simp [getA, hj, i2]
end

theorem zero_int (w : World) : (zeroValue 3).run Tryz.prog w = .ok (.int .i64 0) w := by kernel_rfl
section
variable {κ α : Type} [DecidableEq κ]
theorem setA_mem' {k : κ} {v : α} {l : List (κ × α)} (ho : Once l) {p : κ × α} (h : p ∈ setA k v l) : p = (k, v) ∨ p ∈ l ∧ p.1 ≠ k := by
  unfold Once at ho
  induction l with
  | nil => exact .inl (by simpa [setA] using h)
  | cons q l ih =>
    simp only [List.map_cons, List.nodup_cons] at ho
    by_cases e : k = q.1
    · simp only [setA, e, if_true] at h
      rcases List.mem_cons.1 h with h | h
      · exact .inl (by rw [h, e])
      · exact .inr ⟨List.mem_cons_of_mem _ h, fun he => ho.1 (List.mem_map.2 ⟨p, h, he.trans e⟩)⟩
    · simp only [setA, e, if_false] at h
      rcases List.mem_cons.1 h with h | h
      · exact .inr ⟨h ▸ List.mem_cons_self, fun he => e (h ▸ he.symm)⟩
      · rcases ih ho.2 h with h | h
        · exact .inl h
        · exact .inr ⟨List.mem_cons_of_mem _ h.1, h.2⟩
theorem setA_pairwise {k : κ} {v : α} {R : κ × α → κ × α → Prop} : ∀ {l : List (κ × α)}, Once l → l.Pairwise R → (∀ p ∈ l, p.1 ≠ k → R (k, v) p ∧ R p (k, v)) → (setA k v l).Pairwise R := by
  intro l
  induction l with
  | nil => intro _ _ _; simp [setA]
  | cons q l ih =>
    intro ho hp hR
    have ho' := ho
    unfold Once at ho
    simp only [List.map_cons, List.nodup_cons] at ho
    obtain ⟨hp1, hp2⟩ := List.pairwise_cons.1 hp
    by_cases e : k = q.1
    · simp only [setA, e, if_true]
      refine List.pairwise_cons.2 ⟨fun p hpl => ?_, hp2⟩
      exact e ▸ (hR p (List.mem_cons_of_mem _ hpl) fun he => ho.1 (List.mem_map.2 ⟨p, hpl, he.trans e⟩)).1
    · simp only [setA, e, if_false]
      refine List.pairwise_cons.2 ⟨fun p hpl => ?_, ih ho.2 hp2 fun p hpl hne => hR p (List.mem_cons_of_mem _ hpl) hne⟩
      rcases setA_mem hpl with rfl | h
      · exact (hR q List.mem_cons_self fun he => e he.symm).2
      · exact hp1 p h
end
theorem OwnS.more' {S S' : Nat → Prop} {w : World} {e : TypeId} {size n : Nat} {v : Value} {xs : List Value} (h : OwnS S w e size v n xs) (hS : ∀ b, S b → S' b) : OwnS S' w e size v n xs := ⟨h.1, fun b hb => hS b (h.2 b hb)⟩
section
theorem step_append_of {P : Program} {ops : Array Oper} {o : Oper} {a : Act} {w : World} {K : Act → World → Prop} {Q : Exit → Act → World → Prop} {E : Prop} (hgd : o.guard = none) (s x : Operand) (t : TypeId)
    (ho : o.op = .call { callee := .builtin .append, args := #[s, x], argTypes := #[t, t] })
    (v1 v2 : Value) (hs : a.eval s = v1) (hx : a.eval x = v2) (v' : Value) (w' : World) {ty0 : TypeId} (hrun0 : (Builtin.append_ #[t, t] ty0 #[v1, v2]).run P w = .ok v' w')
    (h : K (a.put o.dst v') w') : if Region.wanted o (yielded ops a.tmps) = true then Oper.wp P o a w K Q else E := by
  have hw : Region.wanted o (yielded ops a.tmps) = true := by simp [Region.wanted, hgd]
  have hrun : (Builtin.append_ #[t, t] o.type #[v1, v2]).run P w = .ok v' w' := hrun0
  rw [if_pos hw]
  unfold Oper.wp execOp
  simp only [ho, resolve, invoke, builtin, Sem.run_bind, Sem.run_pure, Result.andThen_ok, List.map_toArray, List.map_cons, List.map_nil, hs, hx, hrun]
  exact h
end
section
variable {P : Program} (w : World)
theorem step_append_rd {ops : Array Oper} {o : Oper} {a : Act} {K : Act → World → Prop} {Q : Exit → Act → World → Prop} {E : Prop} (hgd : o.guard = none) (s x : Operand) (t : TypeId)
    (ho : o.op = .call { callee := .builtin .append, args := #[s, x], argTypes := #[t, t] })
    (base : Nat) (e : TypeId) (i : TypeInfo) (z : Value) (size bytes : Nat) (ht : P.underlying t = some (.slice e)) (hi : P.info? e = some i) (hz : i.zero = some z)
    (hsize : i.size = size) (hby : i.bytes = bytes) (hzs : z.cells.size = size) (hsz : 0 < size)
    (v : Value) (n : Nat) (xs : List Value) (hs : a.eval s = v) (hown : w.ownsRow base e size v n xs)
    (S : Nat → Prop) (A : Option Addr) (m c : Nat) (news : List Value) (hx : a.eval x = .slice A m c) (hr : Rd S w size A m news) (h1 : ∀ u ∈ news, u.oneCell' = true)
    (h63 : n + m ≤ maxLen) (hbytes : (n + m) * bytes ≤ 140737488355328) (hbase : base ≤ w.heap.size) (N : Nat) (hN : n + m = N) (ys : List Value) (hys : xs ++ news = ys)
    (h : ∀ A' c' w', w'.ownsRow base e size (.slice A' N c') N ys → w.grownBy w' v.ownBlock → ((Value.slice A' N c').ownBlock = v.ownBlock ∨ (Value.slice A' N c').ownBlock = some w.heap.size) → K (a.put o.dst (.slice A' N c')) w') :
    if Region.wanted o (yielded ops a.tmps) = true then Oper.wp P o a w K Q else E := by
  have hw : Region.wanted o (yielded ops a.tmps) = true := by simp [Region.wanted, hgd]
  rw [if_pos hw]
  exact wp_append_rd w s x t ho base e i z size bytes ht hi hz hsize hby hzs hsz v n xs hs hown S A m c news hx hr h1 h63 hbytes hbase (fun v' w' h2 h3 h4 => by
    subst hN; subst hys
    obtain ⟨A', c', rfl, _, _⟩ := own_form h2
    exact h A' c' w' h2 h3 h4)
end


theorem wpList_append_of {P : Program} {ops : Array Oper} {rest : List Oper} {o : Oper} {a : Act} {w : World} {Q : Exit → Act → World → Prop} (hgd : o.guard = none) (s x : Operand) (t : TypeId)
    (ho : o.op = .call { callee := .builtin .append, args := #[s, x], argTypes := #[t, t] })
    (v1 v2 : Value) (hs : a.eval s = v1) (hx : a.eval x = v2) (v' : Value) (w' : World) (hrun : (Builtin.append_ #[t, t] o.type #[v1, v2]).run P w = .ok v' w')
    (h : wpList P ops Q rest (a.put o.dst v') w') : wpList P ops Q (o :: rest) a w :=
  wpList_plain hgd fun K hK => by
    unfold Oper.wp execOp
    simp only [ho, resolve, invoke, builtin, Sem.run_bind, Sem.run_pure, Result.andThen_ok, List.map_toArray, List.map_cons, List.map_nil, hs, hx, hrun]
    exact hK _ _ h


end Go.Proofs.YtphglnenafdkaaaGreatDoor

