/- Texts of the proof, joined: KBytes, KHelp, KPut, KPut2. -/
import Derived.Test.YtbnpidmlcjofiaaDoorJ03
import Derived.Test.YtbnpidmlcjofiaaDoorJ02
import Derived.Deep.WholeRow
import Derived.Laws.Rows
import Derived.Laws.MakeOwn
import Derived.Laws.OwnMore
import Derived.Laws.Bits64
import Derived.Lib.AppendStr
namespace Go.Proofs.YtbnpidmlcjofiaaDoor
set_option linter.unusedVariables false
set_option linter.unusedSimpArgs false

/-- a number's bytes -/
def putF : Nat → Nat → List Nat
  | 0, n => [n]
  | k + 1, n => if 128 ≤ n then (n % 128 + 128) :: putF k (n / 128) else [n]
def putU (n : Nat) : List Nat := putF 9 n
def zig (n : Int) : Nat := if 0 ≤ n then (2 * n).toNat else (2 * (-(n + 1)) + 1).toNat
def zag (u : Nat) : Int := if u % 2 = 0 then ((u / 2 : Nat) : Int) else -((u / 2 : Nat) : Int) - 1
/-- the bytes of a text -/
def tb (s : ByteArray) : List Nat := s.data.toList.map UInt8.toNat
theorem tb_len (s : ByteArray) : (tb s).length = s.size := by unfold tb; rw [List.length_map, Array.length_toList]; rfl
def vput (v : Vl) : List Nat := if v.ok = true then (if v.k = 1 then 1 :: putU (zig v.n) else if v.k = 2 then 2 :: (putU v.s.size ++ tb v.s) else [0]) else []
def iput (i : Is) : List Nat := i.op.toNat :: putU i.n.toNat
def Pr.put (p : Pr) : List Nat := putU p.args.toNat ++ (putU p.cs.length ++ (p.cs.flatMap vput ++ (putU p.code.length ++ p.code.flatMap iput)))
/-! a reader -/
/-- a number at a place, from its byte i on: the number and how many bytes it has, or the error -/
def numF (b : List Nat) (at_ : Nat) : Nat → Nat → Nat → (Nat × Nat) ⊕ Int
  | 0, i, acc => .inr 11
  | k + 1, i, acc => match b[at_ + i]? with
    | none => .inr 3
    | some c => if i = 9 ∧ 1 < c then .inr 11
      else if c < 128 then (if 0 < i ∧ c = 0 then .inr 10 else .inl (acc + c * 128 ^ i, i + 1))
      else numF b at_ k (i + 1) (acc + c % 128 * 128 ^ i)
def num (b : List Nat) (at_ : Nat) : (Nat × Nat) ⊕ Int := numF b at_ 10 0 0
structure Rr where
  b : List Nat
  at_ : Nat
  last : Nat
  e : Int
  spot : Nat
deriving DecidableEq
def Rr.new (b : List Nat) : Rr := ⟨b, 0, 0, 0, 0⟩
def Rr.fails (r : Rr) (e : Int) : Rr := { r with e := e, spot := r.at_ }
def Rr.took (r : Rr) (n : Nat) : Rr := { r with last := r.at_, at_ := r.at_ + n }
def Rr.byte (r : Rr) : Nat × Rr := if r.e ≠ 0 then (0, r) else match r.b[r.at_]? with | none => (0, r.fails 3) | some c => (c, r.took 1)
def Rr.uint (r : Rr) : Nat × Rr := if r.e ≠ 0 then (0, r) else match num r.b r.at_ with | .inr e => (0, r.fails e) | .inl (n, k) => (n, r.took k)
def Rr.int (r : Rr) : Int × Rr := if r.e ≠ 0 then (0, r) else match num r.b r.at_ with | .inr e => (0, r.fails e) | .inl (n, k) => (zag n, r.took k)
def Rr.count (r : Rr) (most : Int) : Nat × Rr := if r.e ≠ 0 then (0, r) else match num r.b r.at_ with | .inr e => (0, r.fails e) | .inl (n, k) => if most < 0 ∨ most < n then (0, r.fails 6) else (n, r.took k)
def bt (l : List Nat) : ByteArray := ⟨(l.map UInt8.ofNat).toArray⟩
def Rr.text (r : Rr) (most : Int) : ByteArray × Rr := if r.e ≠ 0 then (⟨#[]⟩, r) else match num r.b r.at_ with | .inr e => (⟨#[]⟩, r.fails e) | .inl (n, k) => if most < 0 ∨ most < n then (⟨#[]⟩, r.fails 1) else if r.b.length < r.at_ + k + n then (⟨#[]⟩, r.fails 3) else (bt ((r.b.drop (r.at_ + k)).take n), r.took (k + n))
def Rr.fail (r : Rr) (e : Int) : Rr := if r.e = 0 ∧ e ≠ 0 then { r with e := e, spot := r.last } else r
def Rr.end_ (r : Rr) : Rr := if r.e = 0 ∧ r.at_ < r.b.length then r.fails 4 else r
def Rr.rest (r : Rr) : Nat := if r.e ≠ 0 then 0 else r.b.length - r.at_
/-- the value that comes next -/
def Rr.take (r : Rr) : Vl × Rr :=
  let (k, r1) := r.byte
  if k = 0 then (vl0, r1)
  else if k = 1 then (let (n, r2) := r1.int; (if r2.e = 0 then ⟨1, n, ⟨#[]⟩⟩ else vl0, r2))
  else if k = 2 then (let (s, r2) := r1.text 64; if okT s = true then (if r2.e = 0 then ⟨2, 0, s⟩ else vl0, r2) else (vl0, r2.fail 20))
  else (vl0, r1.fail 20)
/-- the constants -/
def getC : Nat → Rr → List Vl → (Rr × List Vl) ⊕ (Int × Nat)
  | 0, r, l => .inl (r, l)
  | k + 1, r, l => if r.e ≠ 0 then .inl (r, l) else
    let (v, r1) := r.take
    if r1.e = 0 ∧ v.k = 0 then .inr (51, r.at_) else getC k r1 (l ++ [v])
/-- the code; where the first operand stands that is too great -/
def getI : Nat → Rr → List Is → Option Nat → Rr × List Is × Option Nat
  | 0, r, l, w => (r, l, w)
  | k + 1, r, l, w => if r.e ≠ 0 then (r, l, w) else
    let (op, r1) := r.byte
    let (n, r2) := r1.uint
    getI k r2 (l ++ [⟨op, ((min n 255 : Nat) : Int)⟩]) (if 255 < n ∧ w = none then some r1.at_ else w)
def getP (b : List Nat) : Pr ⊕ (Int × Nat) :=
  let (a, r) := (Rr.new b).count 8
  let (n, r) := r.count 32
  match getC n r [] with
  | .inr e => .inr e
  | .inl (r, cs) =>
    let (m, r) := r.count 256
    let (r, code, wide) := getI m r [] none
    let r := r.end_
    if r.e ≠ 0 then .inr (r.e, r.spot)
    else match wide with
    | some w => .inr (54, w)
    | none => let p : Pr := ⟨a, cs, code⟩; if p.check.1 ≠ 0 then .inr (p.check.1, p.check.2.toNat) else .inl p
/-! laws -/
theorem putF_len (k : Nat) : ∀ n, 1 ≤ (putF k n).length ∧ (putF k n).length ≤ k + 1 := by
  induction k with
  | zero => intro n; simp [putF]
  | succ k ih =>
    intro n
    unfold putF
    split
    · have := ih (n / 128); simp; omega
    · simp
theorem putF_lt (k : Nat) : ∀ n, n < 128 ^ k * 2 → ∀ x ∈ putF k n, x < 256 := by
  induction k with
  | zero => intro n h x hx; simp [putF] at hx; simp at h; omega
  | succ k ih =>
    intro n h x hx
    unfold putF at hx
    split at hx
    · rcases List.mem_cons.1 hx with rfl | hx
      · omega
      · exact ih (n / 128) (by rw [Nat.pow_succ] at h; omega) x hx
    · simp at hx; omega
theorem num_putF (b : List Nat) (at_ : Nat) : ∀ (k n i acc : Nat), i + k = 9 → n < 128 ^ k * 2 → (0 < i → 0 < n) → (∀ j c, (putF k n)[j]? = some c → b[at_ + i + j]? = some c) → numF b at_ (k + 1) i acc = .inl (acc + n * 128 ^ i, i + (putF k n).length) := by
  intro k
  induction k with
  | zero =>
    intro n i acc hi hn hp hb
    simp at hn
    have h0 := hb 0 n (by simp [putF])
    unfold numF
    rw [show at_ + i = at_ + i + 0 by rfl, h0]
    simp only
    rw [if_neg (by omega), if_pos (by omega), if_neg (by omega)]
    simp [putF]
  | succ k ih =>
    intro n i acc hi hn hp hb
    unfold putF at hb ⊢
    by_cases h : 128 ≤ n
    · rw [if_pos h] at hb ⊢
      have h0 := hb 0 (n % 128 + 128) (by simp)
      unfold numF
      rw [show at_ + i = at_ + i + 0 by rfl, h0]
      simp only
      rw [if_neg (by omega), if_neg (by omega)]
      rw [ih (n / 128) (i + 1) _ (by omega) (by rw [Nat.pow_succ] at hn; omega) (by omega) (fun j c hj => by
        have := hb (j + 1) c (by simpa using hj)
        rwa [show at_ + (i + 1) + j = at_ + i + (j + 1) by omega])]
      have e1 : (n % 128 + 128) % 128 = n % 128 := by omega
      rw [e1]
      congr 1
      · congr 1
        · rw [Nat.pow_succ]
          have : n * 128 ^ i = n % 128 * 128 ^ i + n / 128 * (128 ^ i * 128) := by
            have h2 := Nat.div_add_mod n 128
            calc n * 128 ^ i = (128 * (n / 128) + n % 128) * 128 ^ i := by rw [h2]
              _ = n % 128 * 128 ^ i + n / 128 * (128 ^ i * 128) := by rw [Nat.add_mul, Nat.add_comm, Nat.mul_comm 128, Nat.mul_assoc, Nat.mul_comm 128]
          omega
        · simp; omega
    · rw [if_neg h] at hb ⊢
      have h0 := hb 0 n (by simp)
      unfold numF
      rw [show at_ + i = at_ + i + 0 by rfl, h0]
      simp only
      rw [if_neg (by omega), if_pos (by omega), if_neg (by omega)]
      simp
theorem num_put (pre post : List Nat) (n : Nat) (hn : n < 18446744073709551616) : num (pre ++ (putU n ++ post)) pre.length = .inl (n, (putU n).length) := by
  unfold num
  have h9 : n < 128 ^ 9 * 2 := by
    have : 128 ^ 9 * 2 = 18446744073709551616 := by decide
    omega
  have := num_putF (pre ++ (putU n ++ post)) pre.length 9 n 0 0 rfl h9 (by omega) (fun j c hj => by
    rw [Nat.add_zero, List.getElem?_append_right (by omega), Nat.add_sub_cancel_left, List.getElem?_append_left (by
      have := (List.getElem?_eq_some_iff.1 hj).1; exact this)]
    exact hj)
  simpa [putU] using this
theorem zag_zig (n : Int) : zag (zig n) = n := by
  unfold zag zig
  by_cases h : 0 ≤ n
  · rw [if_pos h, if_pos (by omega)]; omega
  · rw [if_neg h, if_neg (by omega)]; omega
theorem zig_lt {n : Int} (h1 : -9223372036854775808 ≤ n) (h2 : n ≤ 9223372036854775807) : zig n < 18446744073709551616 := by
  unfold zig; split <;> omega
theorem bt_tb (s : ByteArray) : bt (tb s) = s := by
  unfold bt tb
  rw [List.map_map]
  have : (UInt8.ofNat ∘ UInt8.toNat) = id := by funext c; simp
  rw [this, List.map_id]

end Go.Proofs.YtbnpidmlcjofiaaDoor

namespace Go.Proofs.YtbnpidmlcjofiaaDoor
open Go.RowKit
set_option linter.unusedVariables false
set_option linter.unusedSimpArgs false

theorem bytes_dec (a b : ByteArray) : (a.toList == b.toList) = decide (a = b) := by
  by_cases h : a = b
  · subst h; simp
  · rw [decide_eq_false h]
    exact Bool.eq_false_iff.2 fun e => h (ba_inj (by simpa using e))
def Vl.cells (v : Vl) : List Value := [.int .i64 v.k, .int .i64 v.n, .string v.s]
def Is.cells (i : Is) : List Value := [.int .i64 i.op, .int .i64 i.n]
def vcells (l : List Vl) : List Value := l.flatMap Vl.cells
def icells (l : List Is) : List Value := l.flatMap Is.cells
theorem flat_at {α : Type} (f : α → List Value) (sz : Nat) (hf : ∀ a, (f a).length = sz) (l : List α) (k j : Nat) (h : k < l.length) (hj : j < sz) : (l.flatMap f)[k * sz + j]? = (f l[k])[j]? := by
  induction l generalizing k with
  | nil => simp at h
  | cons x l ih =>
    rw [List.flatMap_cons]
    cases k with
    | zero => rw [List.getElem?_append_left (by rw [hf]; omega)]; simp
    | succ k =>
      rw [List.getElem?_append_right (by rw [hf, Nat.succ_mul]; omega), hf, show (k + 1) * sz + j - sz = k * sz + j by rw [Nat.succ_mul]; omega, ih k (by simpa using h)]
      simp
theorem flat_length {α : Type} (f : α → List Value) (sz : Nat) (hf : ∀ a, (f a).length = sz) (l : List α) : (l.flatMap f).length = l.length * sz := by
  induction l with
  | nil => simp
  | cons x l ih => rw [List.flatMap_cons, List.length_append, ih, hf, List.length_cons, Nat.succ_mul]; omega
theorem Rd.val_at {S : Nat → Prop} {w : World} {A : Option Addr} {l : List Vl} {k : Nat} (h : Rd S w 3 A l.length (vcells l)) (hk : k < l.length) : ∃ b o, A = some ⟨b, o, none⟩ ∧ b < w.heap.size ∧ w.cell? ⟨b, o + k * 3, none⟩ = some (.int .i64 l[k].k) ∧ w.cell? ⟨b, o + k * 3 + 1, none⟩ = some (.int .i64 l[k].n) ∧ w.cell? ⟨b, o + k * 3 + 2, none⟩ = some (.string l[k].s) := by
  obtain ⟨b, o, e, hS, hl, hc⟩ := Rd.at_ h hk
  have g := fun j (hj : j < 3) u (hu : (Vl.cells l[k])[j]? = some u) => hc (k * 3 + j) u (by rw [vcells, flat_at Vl.cells 3 (fun _ => rfl) l k j hk hj]; exact hu)
  simp only [← Nat.add_assoc] at g
  exact ⟨b, o, e, hl, g 0 (by omega) _ rfl, g 1 (by omega) _ rfl, g 2 (by omega) _ rfl⟩
theorem Rd.ins_at {S : Nat → Prop} {w : World} {A : Option Addr} {l : List Is} {k : Nat} (h : Rd S w 2 A l.length (icells l)) (hk : k < l.length) : ∃ b o, A = some ⟨b, o, none⟩ ∧ b < w.heap.size ∧ w.cell? ⟨b, o + k * 2, none⟩ = some (.int .i64 l[k].op) ∧ w.cell? ⟨b, o + k * 2 + 1, none⟩ = some (.int .i64 l[k].n) := by
  obtain ⟨b, o, e, hS, hl, hc⟩ := Rd.at_ h hk
  have g := fun j (hj : j < 2) u (hu : (Is.cells l[k])[j]? = some u) => hc (k * 2 + j) u (by rw [icells, flat_at Is.cells 2 (fun _ => rfl) l k j hk hj]; exact hu)
  simp only [← Nat.add_assoc] at g
  exact ⟨b, o, e, hl, g 0 (by omega) _ rfl, g 1 (by omega) _ rfl⟩
end Go.Proofs.YtbnpidmlcjofiaaDoor

namespace Go.Proofs.YtbnpidmlcjofiaaDoor
open Go.RowKit
set_option linter.unusedVariables false
set_option linter.unusedSimpArgs false

def bcells (l : List Nat) : List Value := l.map fun c => .int .u8 (c : Nat)
theorem bcells_snoc (l : List Nat) (c : Nat) : bcells (l ++ [c]) = bcells l ++ [.int .u8 (c : Nat)] := by unfold bcells; rw [List.map_append]; rfl
theorem bcells_one (l : List Nat) : ∀ u ∈ bcells l, u.oneCell' = true := fun u hu => by obtain ⟨c, _, rfl⟩ := List.mem_map.1 hu; rfl
theorem info_u8 : (Tryd.prog.info? 5).map (fun i => (i.zero, i.size, i.bytes)) = some (some (.int .u8 0), 1, 1) := by kernel_rfl
theorem u8_or (m : Nat) : bits BinOp.or IntKind.u8 (((m % 256 : Nat)) : Int) 128 = ((m % 128 + 128 : Nat) : Int) := by
  have h : ∀ x : Fin 256, bits BinOp.or IntKind.u8 ((x.val : Nat) : Int) 128 = ((x.val % 128 + 128 : Nat) : Int) := by decide +kernel
  have := h ⟨m % 256, by omega⟩
  simp only at this
  rw [this]
  congr 2
  omega
theorem u8_wrap (m : Nat) : IntKind.u8.wrap (m : Int) = ((m % 256 : Nat) : Int) := by
  simp [IntKind.wrap, IntKind.bits, IntKind.signed]
def natOf : Value → Nat
  | .int _ n => n.toNat
  | _ => 0
set_option maxHeartbeats 400000 in
theorem cloneB_any (S : Nat → Prop) (A : Option Addr) (bs : List Nat) (c : Nat) (w : World) (ha : Rd S w 1 A bs.length (bcells bs)) (hn : bs.length ≤ 140737488355000) :
    Calls Tryd.prog 53 #[.slice A bs.length c] w fun e w' => ∃ v, e = .returned v ∧ Cloned 5 1 (bcells bs) bs.length w v w' := by
  obtain ⟨i0, hi0, hz0, hz1, hz2⟩ := info_parts info_u8
  have hq := fun w a n c => eql_nil 22 5 Tryd.underlying22 w a n c
  cases A with
  | none =>
    have h0 : bs.length = 0 := by
      rcases Nat.eq_zero_or_pos bs.length with h | h
      · exact h
      · obtain ⟨_, _, h, _⟩ := ha.2 h; cases h
    obtain rfl : bs = [] := List.eq_nil_of_length_eq_zero h0
    go_enter Tryd.func53, Tryd.ntmps53
    go_wp2
    go_ret
    exact ⟨_, rfl, cloned_nil _ _ _ _ (Below.refl _ _)⟩
  | some a =>
    have hown := own_empty w 5 1
    have hr := ha.alloc (.cells #[] 5)
    go_enter Tryd.func53, Tryd.ntmps53
    go_wp2_with (at_builtin; refine wpList_append_rd _ rfl (.tmp 5) (.tmp 6) 22 rfl w.heap.size 5 i0 _ 1 1 Tryd.underlying22 hi0 hz0 hz1 hz2 rfl (by omega) (.slice (some ⟨w.heap.size, 0, none⟩) 0 0) 0 [] rfl hown S (some a) bs.length c (bcells bs) rfl hr (bcells_one bs) (by simp only [maxLen]; omega) (by omega) (by simp) ?_; intro v1 w1 hown1 hg1 hat1)
    go_ret
    exact ⟨v1, rfl, by simpa using hown1, below_of_copy hg1⟩
set_option maxRecDepth 100000 in
set_option maxHeartbeats 1000000 in
theorem putUint_any (S : Nat → Prop) (A0 : Option Addr) (c0 : Nat) (bs : List Nat) (n : Nat) (w : World) (ha : Rd S w 1 A0 bs.length (bcells bs)) (hn : n < 18446744073709551616) (hl : bs.length ≤ 140737488354000) :
    Calls Tryd.prog 70 #[.slice A0 bs.length c0, .int .u64 (n : Nat)] w fun e w' => ∃ v, e = .returned v ∧ Cloned 5 1 (bcells (bs ++ putU n)) (bs ++ putU n).length w v w' := by
  obtain ⟨ib, hb0, hb1, hb2, hb3⟩ := info_parts info_u8
  have hfit : Hid (n < 128 ^ 9 * 2) := hid (by
    have : 128 ^ 9 * 2 = 18446744073709551616 := by decide
    omega)
  have hbl := hid hl
  have hnn := hid hn
  have hcl := hid (cloneB_any S A0 bs c0 w ha (by omega))
  clear ha hn hl
  go_enter Tryd.func70, Tryd.ntmps70
  go_wp2_with fail
  refine hcl.out.mono ?_
  rintro e w2 ⟨v, rfl, hown0, hB20⟩
  obtain ⟨A, c, rfl, _⟩ := own_form hown0
  have hown2 := hid hown0
  have hB2 := hid hB20
  clear hown0 hB20 hcl
  go_wp2_with fail
  go_loopw [1, 5] (fun v t wr => ∃ (m k : Nat) (A : Option Addr) (c : Nat) (L : List Nat), v = .int .u64 (m : Nat) ∧ t = .slice A L.length c ∧ m < 128 ^ k * 2 ∧ m ≤ n ∧ L ++ putF k m = bs ++ putU n ∧ wr.ownsRow w.heap.size 5 1 (.slice A L.length c) L.length (bcells L) ∧ Below w.heap.size w wr) (fun v t _ => natOf v)
  case atStart => exact ⟨n, 9, A, c, bs, rfl, rfl, hfit.out, Nat.le_refl _, rfl, hown2.out, hB2.out⟩
  case round =>
    clear hown2 hB2
    obtain ⟨m, k, A, c, L, rfl, rfl, hm0, hmn0, hL0, hown0, hB0⟩ := hrel
    have hm := hid hm0; have hL := hid hL0; have hown := hid hown0; have hBr := hid hB0; have hmn := hid hmn0
    have hLl : Hid (L.length ≤ 140737488354010) := hid (by
      have h1 := congrArg List.length hL0
      simp only [List.length_append] at h1
      have h2 := (putF_len 9 n).2
      unfold putU at h1
      have := hbl.out
      omega)
    clear hm0 hL0 hown0 hB0 hmn0
    by_cases hge : 128 ≤ m
    · have t1 : decide (128 ≤ (m : Int)) = true := decide_eq_true (by omega)
      have t2 : decide (128 ≤ m) = true := decide_eq_true (by omega)
      obtain ⟨q, hq⟩ : ∃ q : Nat, q = m % 128 + 128 := ⟨_, rfl⟩
      have f2 : bits BinOp.or IntKind.u8 ((m : Int) % 256) 128 = (q : Int) := by rw [hq]; exact u8_or m
      have hnx : Hid (∃ k', m / 128 < 128 ^ k' * 2 ∧ (L ++ [q]) ++ putF k' (m / 128) = bs ++ putU n) := hid (by
        rw [hq]
        have h1 := hm.out
        cases k with
        | zero => simp at h1; omega
        | succ k =>
          refine ⟨k, by rw [Nat.pow_succ] at h1; omega, ?_⟩
          rw [← hL.out, List.append_assoc]
          congr 1
          rw [putF, if_pos hge]; rfl)
      have hdm : Hid (m / 128 < m ∧ m / 128 ≤ n) := hid (by have := hmn.out; omega)
      clear hge hq
      go_wp2_with (
    at_builtin
    refine wpList_append_rd _ rfl (.tmp 10) (.tmp 14) 22 rfl w.heap.size 5 ib _ 1 1 Tryd.underlying22 hb0 hb1 hb2 hb3 rfl (by omega) (.slice A L.length c) L.length (bcells L) rfl (hown.out.alloc _) (fun b => b = wr.heap.size) (some ⟨wr.heap.size, 0, none⟩) 1 1 [.int .u8 (((q : Nat) : Int))] rfl (Rd.new wr 5 1 1 #[.int .u8 (((q : Nat) : Int))] _ rfl rfl) (by intro u hu; simp at hu; subst hu; rfl) (by simp only [maxLen]; have := hLl.out; omega) (by have := hLl.out; omega) (by have := hBr.out.size; simp; omega) ?_
    intro v9 w9 hown9 hg9 hat9
    have hB9 := hid ((hBr.out.alloc hBr.out.size (.cells #[.int .u8 (((q : Nat) : Int))] 5)).grown hg9 (by have := hBr.out.size; simp; omega) fun k hk => (hown.out.lt k hk).1)
    obtain ⟨A9, c9, rfl, _⟩ := own_form hown9
    rw [← bcells_snoc] at hown9
    have hown9 := hid hown9
    clear hg9 hat9)
      obtain ⟨k', hk1, hk2⟩ := hnx.out
      refine ⟨⟨m / 128, k', A9, c9, L ++ [q], by simp, by simp, hk1, hdm.out.2, hk2, by simpa using hown9.out, hB9.out⟩, ?_⟩
      simp [natOf]
      exact hdm.out.1
    · have t1 : decide (128 ≤ (m : Int)) = false := decide_eq_false (by omega)
      have t2 : decide (128 ≤ m) = false := decide_eq_false (by omega)
      have f1 : IntKind.u8.wrap (m : Int) = (m : Int) := by rw [u8_wrap]; congr 1; omega
      have hfin : Hid (L ++ [m] = bs ++ putU n) := hid (by
        rw [← hL.out]
        congr 1
        cases k with
        | zero => rfl
        | succ k => rw [putF, if_neg hge])
      clear hge
      go_wp2_with (
    at_builtin
    refine wpList_append_rd _ rfl (.tmp 18) (.tmp 21) 22 rfl w.heap.size 5 ib _ 1 1 Tryd.underlying22 hb0 hb1 hb2 hb3 rfl (by omega) (.slice A L.length c) L.length (bcells L) rfl (hown.out.alloc _) (fun b => b = wr.heap.size) (some ⟨wr.heap.size, 0, none⟩) 1 1 [.int .u8 (((m : Nat) : Int))] rfl (Rd.new wr 5 1 1 #[.int .u8 (((m : Nat) : Int))] _ rfl rfl) (by intro u hu; simp at hu; subst hu; rfl) (by simp only [maxLen]; have := hLl.out; omega) (by have := hLl.out; omega) (by have := hBr.out.size; simp; omega) ?_
    intro v9 w9 hown9 hg9 hat9
    have hB9 := hid ((hBr.out.alloc hBr.out.size (.cells #[.int .u8 (((m : Nat) : Int))] 5)).grown hg9 (by have := hBr.out.size; simp; omega) fun k hk => (hown.out.lt k hk).1)
    obtain ⟨A9, c9, rfl, _⟩ := own_form hown9
    rw [← bcells_snoc] at hown9
    have hown9 := hid hown9
    clear hg9 hat9)
      go_ret
      refine ⟨_, rfl, ?_, hB9.out⟩
      rw [← hfin.out]
      simpa using hown9.out
set_option maxRecDepth 100000 in
set_option maxHeartbeats 1000000 in
theorem rputUint_any (S : Nat → Prop) (A0 : Option Addr) (c0 : Nat) (bs : List Nat) (n : Nat) (w : World) (ha : Rd S w 1 A0 bs.length (bcells bs)) (hn : n < 18446744073709551616) (hl : bs.length ≤ 140737488354000) :
    Calls Tryd.prog 71 #[.slice A0 bs.length c0, .int .u64 (n : Nat)] w fun e w' => ∃ v, e = .returned v ∧ Cloned 5 1 (bcells (bs ++ putU n)) (bs ++ putU n).length w v w' := by
  obtain ⟨ib, hb0, hb1, hb2, hb3⟩ := info_parts info_u8
  have hfit : Hid (n < 128 ^ 9 * 2) := hid (by
    have : 128 ^ 9 * 2 = 18446744073709551616 := by decide
    omega)
  have hbl := hid hl
  have hnn := hid hn
  have hra := hid (ha.alloc (.cells #[] 5))
  clear ha hn hl
  go_enter Tryd.func71, Tryd.ntmps71
  go_wp2_with (
    at_builtin
    refine wpList_append_rd _ rfl (.tmp 6) (.tmp 7) 22 rfl w.heap.size 5 ib _ 1 1 Tryd.underlying22 hb0 hb1 hb2 hb3 rfl (by omega) (.slice (some ⟨w.heap.size, 0, none⟩) 0 0) 0 [] rfl (own_empty w 5 1) S A0 bs.length c0 (bcells bs) rfl hra.out (bcells_one bs) (by simp only [maxLen]; have := hbl.out; omega) (by have := hbl.out; omega) (by simp) ?_
    intro v2 w2 hown0 hg0 hat0
    have hB20 := below_of_copy hg0
    obtain ⟨A, c, rfl, _⟩ := own_form hown0
    have hown2 : Hid (w2.ownsRow w.heap.size 5 1 (.slice A bs.length c) bs.length (bcells bs)) := hid (by simpa using hown0)
    have hB2 := hid hB20
    rw [Nat.zero_add]
    clear hown0 hB20 hg0 hat0)
  go_loopw [1, 5] (fun v t wr => ∃ (m k : Nat) (A : Option Addr) (c : Nat) (L : List Nat), v = .int .u64 (m : Nat) ∧ t = .slice A L.length c ∧ m < 128 ^ k * 2 ∧ m ≤ n ∧ L ++ putF k m = bs ++ putU n ∧ wr.ownsRow w.heap.size 5 1 (.slice A L.length c) L.length (bcells L) ∧ Below w.heap.size w wr) (fun v t _ => natOf v)
  case atStart => exact ⟨n, 9, A, c, bs, rfl, rfl, hfit.out, Nat.le_refl _, rfl, hown2.out, hB2.out⟩
  case round =>
    clear hown2 hB2
    obtain ⟨m, k, A, c, L, rfl, rfl, hm0, hmn0, hL0, hown0, hB0⟩ := hrel
    have hm := hid hm0; have hL := hid hL0; have hown := hid hown0; have hBr := hid hB0; have hmn := hid hmn0
    have hLl : Hid (L.length ≤ 140737488354010) := hid (by
      have h1 := congrArg List.length hL0
      simp only [List.length_append] at h1
      have h2 := (putF_len 9 n).2
      unfold putU at h1
      have := hbl.out
      omega)
    clear hm0 hL0 hown0 hB0 hmn0
    by_cases hge : 128 ≤ m
    · have t1 : decide (127 < (m : Int)) = true := decide_eq_true (by omega)
      have t2 : decide (127 < m) = true := decide_eq_true (by omega)
      obtain ⟨q, hq⟩ : ∃ q : Nat, q = m % 128 + 128 := ⟨_, rfl⟩
      have f1 : ((m : Int)).tmod 128 = ((m % 128 : Nat) : Int) := by rw [Int.tmod_eq_emod_of_nonneg (by omega)]; rfl
      have f2 : IntKind.u8.wrap (((m % 128 : Nat)) : Int) = ((m % 128 : Nat) : Int) := by rw [u8_wrap]; congr 1; omega
      have f3 : IntKind.u8.wrap (((m % 128 : Nat) : Int) + 128) = (q : Int) := by rw [show (((m % 128 : Nat) : Int) + 128) = ((m % 128 + 128 : Nat) : Int) by omega, u8_wrap, hq]; congr 1; omega
      have f5 : ((m : Int)) % 128 + 128 = (q : Int) := by rw [hq]; omega
      have f4 : IntKind.u64.wrap ((m : Int) / 128) = ((m / 128 : Nat) : Int) := by rw [IntKind.wrap_u64]; have := hmn.out; have := hnn.out; omega
      have hnx : Hid (∃ k', m / 128 < 128 ^ k' * 2 ∧ (L ++ [q]) ++ putF k' (m / 128) = bs ++ putU n) := hid (by
        rw [hq]
        have h1 := hm.out
        cases k with
        | zero => simp at h1; omega
        | succ k =>
          refine ⟨k, by rw [Nat.pow_succ] at h1; omega, ?_⟩
          rw [← hL.out, List.append_assoc]
          congr 1
          rw [putF, if_pos hge]; rfl)
      have hdm : Hid (m / 128 < m ∧ m / 128 ≤ n) := hid (by have := hmn.out; omega)
      clear hge hq
      go_wp2_with (
    at_builtin
    refine wpList_append_rd _ rfl (.tmp 11) (.tmp 16) 22 rfl w.heap.size 5 ib _ 1 1 Tryd.underlying22 hb0 hb1 hb2 hb3 rfl (by omega) (.slice A L.length c) L.length (bcells L) rfl (hown.out.alloc _) (fun b => b = wr.heap.size) (some ⟨wr.heap.size, 0, none⟩) 1 1 [.int .u8 (((q : Nat) : Int))] rfl (Rd.new wr 5 1 1 #[.int .u8 (((q : Nat) : Int))] _ rfl rfl) (by intro u hu; simp at hu; subst hu; rfl) (by simp only [maxLen]; have := hLl.out; omega) (by have := hLl.out; omega) (by have := hBr.out.size; simp; omega) ?_
    intro v9 w9 hown9 hg9 hat9
    have hB9 := hid ((hBr.out.alloc hBr.out.size (.cells #[.int .u8 (((q : Nat) : Int))] 5)).grown hg9 (by have := hBr.out.size; simp; omega) fun k hk => (hown.out.lt k hk).1)
    obtain ⟨A9, c9, rfl, _⟩ := own_form hown9
    rw [← bcells_snoc] at hown9
    have hown9 := hid hown9
    clear hg9 hat9)
      obtain ⟨k', hk1, hk2⟩ := hnx.out
      refine ⟨⟨m / 128, k', A9, c9, L ++ [q], by simp, by simp, hk1, hdm.out.2, hk2, by simpa using hown9.out, hB9.out⟩, ?_⟩
      simp [natOf]
      exact hdm.out.1
    · have t1 : decide (127 < (m : Int)) = false := decide_eq_false (by omega)
      have t2 : decide (127 < m) = false := decide_eq_false (by omega)
      have f1 : IntKind.u8.wrap (m : Int) = (m : Int) := by rw [u8_wrap]; congr 1; omega
      have hfin : Hid (L ++ [m] = bs ++ putU n) := hid (by
        rw [← hL.out]
        congr 1
        cases k with
        | zero => rfl
        | succ k => rw [putF, if_neg hge])
      clear hge
      go_wp2_with (
    at_builtin
    refine wpList_append_rd _ rfl (.tmp 20) (.tmp 23) 22 rfl w.heap.size 5 ib _ 1 1 Tryd.underlying22 hb0 hb1 hb2 hb3 rfl (by omega) (.slice A L.length c) L.length (bcells L) rfl (hown.out.alloc _) (fun b => b = wr.heap.size) (some ⟨wr.heap.size, 0, none⟩) 1 1 [.int .u8 (((m : Nat) : Int))] rfl (Rd.new wr 5 1 1 #[.int .u8 (((m : Nat) : Int))] _ rfl rfl) (by intro u hu; simp at hu; subst hu; rfl) (by simp only [maxLen]; have := hLl.out; omega) (by have := hLl.out; omega) (by have := hBr.out.size; simp; omega) ?_
    intro v9 w9 hown9 hg9 hat9
    have hB9 := hid ((hBr.out.alloc hBr.out.size (.cells #[.int .u8 (((m : Nat) : Int))] 5)).grown hg9 (by have := hBr.out.size; simp; omega) fun k hk => (hown.out.lt k hk).1)
    obtain ⟨A9, c9, rfl, _⟩ := own_form hown9
    rw [← bcells_snoc] at hown9
    have hown9 := hid hown9
    clear hg9 hat9)
      go_ret
      refine ⟨_, rfl, ?_, hB9.out⟩
      rw [← hfin.out]
      simpa using hown9.out

end Go.Proofs.YtbnpidmlcjofiaaDoor

namespace Go.Proofs.YtbnpidmlcjofiaaDoor
open Go.RowKit
set_option linter.unusedVariables false
set_option linter.unusedSimpArgs false

theorem xor_ones (a : Nat) (h : a < 18446744073709551616) : a ^^^ 18446744073709551615 = 18446744073709551615 - a := by
  have h1 := congrArg BitVec.toNat (BitVec.xor_allOnes (x := BitVec.ofNat 64 a))
  rw [BitVec.toNat_xor, BitVec.toNat_not, BitVec.toNat_ofNat, BitVec.toNat_allOnes, Nat.mod_eq_of_lt (by omega)] at h1
  exact h1
theorem bcells_append (a b : List Nat) : bcells (a ++ b) = bcells a ++ bcells b := by unfold bcells; rw [List.map_append]
theorem strCells_tb (s : ByteArray) : Lib.strCells s = bcells (tb s) := by unfold Lib.strCells bcells tb; rw [List.map_map]; rfl
set_option maxRecDepth 100000 in
set_option maxHeartbeats 1000000 in
theorem putInt_any (S : Nat → Prop) (A0 : Option Addr) (c0 : Nat) (bs : List Nat) (n : Int) (w : World) (ha : Rd S w 1 A0 bs.length (bcells bs)) (hn1 : -9223372036854775808 ≤ n) (hn2 : n ≤ 9223372036854775807) (hl : bs.length ≤ 140737488354000) :
    Calls Tryd.prog 42 #[.slice A0 bs.length c0, .int .i64 n] w fun e w' => ∃ v, e = .returned v ∧ Cloned 5 1 (bcells (bs ++ putU (zig n))) (bs ++ putU (zig n)).length w v w' := by
  have hcl := hid (putUint_any S A0 c0 bs (zig n) w ha (zig_lt hn1 hn2) hl)
  obtain ⟨z, hz⟩ : ∃ z, z = zig n := ⟨_, rfl⟩
  rw [← hz] at hcl ⊢
  by_cases hp : 0 ≤ n
  · obtain ⟨m, rfl⟩ : ∃ m : Nat, n = (m : Int) := ⟨n.toNat, by omega⟩
    have hzz : z = 2 * m := by rw [hz]; unfold zig; rw [if_pos hp]; omega
    have f1 : IntKind.u64.wrap (m : Int) = (m : Int) := by rw [IntKind.wrap_u64]; omega
    have f2 : IntKind.u64.wrap ((m : Int) * 2) = (z : Int) := by rw [IntKind.wrap_u64]; omega
    have f3 : (m : Int) / 9223372036854775808 = 0 := by omega
    have f4 : IntKind.u64.wrap 0 = 0 := by decide
    have f5 : bits BinOp.xor IntKind.u64 (z : Int) 0 = (z : Int) := by have := bits_xor_u64_nat z 0 (by omega) (by omega); simpa using this
    clear hzz hp
    clear hz hn1 hn2 ha hl
    go_enter Tryd.func42, Tryd.ntmps42
    go_wp2_with (
      refine hcl.out.mono ?_
      rintro e w2 ⟨v, rfl, hown0⟩
      have hown2 := hid hown0
      clear hown0 hcl)
    go_ret
    exact ⟨_, rfl, hown2.out⟩
  · obtain ⟨p, hp1⟩ : ∃ p : Nat, (p : Int) = n + 18446744073709551616 := ⟨(n + 18446744073709551616).toNat, by omega⟩
    obtain ⟨q, hq1⟩ : ∃ q : Nat, (q : Int) = 2 * n + 18446744073709551616 := ⟨(2 * n + 18446744073709551616).toNat, by omega⟩
    have hzz : z + q = 18446744073709551615 := by rw [hz]; unfold zig; rw [if_neg hp]; omega
    have f1 : IntKind.u64.wrap n = (p : Int) := by rw [IntKind.wrap_u64]; omega
    have f2 : IntKind.u64.wrap ((p : Int) * 2) = (q : Int) := by rw [IntKind.wrap_u64]; omega
    have f3 : n / 9223372036854775808 = -1 := by omega
    have f4 : IntKind.u64.wrap (-1) = 18446744073709551615 := by decide
    have f5 : bits BinOp.xor IntKind.u64 (q : Int) 18446744073709551615 = (z : Int) := by
      have := bits_xor_u64_nat q 18446744073709551615 (by omega) (by omega)
      rw [xor_ones q (by omega)] at this
      have e : 18446744073709551615 - q = z := by omega
      rw [e] at this
      exact this
    clear hzz hp hp1 hq1
    clear hz hn1 hn2 ha hl
    go_enter Tryd.func42, Tryd.ntmps42
    go_wp2_with (
      refine hcl.out.mono ?_
      rintro e w2 ⟨v, rfl, hown0⟩
      have hown2 := hid hown0
      clear hown0 hcl)
    go_ret
    exact ⟨_, rfl, hown2.out⟩
set_option maxRecDepth 100000 in
set_option maxHeartbeats 1000000 in
theorem rputInt_any (S : Nat → Prop) (A0 : Option Addr) (c0 : Nat) (bs : List Nat) (n : Int) (w : World) (ha : Rd S w 1 A0 bs.length (bcells bs)) (hn1 : -9223372036854775808 ≤ n) (hn2 : n ≤ 9223372036854775807) (hl : bs.length ≤ 140737488354000) :
    Calls Tryd.prog 44 #[.slice A0 bs.length c0, .int .i64 n] w fun e w' => ∃ v, e = .returned v ∧ Cloned 5 1 (bcells (bs ++ putU (zig n))) (bs ++ putU (zig n)).length w v w' := by
  have hcl := hid (rputUint_any S A0 c0 bs (zig n) w ha (zig_lt hn1 hn2) hl)
  obtain ⟨z, hz⟩ : ∃ z, z = zig n := ⟨_, rfl⟩
  rw [← hz] at hcl ⊢
  by_cases hp : 0 ≤ n
  · obtain ⟨m, rfl⟩ : ∃ m : Nat, n = (m : Int) := ⟨n.toNat, by omega⟩
    have hzz : z = 2 * m := by rw [hz]; unfold zig; rw [if_pos hp]; omega
    have t1 : decide (0 ≤ (m : Int)) = true := decide_eq_true hp
    have t2 : decide (0 ≤ m) = true := decide_eq_true (by omega)
    have f1 : IntKind.u64.wrap (m : Int) = (m : Int) := by rw [IntKind.wrap_u64]; omega
    have f2 : IntKind.u64.wrap (2 * (m : Int)) = (z : Int) := by rw [IntKind.wrap_u64]; omega
    clear hzz hp
    clear hz hn1 hn2 ha hl
    go_enter Tryd.func44, Tryd.ntmps44
    go_wp2_with (
      refine hcl.out.mono ?_
      rintro e w2 ⟨v, rfl, hown0⟩
      have hown2 := hid hown0
      clear hown0 hcl)
    go_ret
    exact ⟨_, rfl, hown2.out⟩
  · obtain ⟨q, hq1⟩ : ∃ q : Nat, (q : Int) = -(n + 1) := ⟨(-(n + 1)).toNat, by omega⟩
    obtain ⟨q2, hq2⟩ : ∃ q2 : Nat, q2 = 2 * q := ⟨_, rfl⟩
    have hzz : z = q2 + 1 := by rw [hz]; unfold zig; rw [if_neg hp]; omega
    have t1 : decide (0 ≤ n) = false := decide_eq_false hp
    have f0 : IntKind.i64.wrap (n + 1) = n + 1 := by rw [IntKind.wrap_i64]; omega
    have f0' : IntKind.i64.wrap (-(n + 1)) = (q : Int) := by rw [IntKind.wrap_i64]; omega
    have f1 : IntKind.u64.wrap (q : Int) = (q : Int) := by rw [IntKind.wrap_u64]; omega
    have f2 : IntKind.u64.wrap (2 * (q : Int)) = (q2 : Int) := by rw [IntKind.wrap_u64]; omega
    have f3 : IntKind.u64.wrap ((q2 : Int) + 1) = (z : Int) := by rw [IntKind.wrap_u64]; omega
    clear hzz hp hq1 hq2
    clear hz hn1 hn2 ha hl
    go_enter Tryd.func44, Tryd.ntmps44
    go_wp2_with (
      refine hcl.out.mono ?_
      rintro e w2 ⟨v, rfl, hown0⟩
      have hown2 := hid hown0
      clear hown0 hcl)
    go_ret
    exact ⟨_, rfl, hown2.out⟩
set_option maxRecDepth 100000 in
set_option maxHeartbeats 1000000 in
theorem putText_any (S : Nat → Prop) (A0 : Option Addr) (c0 : Nat) (bs : List Nat) (s : ByteArray) (w : World) (ha : Rd S w 1 A0 bs.length (bcells bs)) (hs : s.size ≤ 1000) (hl : bs.length ≤ 140737488354000) :
    Calls Tryd.prog 43 #[.slice A0 bs.length c0, .string s] w fun e w' => ∃ v, e = .returned v ∧ Cloned 5 1 (bcells (bs ++ (putU s.size ++ tb s))) (bs ++ (putU s.size ++ tb s)).length w v w' := by
  obtain ⟨ib, hb0, hb1, hb2, hb3⟩ := info_parts info_u8
  have hcl := hid (putUint_any S A0 c0 bs s.size w ha (by omega) hl)
  have hlen : Hid ((bs ++ putU s.size).length ≤ 140737488354010) := hid (by have := (putF_len 9 s.size).2; rw [List.length_append]; unfold putU; omega)
  have f1 : IntKind.u64.wrap (s.size : Int) = (s.size : Int) := by rw [IntKind.wrap_u64]; omega
  have hss := hid hs
  rw [← List.append_assoc]
  obtain ⟨L, hL⟩ : ∃ L, L = bs ++ putU s.size := ⟨_, rfl⟩
  rw [← hL] at hcl hlen ⊢
  clear hL
  clear ha hl hs
  go_enter Tryd.func43, Tryd.ntmps43
  go_wp2_with (first
    | (
      refine hcl.out.mono ?_
      rintro e w2 ⟨v, rfl, hown0, hB0⟩
      obtain ⟨A2, c2, rfl, _⟩ := own_form hown0
      have hown2 := hid hown0
      have hB2 := hid hB0
      have hsz := hid hB0.size
      clear hown0 hB0 hcl)
    | (
      at_builtin
      refine Lib.wpList_append_own_string _ rfl (.tmp 9) (.tmp 10) 22 9 rfl w.heap.size 5 ib Tryd.underlying22 Tryd.underlying9 hb0 hb1 hb2 hb3 _ L.length (bcells L) rfl hown2.out s rfl (by simp only [maxLen]; have := hlen.out; have := hss.out; omega) (by have := hlen.out; have := hss.out; omega) hsz.out ?_
      intro v9 w9 hown9 hg9 hat9
      have hB9 := hid (hB2.out.grown hg9 hsz.out fun k hk => (hown2.out.lt k hk).1)
      have hown9 := hid hown9
      clear hg9 hat9))
  go_ret
  refine ⟨_, rfl, ?_, hB9.out⟩
  have h9 := hown9.out
  rw [strCells_tb, ← bcells_append] at h9
  have e : L.length + s.size = (L ++ tb s).length := by simp only [List.length_append, tb_len]
  rw [e] at h9
  exact h9
set_option maxRecDepth 100000 in
set_option maxHeartbeats 1000000 in
theorem rputText_any (S : Nat → Prop) (A0 : Option Addr) (c0 : Nat) (bs : List Nat) (s : ByteArray) (w : World) (ha : Rd S w 1 A0 bs.length (bcells bs)) (hs : s.size ≤ 1000) (hl : bs.length ≤ 140737488354000) :
    Calls Tryd.prog 45 #[.slice A0 bs.length c0, .string s] w fun e w' => ∃ v, e = .returned v ∧ Cloned 5 1 (bcells (bs ++ (putU s.size ++ tb s))) (bs ++ (putU s.size ++ tb s)).length w v w' := by
  obtain ⟨ib, hb0, hb1, hb2, hb3⟩ := info_parts info_u8
  have hcl := hid (rputUint_any S A0 c0 bs s.size w ha (by omega) hl)
  have hlen : Hid ((bs ++ putU s.size).length ≤ 140737488354010) := hid (by have := (putF_len 9 s.size).2; rw [List.length_append]; unfold putU; omega)
  have f1 : IntKind.u64.wrap (s.size : Int) = (s.size : Int) := by rw [IntKind.wrap_u64]; omega
  have hss := hid hs
  rw [← List.append_assoc]
  obtain ⟨L, hL⟩ : ∃ L, L = bs ++ putU s.size := ⟨_, rfl⟩
  rw [← hL] at hcl hlen ⊢
  clear hL
  clear ha hl hs
  go_enter Tryd.func45, Tryd.ntmps45
  go_wp2_with (first
    | (
      refine hcl.out.mono ?_
      rintro e w2 ⟨v, rfl, hown0, hB0⟩
      obtain ⟨A2, c2, rfl, _⟩ := own_form hown0
      have hown2 := hid hown0
      have hB2 := hid hB0
      have hsz := hid hB0.size
      clear hown0 hB0 hcl)
    | (
      at_builtin
      refine Lib.wpList_append_own_string _ rfl (.tmp 9) (.tmp 10) 22 9 rfl w.heap.size 5 ib Tryd.underlying22 Tryd.underlying9 hb0 hb1 hb2 hb3 _ L.length (bcells L) rfl hown2.out s rfl (by simp only [maxLen]; have := hlen.out; have := hss.out; omega) (by have := hlen.out; have := hss.out; omega) hsz.out ?_
      intro v9 w9 hown9 hg9 hat9
      have hB9 := hid (hB2.out.grown hg9 hsz.out fun k hk => (hown2.out.lt k hk).1)
      have hown9 := hid hown9
      clear hg9 hat9))
  go_ret
  refine ⟨_, rfl, ?_, hB9.out⟩
  have h9 := hown9.out
  rw [strCells_tb, ← bcells_append] at h9
  have e : L.length + s.size = (L ++ tb s).length := by simp only [List.length_append, tb_len]
  rw [e] at h9
  exact h9

end Go.Proofs.YtbnpidmlcjofiaaDoor

