/- InterpLimits: the plain law: a loop that tells, writes or reads n things ends well just if that is within the limits. -/
import Derived.Test.YtdmogoaaecdbaaaGreatDoorJ21
namespace Go.Proofs.YtdmogoaaecdbaaaGreatDoor
open Go.RowKit
set_option linter.unusedVariables false
set_option linter.unusedSimpArgs false

def kB : ByteArray := ⟨#[107]⟩
def limMid (k : Nat) : List Is := if k = 0 then [⟨29, 0⟩, ⟨1, 1⟩, ⟨3, 0⟩, ⟨4, 0⟩, ⟨3, 0⟩, ⟨4, 0⟩] else if k = 1 then [⟨25, 0⟩, ⟨1, 0⟩, ⟨24, 0⟩, ⟨1, 1⟩, ⟨22, 0⟩, ⟨1, 1⟩] else [⟨25, 0⟩, ⟨1, 0⟩, ⟨24, 0⟩, ⟨20, 0⟩, ⟨4, 0⟩, ⟨1, 1⟩]
def limCode (k : Nat) : List Is := [⟨2, 0⟩, ⟨3, 0⟩, ⟨19, 14⟩, ⟨3, 0⟩] ++ limMid k ++ [⟨8, 0⟩, ⟨3, 0⟩, ⟨4, 0⟩, ⟨18, 1⟩, ⟨4, 0⟩, ⟨31, 0⟩]
def limPr (k : Nat) : Pr := ⟨1, [wrdV kB, numVl 1, numVl 0], limCode k⟩
def limMost (k : Nat) : Nat := if k = 0 then 16 else if k = 1 then 32 else 64
def limErr (k : Nat) : Int := if k = 0 then 75 else if k = 1 then 77 else 78
def kk (v : Nat) : ByteArray := digS v ++ kB
def kl (v : Nat) : List UInt8 := if v < 10 then [UInt8.ofNat (48 + v), 107] else [UInt8.ofNat (48 + v / 10), UInt8.ofNat (48 + v % 10), 107]
theorem dig_small {v : Nat} (h : v < 100) : Lib.itoa (v : Int) ++ [107] = kl v := by
  unfold Lib.itoa kl
  rw [if_neg (by omega), Int.toNat_natCast]
  by_cases h1 : v < 10
  · rw [if_pos h1, Lib.decDigits, dif_pos h1]; rfl
  · rw [if_neg h1, Lib.decDigits, dif_neg h1, Lib.decDigits, dif_pos (by omega)]; rfl
theorem kk_data {v : Nat} (h : v < 100) : (kk v).data.toList = kl v := by
  unfold kk digS kB
  rw [← dig_small h]
  simp [ByteArray.toList_data_append]
theorem kk_size {v : Nat} (h : v < 100) : (digS v).size + kB.size ≤ 64 := by
  have h1 : (kk v).size = (digS v).size + kB.size := by unfold kk; exact ByteArray.size_append
  have h2 : (kk v).size = (kk v).data.toList.length := by simp
  rw [kk_data h] at h2
  have h3 : (kl v).length ≤ 3 := by unfold kl; split <;> simp
  omega
theorem kl_ok : ∀ v < 81, ((kl v).all keyB && decide (1 ≤ (kl v).length) && decide ((kl v).length ≤ 32)) = true := by decide +kernel
theorem kl_inj : ∀ a < 81, ∀ b < 81, kl a = kl b → a = b := by decide +kernel
theorem kk_ok {v : Nat} (h : v < 81) : validK (kk v) = true := by
  have h1 := kl_ok v h
  unfold validK
  rw [ByteArray.toList_eq, kk_data (by omega)]
  have h2 : (kk v).size = (kk v).data.toList.length := by simp
  rw [kk_data (by omega)] at h2
  rw [h2]; exact h1
theorem kk_inj {a b : Nat} (ha : a < 81) (hb : b < 81) (h : kk a = kk b) : a = b := kl_inj a ha b hb (by rw [← kk_data (by omega), ← kk_data (by omega), h])
section
variable {p : Pr} {args : List Vl} {src : List Kv} {m : Mc} {a b : Vl} {r : List Vl}
theorem lon_arg (n : Int) : onP p args src m ⟨2, n⟩ = .ok { m with st := args.getD n.toNat vl0 :: m.st, at_ := m.at_ + 1 } := rfl
theorem lon_con (n : Int) : onP p args src m ⟨1, n⟩ = .ok { m with st := p.cs.getD n.toNat vl0 :: m.st, at_ := m.at_ + 1 } := rfl
theorem lon_dup : onP p args src m ⟨3, 0⟩ = .ok { m with st := m.st.headD vl0 :: m.st, at_ := m.at_ + 1 } := rfl
theorem lon_drop : onP p args src m ⟨4, 0⟩ = .ok { m with st := m.st.tail, at_ := m.at_ + 1 } := rfl
theorem lon_jump (n : Int) : onP p args src m ⟨18, n⟩ = .ok { m with at_ := n.toNat } := rfl
theorem lon_jz (n v : Int) (hs : m.st = numVl v :: r) : onP p args src m ⟨19, n⟩ = .ok { m with st := r, at_ := if v = 0 then n.toNat else m.at_ + 1 } := by
  unfold onP
  rw [hs]; rfl
theorem lon_sub (x y : Int) (hs : m.st = numVl y :: numVl x :: r) (h : inR (x - y) = true) : onP p args src m ⟨8, 0⟩ = .ok { m with st := numVl (x - y) :: r, at_ := m.at_ + 1 } := by
  have h2 : arithP 8 x y = .ok (x - y) := by
    unfold arithP
    rw [if_neg (by decide), if_pos rfl, if_pos h]
  have h3 : twoP 8 m (numVl y) (numVl x) r = .ok { m with st := numVl (x - y) :: r } := by
    unfold twoP
    rw [if_neg (by decide), if_neg (by decide), if_neg (by decide), if_neg (by decide), if_pos ⟨rfl, rfl⟩, if_neg (by decide), if_neg (by decide)]
    show (match arithP 8 x y with | .ok n => _ | .error e => _) = _
    rw [h2]
  unfold onP
  rw [hs]
  show (twoP 8 m (numVl y) (numVl x) r).map _ = _
  rw [h3]; rfl
theorem lon_text (x : Int) (hs : m.st = numVl x :: r) : onP p args src m ⟨25, 0⟩ = .ok { m with st := wrdV (digS x) :: r, at_ := m.at_ + 1 } := by
  unfold onP
  rw [hs]; rfl
theorem lon_cat (x y : ByteArray) (hs : m.st = wrdV y :: wrdV x :: r) (h : x.size + y.size ≤ 64) : onP p args src m ⟨24, 0⟩ = .ok { m with st := wrdV (x ++ y) :: r, at_ := m.at_ + 1 } := by
  have h3 : twoP 24 m (wrdV y) (wrdV x) r = .ok { m with st := wrdV (x ++ y) :: r } := by
    unfold twoP
    rw [if_neg (by decide), if_neg (by decide), if_pos rfl, if_pos ⟨rfl, rfl⟩, if_pos (show (wrdV x).s.size + (wrdV y).s.size ≤ 64 from h)]; rfl
  unfold onP
  rw [hs]
  show (twoP 24 m (wrdV y) (wrdV x) r).map _ = _
  rw [h3]; rfl
theorem lon_emit (v : Int) (hs : m.st = numVl v :: r) : onP p args src m ⟨29, 0⟩ = if 16 ≤ m.out.length then .error (75, 0) else .ok { m with st := r, out := m.out ++ [numVl v], at_ := m.at_ + 1 } := by
  have h3 : oneP 29 src m (numVl v) r = if 16 ≤ m.out.length then .error (75, 0) else .ok { m with st := r, out := m.out ++ [numVl v] } := rfl
  unfold onP
  rw [hs]
  show (oneP 29 src m (numVl v) r).map _ = _
  rw [h3]
  split <;> rfl
theorem lon_store (k : ByteArray) (v : Int) (hs : m.st = numVl v :: wrdV k :: r) (hv : validK k = true) (hr : roomB m k = true) (hh : hasW k m.writes = false) : onP p args src m ⟨22, 0⟩ = if 32 ≤ m.writes.length then .error (77, 0) else .ok { m with st := r, writes := putW ⟨k, false, numVl v⟩ m.writes, at_ := m.at_ + 1 } := by
  have h3 : twoP 22 m (numVl v) (wrdV k) r = if 32 ≤ m.writes.length then .error (77, 0) else .ok { m with st := r, writes := putW ⟨k, false, numVl v⟩ m.writes } := by
    unfold twoP
    rw [if_neg (by decide), if_neg (by decide), if_neg (by decide), if_pos rfl, if_pos ⟨rfl, by show ¬ (1 : Int) = 0; decide⟩]
    rw [if_neg (by show ¬ validK k = false; rw [hv]; decide)]
    show ({ m with st := r } : Mc).write ⟨k, false, numVl v⟩ = _
    unfold Mc.write
    rw [if_neg (by show ¬ roomB m k = false; rw [hr]; decide)]
    show (if hasW k m.writes = false ∧ 32 ≤ m.writes.length then _ else _) = _
    by_cases h : 32 ≤ m.writes.length
    · rw [if_pos ⟨hh, h⟩, if_pos h]
    · rw [if_neg (fun e => h e.2), if_neg h]
  unfold onP
  rw [hs]
  show (twoP 22 m (numVl v) (wrdV k) r).map _ = _
  rw [h3]
  split <;> rfl
theorem lon_load (k : ByteArray) (hs : m.st = wrdV k :: r) (hv : validK k = true) (hh : getW k m.writes = none) : onP p args src m ⟨20, 0⟩ = if roomB m k = true then .ok { m with st := srcV src k :: r, reads := m.reads ++ [k], at_ := m.at_ + 1 } else .error (78, 0) := by
  have h3 : oneP 20 src m (wrdV k) r = if roomB m k = true then .ok { m with st := srcV src k :: r, reads := m.reads ++ [k] } else .error (78, 0) := by
    have hk : keyE (wrdV k) = 0 := by
      show (if (2 : Int) ≠ 2 then (72 : Int) else if validK k = false then 30 else 0) = 0
      rw [if_neg (by decide), if_neg (by rw [hv]; decide)]
    have hl : m.load src k = if roomB m k = true then .ok (srcV src k, { m with reads := m.reads ++ [k] }) else .error (78, 0) := by
      unfold Mc.load
      rw [hh]
    have h9 : oneP 20 src m (wrdV k) r = (match m.load src k with | .ok (v, m') => .ok { m' with st := v :: r } | .error e => .error e) := by
      unfold oneP
      rw [if_neg (by decide), if_neg (by decide), if_pos rfl, if_neg (by rw [hk]; decide)]; rfl
    rw [h9, hl]
    by_cases h : roomB m k = true
    · rw [if_pos h, if_pos h]
    · rw [if_neg h, if_neg h]
  unfold onP
  rw [hs]
  show (oneP 20 src m (wrdV k) r).map _ = _
  rw [h3]
  split <;> rfl
end
section
variable {args : List Vl} {src : List Kv} {s : List Nat} {out : List Vl} {rd : List ByteArray} {ws : List Wr} {f k v : Nat}
/-- the loop's head, above 0 -/
theorem lim_head (hv : v ≠ 0) : ∃ s', endP (limPr k) args src ⟨[numVl v], 1, f + 3, s, out, rd, ws⟩ = endP (limPr k) args src ⟨[numVl v, numVl v], 4, f, s', out, rd, ws⟩ := by
  refine ⟨((s ++ [1]) ++ [2]) ++ [3], ?_⟩
  rw [endP_on (i := ⟨3, 0⟩) (by show f + 3 ≠ 0; omega) rfl (by decide) lon_dup]
  rw [endP_on (i := ⟨19, 14⟩) (by show f + 3 - 1 ≠ 0; omega) rfl (by decide) (lon_jz 14 v rfl)]
  rw [if_neg (show ¬ (v : Int) = 0 by omega)]
  rw [endP_on (i := ⟨3, 0⟩) (by show f + 3 - 1 - 1 ≠ 0; omega) rfl (by decide) lon_dup]
  rfl
/-- the loop's end, at 0 -/
theorem lim_out : (endP (limPr k) args src ⟨[numVl 0], 1, f + 5, s, out, rd, ws⟩).1 = (0, 0) := by
  rw [endP_on (i := ⟨3, 0⟩) (by show f + 5 ≠ 0; omega) rfl (by decide) lon_dup]
  rw [endP_on (i := ⟨19, 14⟩) (by show f + 5 - 1 ≠ 0; omega) rfl (by decide) (lon_jz 14 0 rfl)]
  rw [if_pos rfl]
  have e14 : (limPr k).code.getD 14 is0 = ⟨4, 0⟩ := by
    show (limCode k).getD 14 is0 = _
    unfold limCode limMid
    split
    · rfl
    · split <;> rfl
  have e15 : (limPr k).code.getD 15 is0 = ⟨31, 0⟩ := by
    show (limCode k).getD 15 is0 = _
    unfold limCode limMid
    split
    · rfl
    · split <;> rfl
  rw [endP_on (i := ⟨4, 0⟩) (by show f + 5 - 1 - 1 ≠ 0; omega) e14 (by decide) lon_drop]
  rw [endP_ret (i := ⟨31, 0⟩) (by show f + 5 - 1 - 1 - 1 ≠ 0; omega) e15 rfl]
/-- the loop's tail: one less -/
theorem lim_tail (hk : (limMid k).length = 6) (hv : v < 1000) : ∃ s', endP (limPr k) args src ⟨[numVl 1, numVl (v + 1)], 10, f + 4, s, out, rd, ws⟩ = endP (limPr k) args src ⟨[numVl v], 1, f, s', out, rd, ws⟩ := by
  have e : ∀ j, 10 ≤ j → (limPr k).code.getD j is0 = ([⟨8, 0⟩, ⟨3, 0⟩, ⟨4, 0⟩, ⟨18, 1⟩, ⟨4, 0⟩, ⟨31, 0⟩] : List Is).getD (j - 10) is0 := fun j hj => by
    show (limCode k).getD j is0 = _
    unfold limCode
    rw [List.getD_eq_getElem?_getD, List.getD_eq_getElem?_getD, List.getElem?_append_right (by simp [hk]; omega)]
    simp [hk]
  refine ⟨(((s ++ [10]) ++ [11]) ++ [12]) ++ [13], ?_⟩
  rw [endP_on (i := ⟨8, 0⟩) (by show f + 4 ≠ 0; omega) (e 10 (by omega)) (by decide) (lon_sub (v + 1) 1 rfl (by rw [inR_iff]; omega))]
  rw [show ((v : Int) + 1 - 1) = v by omega]
  rw [endP_on (i := ⟨3, 0⟩) (by show f + 4 - 1 ≠ 0; omega) (e 11 (by omega)) (by decide) lon_dup]
  rw [endP_on (i := ⟨4, 0⟩) (by show f + 4 - 1 - 1 ≠ 0; omega) (e 12 (by omega)) (by decide) lon_drop]
  rw [endP_on (i := ⟨18, 1⟩) (by show f + 4 - 1 - 1 - 1 ≠ 0; omega) (e 13 (by omega)) (by decide) (lon_jump 1)]
  rfl
theorem lim0 : ∀ (v n : Nat) (f : Nat) (s : List Nat) (out : List Vl), v ≤ n → n ≤ 80 → out.length = n - v → n - v ≤ 16 → (endP (limPr 0) args src ⟨[numVl v], 1, f + 13 * v + 5, s, out, [], []⟩).1.1 = if n ≤ 16 then 0 else 75
  | 0, n, f, s, out, _, _, ho, h16 => by
    rw [show f + 13 * 0 + 5 = f + 5 by omega]
    show (endP _ _ _ ⟨[numVl 0], _, _, _, _, _, _⟩).1.1 = _
    rw [lim_out, if_pos (by omega)]
  | v + 1, n, f, s, out, hn, h80, ho, h16 => by
    obtain ⟨s1, h1⟩ := lim_head (k := 0) (args := args) (src := src) (s := s) (out := out) (rd := []) (ws := []) (f := f + 13 * v + 15) (v := v + 1) (by omega)
    rw [show f + 13 * (v + 1) + 5 = f + 13 * v + 15 + 3 by omega, h1]
    by_cases h : 16 ≤ out.length
    · rw [endP_stop (i := ⟨29, 0⟩) (e := (75, 0)) (by show f + 13 * v + 15 ≠ 0; omega) rfl (by decide) (by rw [lon_emit (v + 1 : Nat) rfl]; exact if_pos h), if_neg (by omega)]
    · rw [endP_on (i := ⟨29, 0⟩) (by show f + 13 * v + 15 ≠ 0; omega) rfl (by decide) (m1 := ⟨[numVl (v + 1 : Nat)], 5, f + 13 * v + 14, s1 ++ [4], out ++ [numVl (v + 1 : Nat)], [], []⟩) (by rw [lon_emit (v + 1 : Nat) rfl]; exact if_neg h)]
      rw [endP_on (i := ⟨1, 1⟩) (by show f + 13 * v + 14 ≠ 0; omega) rfl (by decide) (lon_con 1)]
      rw [endP_on (i := ⟨3, 0⟩) (by show f + 13 * v + 14 - 1 ≠ 0; omega) rfl (by decide) lon_dup]
      rw [endP_on (i := ⟨4, 0⟩) (by show f + 13 * v + 14 - 1 - 1 ≠ 0; omega) rfl (by decide) lon_drop]
      rw [endP_on (i := ⟨3, 0⟩) (by show f + 13 * v + 14 - 1 - 1 - 1 ≠ 0; omega) rfl (by decide) lon_dup]
      rw [endP_on (i := ⟨4, 0⟩) (by show f + 13 * v + 14 - 1 - 1 - 1 - 1 ≠ 0; omega) rfl (by decide) lon_drop]
      obtain ⟨s2, h2⟩ := lim_tail (k := 0) (args := args) (src := src) (s := (((((s1 ++ [4]) ++ [5]) ++ [6]) ++ [7]) ++ [8]) ++ [9]) (out := out ++ [numVl (v + 1 : Nat)]) (rd := []) (ws := []) (f := f + 13 * v + 5) (v := v) rfl (by omega)
      refine (congrArg (fun x : Er × Mc => x.1.1) h2).trans ?_
      exact lim0 v n f s2 _ (by omega) h80 (by rw [List.length_append, ho]; simp; omega) (by omega)
theorem lhasW_none {k : ByteArray} {ws : List Wr} (h : ∀ x ∈ ws, x.key ≠ k) : hasW k ws = false := Bool.eq_false_iff.2 fun e => by
  obtain ⟨x, hx, e⟩ := List.mem_map.1 (hasW_mem.1 e)
  exact h x hx e
theorem lputW_new {x : Wr} : ∀ {ws : List Wr}, (∀ y ∈ ws, y.key ≠ x.key) → putW x ws = ws ++ [x]
  | [], _ => rfl
  | y :: l, h => by
    unfold putW
    rw [if_neg (h y List.mem_cons_self), lputW_new fun z hz => h z (List.mem_cons_of_mem _ hz)]; rfl
theorem lim1 : ∀ (v n : Nat) (f : Nat) (s : List Nat) (ws : List Wr), v ≤ n → n ≤ 80 → ws.length = n - v → (∀ x ∈ ws, ∃ i, v < i ∧ i ≤ n ∧ x.key = kk i) → n - v ≤ 32 → (endP (limPr 1) args src ⟨[numVl v], 1, f + 13 * v + 5, s, [], [], ws⟩).1.1 = if n ≤ 32 then 0 else 77
  | 0, n, f, s, ws, _, _, ho, _, h16 => by
    rw [show f + 13 * 0 + 5 = f + 5 by omega]
    show (endP _ _ _ ⟨[numVl 0], _, _, _, _, _, _⟩).1.1 = _
    rw [lim_out, if_pos (by omega)]
  | v + 1, n, f, s, ws, hn, h80, ho, hk, h16 => by
    have hne : ∀ x ∈ ws, x.key ≠ kk (v + 1) := fun x hx e => by
      obtain ⟨i, h1, h2, h3⟩ := hk x hx
      have := kk_inj (by omega) (by omega) (h3.symm.trans e)
      omega
    have hroom : ∀ (m : Mc), m.reads = [] → m.writes = ws → roomB m (kk (v + 1)) = true := fun m h1 h2 => by
      unfold roomB
      rw [h1, h2]
      have : cntRW [] ws < 64 := by
        unfold cntRW
        have h3 := List.length_filter_le (fun k => !memB k []) (ws.map (·.key))
        rw [List.length_map] at h3
        show 0 + _ < 64
        omega
      rw [decide_eq_true this]; simp
    obtain ⟨s1, h1⟩ := lim_head (k := 1) (args := args) (src := src) (s := s) (out := []) (rd := []) (ws := ws) (f := f + 13 * v + 15) (v := v + 1) (by omega)
    rw [show f + 13 * (v + 1) + 5 = f + 13 * v + 15 + 3 by omega, h1]
    rw [endP_on (i := ⟨25, 0⟩) (by show f + 13 * v + 15 ≠ 0; omega) rfl (by decide) (lon_text (v + 1 : Nat) rfl)]
    rw [endP_on (i := ⟨1, 0⟩) (by show f + 13 * v + 15 - 1 ≠ 0; omega) rfl (by decide) (lon_con 0)]
    rw [endP_on (i := ⟨24, 0⟩) (by show f + 13 * v + 15 - 1 - 1 ≠ 0; omega) rfl (by decide) (lon_cat (digS (v + 1 : Nat)) kB rfl (kk_size (by omega)))]
    rw [endP_on (i := ⟨1, 1⟩) (by show f + 13 * v + 15 - 1 - 1 - 1 ≠ 0; omega) rfl (by decide) (lon_con 1)]
    by_cases h : 32 ≤ ws.length
    · rw [endP_stop (i := ⟨22, 0⟩) (e := (77, 0)) (by show f + 13 * v + 15 - 1 - 1 - 1 - 1 ≠ 0; omega) rfl (by decide) (by rw [lon_store (kk (v + 1)) 1 rfl (kk_ok (by omega)) (hroom _ rfl rfl) (lhasW_none hne)]; exact if_pos h), if_neg (by omega)]
    · rw [endP_on (i := ⟨22, 0⟩) (m1 := ⟨[numVl (v + 1 : Nat)], 9, f + 13 * v + 10, ((((s1 ++ [4]) ++ [5]) ++ [6]) ++ [7]) ++ [8], [], [], putW ⟨kk (v + 1), false, numVl 1⟩ ws⟩) (by show f + 13 * v + 15 - 1 - 1 - 1 - 1 ≠ 0; omega) rfl (by decide) (by rw [lon_store (kk (v + 1)) 1 rfl (kk_ok (by omega)) (hroom _ rfl rfl) (lhasW_none hne)]; exact if_neg h)]
      rw [lputW_new hne]
      rw [endP_on (i := ⟨1, 1⟩) (by show f + 13 * v + 10 ≠ 0; omega) rfl (by decide) (lon_con 1)]
      obtain ⟨s2, h2⟩ := lim_tail (k := 1) (args := args) (src := src) (s := (((((s1 ++ [4]) ++ [5]) ++ [6]) ++ [7]) ++ [8]) ++ [9]) (out := []) (rd := []) (ws := ws ++ [⟨kk (v + 1), false, numVl 1⟩]) (f := f + 13 * v + 5) (v := v) rfl (by omega)
      refine (congrArg (fun x : Er × Mc => x.1.1) h2).trans ?_
      exact lim1 v n f s2 _ (by omega) h80 (by rw [List.length_append, ho]; simp; omega) (fun x hx => by
        rcases List.mem_append.1 hx with hx | hx
        · obtain ⟨i, h1, h2, h3⟩ := hk x hx; exact ⟨i, by omega, h2, h3⟩
        · rw [List.mem_singleton.1 hx]; exact ⟨v + 1, by omega, hn, rfl⟩) (by omega)
theorem luniq_len {l : List ByteArray} (h : l.Nodup) : (uniq l).length = l.length :=
  Nat.le_antisymm (nodup_leB (uniq_nodup l) fun x hx => uniq_mem.1 hx) (nodup_leB h fun x hx => uniq_mem.2 hx)
theorem lim2 : ∀ (v n : Nat) (f : Nat) (s : List Nat) (rd : List ByteArray), v ≤ n → n ≤ 80 → rd.length = n - v → rd.Nodup → (∀ x ∈ rd, ∃ i, v < i ∧ i ≤ n ∧ x = kk i) → n - v ≤ 64 → (endP (limPr 2) args src ⟨[numVl v], 1, f + 13 * v + 5, s, [], rd, []⟩).1.1 = if n ≤ 64 then 0 else 78
  | 0, n, f, s, rd, _, _, ho, _, _, h16 => by
    rw [show f + 13 * 0 + 5 = f + 5 by omega]
    show (endP _ _ _ ⟨[numVl 0], _, _, _, _, _, _⟩).1.1 = _
    rw [lim_out, if_pos (by omega)]
  | v + 1, n, f, s, rd, hn, h80, ho, hnd, hk, h16 => by
    have hne : ¬ kk (v + 1) ∈ rd := fun hx => by
      obtain ⟨i, h1, h2, h3⟩ := hk _ hx
      have := kk_inj (by omega) (by omega) h3
      omega
    have hroom : ∀ (m : Mc), m.reads = rd → m.writes = [] → roomB m (kk (v + 1)) = decide (rd.length < 64) := fun m h1 h2 => by
      unfold roomB
      rw [h1, h2]
      have h3 : cntRW rd [] = rd.length := by
        unfold cntRW
        rw [luniq_len hnd]; rfl
      have h4 : memB (kk (v + 1)) rd = false := Bool.eq_false_iff.2 fun e => hne (memB_iff.1 e)
      rw [h3, h4]; rfl
    obtain ⟨s1, h1⟩ := lim_head (k := 2) (args := args) (src := src) (s := s) (out := []) (rd := rd) (ws := []) (f := f + 13 * v + 15) (v := v + 1) (by omega)
    rw [show f + 13 * (v + 1) + 5 = f + 13 * v + 15 + 3 by omega, h1]
    rw [endP_on (i := ⟨25, 0⟩) (by show f + 13 * v + 15 ≠ 0; omega) rfl (by decide) (lon_text (v + 1 : Nat) rfl)]
    rw [endP_on (i := ⟨1, 0⟩) (by show f + 13 * v + 15 - 1 ≠ 0; omega) rfl (by decide) (lon_con 0)]
    rw [endP_on (i := ⟨24, 0⟩) (by show f + 13 * v + 15 - 1 - 1 ≠ 0; omega) rfl (by decide) (lon_cat (digS (v + 1 : Nat)) kB rfl (kk_size (by omega)))]
    by_cases h : rd.length < 64
    · rw [endP_on (i := ⟨20, 0⟩) (m1 := ⟨[srcV src (kk (v + 1)), numVl (v + 1 : Nat)], 8, f + 13 * v + 11, (((s1 ++ [4]) ++ [5]) ++ [6]) ++ [7], [], rd ++ [kk (v + 1)], []⟩) (by show f + 13 * v + 15 - 1 - 1 - 1 ≠ 0; omega) rfl (by decide) (by rw [lon_load (kk (v + 1)) rfl (kk_ok (by omega)) rfl, hroom _ rfl rfl, decide_eq_true h]; rfl)]
      rw [endP_on (i := ⟨4, 0⟩) (by show f + 13 * v + 11 ≠ 0; omega) rfl (by decide) lon_drop]
      rw [endP_on (i := ⟨1, 1⟩) (by show f + 13 * v + 11 - 1 ≠ 0; omega) rfl (by decide) (lon_con 1)]
      obtain ⟨s2, h2⟩ := lim_tail (k := 2) (args := args) (src := src) (s := (((((s1 ++ [4]) ++ [5]) ++ [6]) ++ [7]) ++ [8]) ++ [9]) (out := []) (rd := rd ++ [kk (v + 1)]) (ws := []) (f := f + 13 * v + 5) (v := v) rfl (by omega)
      refine (congrArg (fun x : Er × Mc => x.1.1) h2).trans ?_
      exact lim2 v n f s2 _ (by omega) h80 (by rw [List.length_append, ho]; simp; omega) (by
        rw [List.nodup_append]
        exact ⟨hnd, by simp, fun y hy z hz => by rw [List.mem_singleton.1 hz]; rintro rfl; exact hne hy⟩) (fun x hx => by
        rcases List.mem_append.1 hx with hx | hx
        · obtain ⟨i, h1, h2, h3⟩ := hk x hx; exact ⟨i, by omega, h2, h3⟩
        · rw [List.mem_singleton.1 hx]; exact ⟨v + 1, by omega, hn, rfl⟩) (by omega)
    · rw [endP_stop (i := ⟨20, 0⟩) (e := (78, 0)) (by show f + 13 * v + 15 - 1 - 1 - 1 ≠ 0; omega) rfl (by decide) (by rw [lon_load (kk (v + 1)) rfl (kk_ok (by omega)) rfl, hroom _ rfl rfl, decide_eq_false h]; rfl), if_neg (by omega)]
end
theorem lim_check : (limPr 0).check = (0, 0) ∧ (limPr 1).check = (0, 0) ∧ (limPr 2).check = (0, 0) := by
  refine ⟨?_, ?_, ?_⟩ <;> kernel_rfl
theorem lim_run {k n : Nat} (hk : k < 3) (hn : n ≤ 80) : (runO (limPr k) [numVl n] [] true 5000).code = if n ≤ limMost k then 0 else limErr k := by
  have hc : (limPr k).check.1 = 0 := by
    rcases (by omega : k = 0 ∨ k = 1 ∨ k = 2) with rfl | rfl | rfl
    · rw [lim_check.1]
    · rw [lim_check.2.1]
    · rw [lim_check.2.2]
  unfold runO
  rw [hc, if_neg (by decide), if_neg (by
    show ¬ (_ && List.all [numVl n] okA) = false
    simp only [List.all_cons, List.all_nil, okA_num]
    rw [show okArgs (limPr k) [numVl n] true 5000 = true from rfl]
    decide)]
  show (endP (limPr k) [numVl n] [] (mc0 5000)).1.1 = _
  rw [show endP (limPr k) [numVl n] [] (mc0 5000) = endP (limPr k) [numVl n] [] ⟨[numVl n], 1, (4994 - 13 * n) + 13 * n + 5, [0], [], [], []⟩ from by
    rw [endP_on (i := ⟨2, 0⟩) (by decide) rfl (by decide) (lon_arg 0)]
    rw [show 4994 - 13 * n + 13 * n + 5 = 4999 by omega]; rfl]
  rcases (by omega : k = 0 ∨ k = 1 ∨ k = 2) with rfl | rfl | rfl
  · exact lim0 n n _ _ [] (Nat.le_refl _) hn (by simp) (by omega)
  · exact lim1 n n _ _ [] (Nat.le_refl _) hn (by simp) (fun x hx => by cases hx) (by omega)
  · exact lim2 n n _ _ [] (Nat.le_refl _) hn (by simp) List.nodup_nil (fun x hx => by cases hx) (by omega)
end Go.Proofs.YtdmogoaaecdbaaaGreatDoor
