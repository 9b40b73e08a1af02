/- store: stores as plain data: lists of keys with their values, by rising keys. -/
import Derived.Test.YtnbbdjbjbjlcpaaDoorKPlain
import Derived.Test.YtnbbdjbjbjlcpaaDoorVOrd
namespace Go.Proofs.YtnbbdjbjbjlcpaaDoor
open Go
set_option linter.unusedVariables false
set_option linter.unusedSimpArgs false

/-! the order of keys -/
theorem less_cmp : ∀ a b : List UInt8, Op.bytesLess a b = decide (Lib.compareBytes a b = -1) := by
  intro a
  induction a with
  | nil => intro b; cases b <;> simp [Op.bytesLess, Lib.compareBytes]
  | cons x l ih =>
    intro b
    cases b with
    | nil => simp [Op.bytesLess, Lib.compareBytes]
    | cons y m =>
      unfold Op.bytesLess Lib.compareBytes
      by_cases h1 : x < y
      · simp [h1]
      · by_cases h2 : y < x
        · have : x ≠ y := by rintro rfl; exact UInt8.lt_irrefl _ h2
          simp [h1, h2, this]
        · have : x = y := UInt8.le_antisymm (UInt8.not_lt.1 h2) (UInt8.not_lt.1 h1)
          subst this
          simp only [h1, decide_false, Bool.false_or, if_false, BEq.rfl, Bool.true_and, ih]
def ltB (a b : ByteArray) : Bool := Op.bytesLess a.toList b.toList
theorem ltB_iff (a b : ByteArray) : ltB a b = true ↔ Lib.compareBytes a.toList b.toList = -1 := by unfold ltB; rw [less_cmp]; simp
theorem ltB_irrefl (a : ByteArray) : ltB a a = false := by
  cases h : ltB a a with
  | false => rfl
  | true => rw [ltB_iff, (ord_bytes.zero _ _).2 rfl] at h; cases h
theorem ltB_trans {a b c : ByteArray} (h1 : ltB a b = true) (h2 : ltB b c = true) : ltB a c = true := by
  rw [ltB_iff] at *; exact ord_bytes.trans _ _ _ h1 h2
theorem ltB_tri {a b : ByteArray} (h1 : ltB a b = false) (h2 : ltB b a = false) : a = b := by
  have h1' : ¬ ltB a b = true := by rw [h1]; simp
  have h2' : ¬ ltB b a = true := by rw [h2]; simp
  rw [ltB_iff] at h1' h2'
  rw [ord_bytes.anti] at h2'
  apply ba_inj
  rw [← ord_bytes.zero]
  rcases ord_bytes.rng a.toList b.toList with h | h | h
  · exact absurd h h1'
  · exact h
  · exact absurd (by rw [h]) h2'
theorem ltB_asymm {a b : ByteArray} (h1 : ltB a b = true) : ltB b a = false := by
  cases h : ltB b a with
  | false => rfl
  | true => have := ltB_trans h1 h; rw [ltB_irrefl] at this; cases this
theorem ltB_ne {a b : ByteArray} (h1 : ltB a b = true) : a ≠ b := by rintro rfl; rw [ltB_irrefl] at h1; cases h1
/-! keys -/
def keyB (c : UInt8) : Bool := (decide (97 ≤ c.toNat) && decide (c.toNat ≤ 122)) || (decide (48 ≤ c.toNat) && decide (c.toNat ≤ 57)) || decide (c.toNat = 47) || decide (c.toNat = 58) || decide (c.toNat = 46) || decide (c.toNat = 95) || decide (c.toNat = 45)
def validK (k : ByteArray) : Bool := k.toList.all keyB && decide (1 ≤ k.size) && decide (k.size ≤ 32)
def hashL : Nat → List UInt8 → Nat
  | h, [] => h
  | h, c :: r => hashL ((h ^^^ c.toNat) * 1099511628211 % 18446744073709551616) r
def hash0 (k : ByteArray) : Nat := hashL 14695981039346656037 k.toList
def partK (n : Nat) (k : ByteArray) : Nat := hash0 k % n
theorem partK_lt {n : Nat} (k : ByteArray) (h : 0 < n) : partK n k < n := Nat.mod_lt _ h
/-! lists of keys with values -/
abbrev Kv := ByteArray × Vl
def Asc (L : List Kv) : Prop := L.Pairwise fun x y => ltB x.1 y.1 = true
def hasK (k : ByteArray) (L : List Kv) : Bool := L.any fun x => decide (x.1 = k)
def valK (k : ByteArray) : List Kv → Vl
  | [] => vl0
  | x :: l => if x.1 = k then x.2 else valK k l
def insK (k : ByteArray) : List Kv → List Kv
  | [] => [(k, vl0)]
  | x :: l => if ltB x.1 k then x :: insK k l else if x.1 = k then x :: l else (k, vl0) :: x :: l
def upK (k : ByteArray) (v : Vl) (L : List Kv) : List Kv := L.map fun x => if x.1 = k then (k, v) else x
def dumpL (L : List Kv) : List Kv := L.filter fun x => !decide (x.2.k = 0)
def cntP (n p : Nat) (L : List Kv) : Nat := L.countP fun x => decide (partK n x.1 = p)
section
variable {L : List Kv} {k j : ByteArray} {v : Vl} {n p : Nat}
theorem hasK_cons (x : Kv) (L : List Kv) (k : ByteArray) : hasK k (x :: L) = (decide (x.1 = k) || hasK k L) := rfl
theorem hasK_mem : hasK k L = true ↔ ∃ x ∈ L, x.1 = k := by simp [hasK]
theorem hasK_asc {x : Kv} (h : Asc (x :: L)) (hk : ltB x.1 k = false) : x.1 = k ∨ hasK k (x :: L) = false := by
  by_cases e : x.1 = k
  · exact .inl e
  · right
    cases hh : hasK k (x :: L) with
    | false => rfl
    | true =>
      obtain ⟨y, hy, rfl⟩ := hasK_mem.1 hh
      rcases List.mem_cons.1 hy with rfl | hy
      · exact absurd rfl e
      · have := (List.pairwise_cons.1 h).1 y hy
        rw [this] at hk; cases hk
theorem hasK_ins : ∀ {L : List Kv}, hasK j (insK k L) = (decide (k = j) || hasK j L) := by
  intro L
  induction L with
  | nil => simp [insK, hasK]
  | cons x l ih =>
    unfold insK
    split
    · rw [hasK_cons, ih, hasK_cons]; simp [Bool.or_left_comm]
    · split
      · rename_i h; rw [hasK_cons, h]; simp
      · rw [hasK_cons]
theorem ins_mem : ∀ {L : List Kv} {x : Kv}, x ∈ insK k L → x = (k, vl0) ∨ x ∈ L := by
  intro L
  induction L with
  | nil => intro x h; simp [insK] at h; exact .inl h
  | cons y l ih =>
    intro x h
    unfold insK at h
    split at h
    · rcases List.mem_cons.1 h with rfl | h
      · exact .inr (List.mem_cons_self ..)
      · exact (ih h).imp id (List.mem_cons_of_mem _)
    · split at h
      · exact .inr h
      · rcases List.mem_cons.1 h with rfl | h
        · exact .inl rfl
        · exact .inr h
theorem ins_asc : ∀ {L : List Kv}, Asc L → Asc (insK k L) := by
  intro L
  induction L with
  | nil => intro _; simp [insK, Asc]
  | cons x l ih =>
    intro h
    have h' := List.pairwise_cons.1 h
    unfold insK
    split
    · rename_i hk
      refine List.pairwise_cons.2 ⟨fun y hy => ?_, ih h'.2⟩
      rcases ins_mem hy with rfl | hy
      · exact hk
      · exact h'.1 y hy
    · split
      · exact h
      · rename_i h1 h2
        have h3 : ltB k x.1 = true := by
          cases e : ltB k x.1 with
          | true => rfl
          | false => exact absurd (ltB_tri (by simpa using h1) e) h2
        refine List.pairwise_cons.2 ⟨fun y hy => ?_, h⟩
        rcases List.mem_cons.1 hy with rfl | hy
        · exact h3
        · exact ltB_trans h3 (h'.1 y hy)
theorem valK_none : ∀ {L : List Kv}, hasK k L = false → valK k L = vl0 := by
  intro L
  induction L with
  | nil => intro _; rfl
  | cons x l ih =>
    intro h
    rw [hasK_cons] at h
    simp at h
    unfold valK
    rw [if_neg h.1]
    exact ih h.2
theorem valK_ins : ∀ {L : List Kv}, Asc L → valK j (insK k L) = valK j L := by
  intro L
  induction L with
  | nil => intro _; unfold insK valK; split <;> simp [valK]
  | cons x l ih =>
    intro h
    have h' := List.pairwise_cons.1 h
    unfold insK
    split
    · rw [valK, valK, ih h'.2]
    · split
      · rfl
      · rename_i h1 h2
        rw [valK]
        split
        · rename_i e
          simp only at e
          subst e
          rcases hasK_asc h (by simpa using h1) with e | e
          · exact absurd e h2
          · exact (valK_none e).symm
        · rfl
theorem ins_has : ∀ {L : List Kv}, Asc L → hasK k L = true → insK k L = L := by
  intro L
  induction L with
  | nil => intro _ h; cases h
  | cons x l ih =>
    intro h hk
    have h' := List.pairwise_cons.1 h
    unfold insK
    split
    · rename_i h1
      rw [hasK_cons] at hk
      have hne := ltB_ne h1
      simp [hne] at hk
      rw [ih h'.2 hk]
    · split
      · rfl
      · rename_i h1 h2
        rcases hasK_asc h (by simpa using h1) with e | e
        · exact absurd e h2
        · rw [e] at hk; cases hk
/-- where a key stands, or would stand -/
def posK (k : ByteArray) (L : List Kv) : Nat := L.countP fun x => ltB x.1 k
theorem pos_t {x : Kv} {L : List Kv} {k : ByteArray} (h : ltB x.1 k = true) : posK k (x :: L) = posK k L + 1 := List.countP_cons_of_pos (p := fun x : Kv => ltB x.1 k) h
theorem pos_f {x : Kv} {L : List Kv} {k : ByteArray} (h : ¬ ltB x.1 k = true) : posK k (x :: L) = posK k L := List.countP_cons_of_neg (p := fun x : Kv => ltB x.1 k) h
theorem pos_z {l : List Kv} {x : Kv} {k : ByteArray} (h : ∀ y ∈ l, ltB x.1 y.1 = true) (h1 : ¬ ltB x.1 k = true) : posK k l = 0 := List.countP_eq_zero.2 fun y hy e => h1 (ltB_trans (h y hy) e)
theorem posK_le : posK k L ≤ L.length := List.countP_le_length
theorem ins_split : ∀ {L : List Kv}, Asc L → hasK k L = false → insK k L = L.take (posK k L) ++ [(k, vl0)] ++ L.drop (posK k L) := by
  intro L
  induction L with
  | nil => intro _ _; rfl
  | cons x l ih =>
    intro h hk
    have h' := List.pairwise_cons.1 h
    rw [hasK_cons] at hk
    simp only [Bool.or_eq_false_iff, decide_eq_false_iff_not] at hk
    unfold insK
    by_cases h1 : ltB x.1 k = true
    · rw [if_pos h1, ih h'.2 hk.2, pos_t h1]
      simp
    · have hz := pos_z h'.1 h1
      rw [if_neg h1, if_neg hk.1, pos_f h1, hz]
      simp
theorem pos_get : ∀ {L : List Kv}, Asc L → hasK k L = true → ∃ x, L[posK k L]? = some x ∧ x.1 = k ∧ x.2 = valK k L := by
  intro L
  induction L with
  | nil => intro _ h; cases h
  | cons x l ih =>
    intro h hk
    have h' := List.pairwise_cons.1 h
    rw [hasK_cons] at hk
    by_cases h1 : ltB x.1 k = true
    · have hne := ltB_ne h1
      simp [hne] at hk
      obtain ⟨y, e1, e2, e3⟩ := ih h'.2 hk
      rw [pos_t h1]
      exact ⟨y, by simpa using e1, e2, by rw [valK, if_neg hne]; exact e3⟩
    · have hx : x.1 = k := by
        rcases hasK_asc h (by simpa using h1) with e | e
        · exact e
        · rw [hasK_cons] at e; rw [e] at hk; cases hk
      have hz := pos_z h'.1 h1
      rw [pos_f h1, hz]
      exact ⟨x, rfl, hx, by rw [valK, if_pos hx]⟩
theorem pos_lt : ∀ {L : List Kv}, Asc L → ∀ i x, L[i]? = some x → (ltB x.1 k = true ↔ i < posK k L) := by
  intro L
  induction L with
  | nil => intro _ i x h; simp at h
  | cons y l ih =>
    intro h i x hx
    have h' := List.pairwise_cons.1 h
    by_cases h1 : ltB y.1 k = true
    · rw [pos_t h1]
      cases i with
      | zero => simp at hx; subst hx; simp [h1]
      | succ i =>
        simp at hx
        have := ih h'.2 i x hx
        rw [this]; omega
    · have hz := pos_z h'.1 h1
      rw [pos_f h1, hz]
      cases i with
      | zero => simp at hx; subst hx; simp [h1]
      | succ i =>
        simp at hx
        have hm := List.mem_of_getElem? hx
        have : ¬ ltB x.1 k = true := fun e => h1 (ltB_trans (h'.1 x hm) e)
        simp [this]
theorem cnt_ins : ∀ {L : List Kv}, Asc L → cntP n p (insK k L) = cntP n p L + if hasK k L = false ∧ partK n k = p then 1 else 0 := by
  intro L h
  cases hk : hasK k L with
  | true => rw [ins_has h hk]; simp
  | false =>
    rw [ins_split h hk]
    unfold cntP
    rw [List.countP_append, List.countP_append, List.countP_singleton]
    have : L.countP (fun x => decide (partK n x.1 = p)) = (L.take (posK k L)).countP (fun x => decide (partK n x.1 = p)) + (L.drop (posK k L)).countP (fun x => decide (partK n x.1 = p)) := by
      rw [← List.countP_append, List.take_append_drop]
    rw [this]
    by_cases e : partK n k = p <;> simp [e] <;> omega
theorem up_keys : (upK k v L).map (·.1) = L.map (·.1) := by
  unfold upK
  rw [List.map_map]
  apply List.map_congr_left
  intro x _
  simp only [Function.comp]
  split
  · rename_i h; exact h.symm
  · rfl
theorem asc_keys {L' : List Kv} (h : L'.map (·.1) = L.map (·.1)) (ha : Asc L) : Asc L' := by
  have e : ∀ M : List Kv, Asc M ↔ (M.map (·.1)).Pairwise fun x y => ltB x y = true := fun M => by unfold Asc; rw [List.pairwise_map]
  rw [e] at *
  rw [h]; exact ha
theorem up_asc (h : Asc L) : Asc (upK k v L) := asc_keys up_keys h
theorem has_keys {L' : List Kv} (h : L'.map (·.1) = L.map (·.1)) : hasK j L' = hasK j L := by
  have e : ∀ M : List Kv, hasK j M = (M.map (·.1)).any fun x => decide (x = j) := fun M => by unfold hasK; rw [List.any_map]; rfl
  rw [e, e, h]
theorem hasK_up : hasK j (upK k v L) = hasK j L := has_keys up_keys
theorem cnt_keys {L' : List Kv} (h : L'.map (·.1) = L.map (·.1)) : cntP n p L' = cntP n p L := by
  have e : ∀ M : List Kv, cntP n p M = (M.map (·.1)).countP fun x => decide (partK n x = p) := fun M => by unfold cntP; rw [List.countP_map]; rfl
  rw [e, e, h]
theorem cnt_up : cntP n p (upK k v L) = cntP n p L := cnt_keys up_keys
theorem valK_up : ∀ {L : List Kv}, valK j (upK k v L) = if k = j ∧ hasK k L = true then v else valK j L := by
  intro L
  induction L with
  | nil => simp [upK, valK, hasK]
  | cons x l ih =>
    have e : upK k v (x :: l) = (if x.1 = k then (k, v) else x) :: upK k v l := rfl
    rw [e, valK, ih, hasK_cons, valK]
    by_cases h1 : x.1 = k
    · rw [if_pos h1]
      by_cases h2 : k = j
      · simp [h1, h2]
      · have : x.1 ≠ j := fun e => h2 (h1.symm.trans e)
        simp [h1, h2, this]
    · rw [if_neg h1]
      by_cases h2 : x.1 = j
      · have : k ≠ j := fun e => h1 (h2.trans e.symm)
        simp [h2, this]
      · simp [h1, h2]
theorem valK_mem {x : Kv} : ∀ {L : List Kv}, Asc L → x ∈ L → valK x.1 L = x.2 := by
  intro L
  induction L with
  | nil => intro _ h; cases h
  | cons y l ih =>
    intro h hx
    have h' := List.pairwise_cons.1 h
    unfold valK
    rcases List.mem_cons.1 hx with rfl | hx
    · rw [if_pos rfl]
    · rw [if_neg (ltB_ne (h'.1 x hx)), ih h'.2 hx]
theorem asc_nodup (h : Asc L) : (L.map (·.1)).Nodup := by
  unfold Asc at h
  rw [List.nodup_iff_pairwise_ne, List.pairwise_map]
  exact h.imp fun h => ltB_ne h
/-- two rising lists that have the same are one -/
theorem asc_eq {L M : List Kv} (hL : Asc L) (hM : Asc M) (h : L.Perm M) : L = M :=
  h.eq_of_pairwise (fun a b _ _ h1 h2 => by rw [ltB_asymm h1] at h2; cases h2) hL hM
theorem dump_asc (h : Asc L) : Asc (dumpL L) := h.filter _
end
/-! stores -/
structure St where
  parts : Nat
  room : Nat
  L : List Kv
/-- a write -/
structure Wr where
  key : ByteArray
  gone : Bool
  v : Vl
def riseB (ks : List ByteArray) : Bool := (List.range (ks.length - 1)).all fun i => ltB (ks.getD i ⟨#[]⟩) (ks.getD (i + 1) ⟨#[]⟩)
def moreK (s : St) (ks : List ByteArray) (p : Nat) : Nat := ks.countP fun k => !hasK k s.L && decide (partK s.parts k = p)
def fullB (s : St) (ks : List ByteArray) : Bool := (List.range s.parts).any fun p => decide (0 < moreK s ks p) && decide (s.room < cntP s.parts p s.L + moreK s ks p)
def claimE (s : St) (ks : List ByteArray) : Int := if ks.any (fun k => !validK k) = true then 30 else if riseB ks = false then 40 else if fullB s ks = true then 5 else 0
def insAll (L : List Kv) (ks : List ByteArray) : List Kv := ks.foldl (fun L k => insK k L) L
def claimS (s : St) (ks : List ByteArray) : St := if claimE s ks = 0 then { s with L := insAll s.L ks } else s
def wrE (s : St) (ws : List Wr) (i : Nat) : Int :=
  let w := ws.getD i ⟨⟨#[]⟩, false, vl0⟩
  if validK w.key = false then 30
  else if 0 < i ∧ ltB (ws.getD (i - 1) ⟨⟨#[]⟩, false, vl0⟩).key w.key = false then 40
  else if hasK w.key s.L = false then 41
  else if w.v.ok = false then 20
  else if w.gone = true ∧ w.v ≠ vl0 then 2
  else 0
def applyE (s : St) (ws : List Wr) : Int := (scan (wrE s ws) ws.length 0).1
def upAll (L : List Kv) (ws : List Wr) : List Kv := ws.foldl (fun L x => upK x.key x.v L) L
def applyS (s : St) (ws : List Wr) : St := if applyE s ws = 0 then { s with L := upAll s.L ws } else s
/-- what always holds -/
structure St.Ok (s : St) : Prop where
  parts : 1 ≤ s.parts ∧ s.parts ≤ 64
  room : 1 ≤ s.room ∧ s.room ≤ 4096
  asc : Asc s.L
  key : ∀ x ∈ s.L, validK x.1 = true
  val : ∀ x ∈ s.L, x.2.ok = true
  cnt : ∀ p, p < s.parts → cntP s.parts p s.L ≤ s.room
section
variable {s : St} {ks : List ByteArray} {ws : List Wr}
theorem insAll_asc : ∀ {ks : List ByteArray} {L : List Kv}, Asc L → Asc (insAll L ks) := by
  intro ks
  induction ks with
  | nil => intro L h; exact h
  | cons k ks ih => intro L h; exact ih (ins_asc h)
theorem insAll_has {j : ByteArray} : ∀ {ks : List ByteArray} {L : List Kv}, hasK j (insAll L ks) = (ks.any (fun k => decide (k = j)) || hasK j L) := by
  intro ks
  induction ks with
  | nil => intro L; simp [insAll]
  | cons k ks ih =>
    intro L
    show hasK j (insAll (insK k L) ks) = _
    rw [ih, hasK_ins, List.any_cons]
    cases decide (k = j) <;> cases ks.any (fun k => decide (k = j)) <;> simp
theorem insAll_val {j : ByteArray} : ∀ {ks : List ByteArray} {L : List Kv}, Asc L → valK j (insAll L ks) = valK j L := by
  intro ks
  induction ks with
  | nil => intro L _; rfl
  | cons k ks ih => intro L h; exact (ih (ins_asc h)).trans (valK_ins h)
theorem insAll_mem : ∀ {ks : List ByteArray} {L : List Kv} {x : Kv}, x ∈ insAll L ks → (x.1 ∈ ks ∧ x.2 = vl0) ∨ x ∈ L := by
  intro ks
  induction ks with
  | nil => intro L x h; exact .inr h
  | cons k ks ih =>
    intro L x h
    rcases ih (L := insK k L) h with h | h
    · exact .inl ⟨List.mem_cons_of_mem _ h.1, h.2⟩
    · rcases ins_mem h with rfl | h
      · exact .inl ⟨List.mem_cons_self .., rfl⟩
      · exact .inr h
theorem insAll_cnt {n p : Nat} : ∀ {ks : List ByteArray} {L : List Kv}, Asc L → ks.Nodup → cntP n p (insAll L ks) = cntP n p L + ks.countP fun k => !hasK k L && decide (partK n k = p) := by
  intro ks
  induction ks with
  | nil => intro L _ _; rfl
  | cons k ks ih =>
    intro L h hn
    have hn' := List.nodup_cons.1 hn
    show cntP n p (insAll (insK k L) ks) = _
    rw [ih (ins_asc h) hn'.2, cnt_ins h, List.countP_cons]
    have e : (ks.countP fun j => !hasK j (insK k L) && decide (partK n j = p)) = ks.countP fun j => !hasK j L && decide (partK n j = p) := by
      apply List.countP_congr
      intro j hj
      have : k ≠ j := by rintro rfl; exact hn'.1 hj
      rw [hasK_ins]; simp [this]
    rw [e]
    cases hasK k L <;> by_cases h2 : partK n k = p <;> simp [h2] <;> omega
theorem rise_lt (h : riseB ks = true) : ∀ i j, i < j → j < ks.length → ltB (ks.getD i ⟨#[]⟩) (ks.getD j ⟨#[]⟩) = true := by
  intro i j hij hj
  unfold riseB at h
  rw [List.all_eq_true] at h
  induction j with
  | zero => omega
  | succ j ih =>
    have h1 := h j (List.mem_range.2 (by omega))
    by_cases e : i = j
    · subst e; exact h1
    · exact ltB_trans (ih (by omega) (by omega)) h1
theorem rise_nodup (h : riseB ks = true) : ks.Nodup := by
  rw [List.nodup_iff_pairwise_ne, List.pairwise_iff_getElem]
  intro i j hi hj hij
  have := ltB_ne (rise_lt h i j hij hj)
  simpa [List.getD_eq_getElem?_getD, hi, hj] using this
theorem claim_ok (h : s.Ok) (ks : List ByteArray) : (claimS s ks).Ok := by
  unfold claimS
  split
  · rename_i he
    unfold claimE at he
    split at he; · cases he
    rename_i h1
    split at he; · cases he
    rename_i h2
    split at he; · cases he
    rename_i h3
    have hr : riseB ks = true := by simpa using h2
    refine ⟨h.parts, h.room, insAll_asc h.asc, fun x hx => ?_, fun x hx => ?_, fun p hp => ?_⟩
    · rcases insAll_mem hx with ⟨hx, _⟩ | hx
      · simp at h1; exact h1 _ hx
      · exact h.key x hx
    · rcases insAll_mem hx with ⟨_, hx⟩ | hx
      · rw [hx]; decide
      · exact h.val x hx
    · show cntP s.parts p (insAll s.L ks) ≤ s.room
      rw [insAll_cnt h.asc (rise_nodup hr)]
      have hp' : p < s.parts := hp
      have h4 : ¬ (0 < moreK s ks p ∧ s.room < cntP s.parts p s.L + moreK s ks p) := by
        intro h4
        apply h3
        unfold fullB
        exact List.any_eq_true.2 ⟨p, List.mem_range.2 hp', by simp [h4.1, h4.2]⟩
      have h5 := h.cnt p hp'
      unfold moreK at h4
      omega
  · exact h
theorem upAll_keys : ∀ {ws : List Wr} {L : List Kv}, (upAll L ws).map (·.1) = L.map (·.1) := by
  intro ws
  induction ws with
  | nil => intro L; rfl
  | cons x ws ih => intro L; exact (ih (L := upK x.key x.v L)).trans up_keys
theorem up_mem {k : ByteArray} {v : Vl} {L : List Kv} {x : Kv} (h : x ∈ upK k v L) : (x.1 = k ∧ x.2 = v) ∨ x ∈ L := by
  obtain ⟨y, hy, rfl⟩ := List.mem_map.1 h
  split
  · exact .inl ⟨rfl, rfl⟩
  · exact .inr hy
theorem upAll_mem : ∀ {ws : List Wr} {L : List Kv} {x : Kv}, x ∈ upAll L ws → (∃ u ∈ ws, x.1 = u.key ∧ x.2 = u.v) ∨ x ∈ L := by
  intro ws
  induction ws with
  | nil => intro L x h; exact .inr h
  | cons u ws ih =>
    intro L x h
    rcases ih (L := upK u.key u.v L) h with ⟨y, hy, h⟩ | h
    · exact .inl ⟨y, List.mem_cons_of_mem _ hy, h⟩
    · rcases up_mem h with h | h
      · exact .inl ⟨u, List.mem_cons_self .., h⟩
      · exact .inr h
theorem scan_zero (f : Nat → Int) : ∀ (n i : Nat), (scan f n i).1 = 0 ↔ ∀ j, i ≤ j → j < i + n → f j = 0 := by
  intro n
  induction n with
  | zero => intro i; simp [scan]; intro j h1 h2; omega
  | succ n ih =>
    intro i
    unfold scan
    by_cases h : f i = 0
    · rw [if_pos h, ih]
      exact ⟨fun h1 j h2 h3 => by by_cases e : j = i; · rw [e]; exact h
                                  · exact h1 j (by omega) (by omega), fun h1 j h2 h3 => h1 j (by omega) (by omega)⟩
    · rw [if_neg h]
      exact ⟨fun h1 => absurd h1 h, fun h1 => h1 i (by omega) (by omega)⟩
theorem apply_zero (h : applyE s ws = 0) (u : Wr) (hu : u ∈ ws) : validK u.key = true ∧ hasK u.key s.L = true ∧ u.v.ok = true := by
  obtain ⟨i, hi⟩ := List.getElem?_of_mem hu
  have hlt := (List.getElem?_eq_some_iff.1 hi).1
  have := (scan_zero (wrE s ws) ws.length 0).1 h i (by omega) (by omega)
  unfold wrE at this
  simp only [List.getD_eq_getElem?_getD, hi, Option.getD_some] at this
  split at this; · cases this
  rename_i h1
  split at this; · cases this
  split at this; · cases this
  rename_i h3
  split at this; · cases this
  rename_i h4
  exact ⟨by simpa using h1, by simpa using h3, by simpa using h4⟩
theorem apply_ok (h : s.Ok) (ws : List Wr) : (applyS s ws).Ok := by
  unfold applyS
  split
  · rename_i he
    refine ⟨h.parts, h.room, asc_keys upAll_keys h.asc, fun x hx => ?_, fun x hx => ?_, fun p hp => ?_⟩
    · rcases upAll_mem hx with ⟨u, hu, e, _⟩ | hx
      · rw [e]; exact (apply_zero he u hu).1
      · exact h.key x hx
    · rcases upAll_mem hx with ⟨u, hu, _, e⟩ | hx
      · rw [e]; exact (apply_zero he u hu).2.2
      · exact h.val x hx
    · show cntP s.parts p (upAll s.L ws) ≤ s.room
      rw [cnt_keys upAll_keys]; exact h.cnt p hp
  · exact h
end
end Go.Proofs.YtnbbdjbjbjlcpaaDoor
