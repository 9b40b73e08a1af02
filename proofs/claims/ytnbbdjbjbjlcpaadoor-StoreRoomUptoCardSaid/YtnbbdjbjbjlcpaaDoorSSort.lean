/- store: the rows that dump sorts; what has come of the values' map. -/
import Derived.Test.YtnbbdjbjbjlcpaaDoorSOf
namespace Go.Proofs.YtnbbdjbjbjlcpaaDoor
open Go.RowKit Go.Sort Go.Shelf Go.Lib
set_option linter.unusedVariables false
set_option linter.unusedSimpArgs false

instance : Inhabited Vl := ⟨vl0⟩
def encI (x : Kv) : List Value := [.string x.1, .int .i64 x.2.k, .int .i64 x.2.n, .string x.2.s]
theorem encI_len (x : Kv) : (encI x).length = 4 := rfl
theorem encI_one (x : Kv) : ∀ v ∈ encI x, v.oneCell' = true := by
  intro v hv
  simp only [encI, List.mem_cons, List.not_mem_nil, or_false] at hv
  rcases hv with rfl | rfl | rfl | rfl <;> rfl
theorem kvCells_snoc (L : List Kv) (x : Kv) : kvCells (L ++ [x]) = kvCells L ++ encI x := by unfold kvCells; simp [encI]
theorem kvCells_one (L : List Kv) : ∀ v ∈ kvCells L, v.oneCell' = true := by
  intro v hv
  obtain ⟨x, _, hx⟩ := List.mem_flatMap.1 hv
  exact encI_one x v hx
theorem flat_get {L : List Kv} {t : Nat} (ht : t < L.length * 4) : (kvCells L)[t]? = some ((flatK encI 4 L.toArray)[t]!) := by
  rw [get_flatK encI 4 L.toArray t (by simpa using ht)]
  have hi : t / 4 < L.length := by omega
  have hx : L.toArray[t / 4]! = L[t / 4] := by simp [hi]
  rw [hx]
  obtain ⟨h1, h2, h3, h4⟩ := kvCells_at (L := L) (i := t / 4) (x := L[t / 4]) (by simp [hi])
  have hr : t % 4 < 4 := Nat.mod_lt _ (by decide)
  have ht4 : t = t / 4 * 4 + t % 4 := by omega
  generalize L[t / 4] = x at *
  have hc : t % 4 = 0 ∨ t % 4 = 1 ∨ t % 4 = 2 ∨ t % 4 = 3 := by omega
  rcases hc with e | e | e | e <;> rw [e] at ht4 ⊢
  · rw [ht4]; simpa [encI] using h1
  · rw [ht4]; simpa [encI] using h2
  · rw [ht4]; simpa [encI] using h3
  · rw [ht4]; simpa [encI] using h4
theorem holds_kv {w : World} {g cap : Nat} {cur : Array Value} {e : TypeId} {L : List Kv} (hb : w.heap[g]? = some (.cells cur e (0, 0))) (ht : cur.toList.take (L.length * 4) = kvCells L) : HoldsK encI 4 w g 0 L.toArray := by
  intro j hj
  have hj' : j < L.length * 4 := by simpa using hj
  have h1 := flat_get hj'
  rw [← ht, List.getElem?_take_of_lt hj', Array.getElem?_toList] at h1
  refine ⟨?_, by simp [World.frozen?, hb]⟩
  simp only [World.cell?, hb, Nat.zero_add, Option.isSome_none, Bool.false_eq_true, if_false, id]
  exact h1
theorem heap_sortedK {w : World} {g n : Nat} {os : Array Obj} {cur : Array Value} {e : TypeId} {fr : Nat × Nat} (d : Array Kv) (hb : w.heap[g]? = some (.cells cur e fr)) :
    (sortWorldK encI 4 w g 0 n d os).heap[g]? = some (.cells (putCells id 0 (flatK encI 4 d) cur) e fr) := by
  have hg : g < w.heap.size := (Array.getElem?_eq_some_iff.1 hb).1
  unfold sortWorldK putRowK
  rw [heap_grow_old _ _ (by simpa using hg)]
  simp [putRow, mapBlock, Sort.ahead, Array.getElem?_modify, hb, onCells]
theorem grownBy_sortedK {w : World} {g n : Nat} {os : Array Obj} (d : Array Kv) : w.grownBy (sortWorldK encI 4 w g 0 n d os) (some g) := by
  unfold sortWorldK putRowK
  refine ⟨rfl, rfl, rfl, by simp, fun k hk hne => ?_⟩
  rw [heap_grow_old _ _ (by simpa using hk)]
  have : g ≠ k := fun e => hne (by rw [e])
  simp [putRow, mapBlock, Sort.ahead, Array.getElem?_modify, this]
theorem ownsRow_sortedK {w : World} {base g cap n : Nat} {e : TypeId} {os : Array Obj} {cur : Array Value} {ss ts : List Kv} (hl : ts.length = ss.length) (hbase : base ≤ g) (hb : w.heap[g]? = some (.cells cur e (0, 0)))
    (h1 : ss.length ≤ cap) (h2 : cap ≤ maxLen) (h3 : cur.size = cap * 4) :
    (sortWorldK encI 4 w g 0 n ts.toArray os).ownsRow base e 4 (.slice (some ⟨g, 0, none⟩) ss.length cap) ss.length (kvCells ts) := by
  refine ⟨by rw [kvCells_len, hl], .inr ⟨g, cap, _, rfl, hbase, heap_sortedK _ hb, h1, h2, by simp [putCells, h3], ?_⟩⟩
  apply List.ext_getElem?
  intro j
  by_cases hj : j < ts.length * 4
  · rw [List.getElem?_take_of_lt (by omega), Array.getElem?_toList, flat_get hj]
    simp [putCells, hj, show j < cur.size by omega]
  · rw [List.getElem?_take_eq_none (by omega), List.getElem?_eq_none (by rw [kvCells_len]; omega)]
/-! the order -/
def cfK (x y : Kv) : Int := Lib.compareBytes x.1.data.toList y.1.data.toList
theorem ltOf_kv (x y : Kv) : ltOf cfK x y = ltB x.1 y.1 := by
  have h := ltB_iff x.1 y.1
  rw [ByteArray.toList_eq, ByteArray.toList_eq] at h
  have hr := ord_bytes.rng x.1.data.toList y.1.data.toList
  unfold ltOf cfK
  rw [Bool.eq_iff_iff, decide_eq_true_eq, h]
  omega
theorem swo_kv : SWO (ltOf cfK) where
  irrefl x := by rw [ltOf_kv]; exact ltB_irrefl _
  trans x y z h1 h2 := by rw [ltOf_kv] at *; exact ltB_trans h1 h2
  ntrans x y z h1 h2 := by
    rw [ltOf_kv] at *
    cases h : ltB x.1 z.1 with
    | false => rfl
    | true =>
      cases h3 : ltB y.1 x.1 with
      | true => rw [ltB_trans h3 h] at h2; cases h2
      | false => rw [ltB_tri h1 h3] at h; rw [h] at h2; cases h2
theorem sorted_kv {out M : List Kv} {d' : Array Kv} (hM : Asc M) (hp : out.Perm M) (h1 : PermIn 0 out.toArray.size out.toArray d') (h2 : SortedIn (ltOf cfK) 0 out.toArray.size d') : d'.toList = M := by
  obtain ⟨hsz, _, hpe⟩ := h1
  have hsz' : d'.size = out.length := by simpa using hsz
  have e1 : (d'.extract 0 out.toArray.size).toList = d'.toList := by
    rw [show out.toArray.size = d'.size by rw [hsz]]; simp
  have e2 : (out.toArray.extract 0 out.toArray.size).toList = out := by simp
  rw [e1, e2] at hpe
  have hpm := hpe.trans hp
  refine asc_eq ?_ hM hpm
  unfold Asc
  rw [List.pairwise_iff_getElem]
  intro i j hi hj hij
  have hs := h2 i j (Nat.zero_le _) hij (by simp at hj ⊢; omega)
  rw [ltOf_kv] at hs
  have gi : d'[i]! = d'.toList[i] := by simp at hi; simp [hi]
  have gj : d'[j]! = d'.toList[j] := by simp at hj; simp [hj]
  rw [gi, gj] at hs
  cases h : ltB (d'.toList[i]).1 (d'.toList[j]).1 with
  | true => rfl
  | false =>
    have e := ltB_tri h hs
    have hn : (d'.toList.map (·.1)).Nodup := (hpm.map _).nodup_iff.2 (asc_nodup hM)
    rw [List.nodup_iff_pairwise_ne, List.pairwise_map, List.pairwise_iff_getElem] at hn
    exact absurd e (hn i j hi hj hij)
/-! what has come -/
def vlV (v : Vl) : Value := .agg #[.int .i64 v.k, .int .i64 v.n, .string v.s]
theorem vlV_inj {u v : Vl} (h : vlV u = vlV v) : u = v := by
  unfold vlV at h
  obtain ⟨a, b, c⟩ := u
  obtain ⟨a', b', c'⟩ := v
  injection h with h
  simp at h
  obtain ⟨h1, h2, h3⟩ := h
  subst h1; subst h2; subst h3; rfl
def encP (x : Kv) : Value × Value := (.string x.1, vlV x.2)
theorem dv_some {L : List Kv} {k : ByteArray} {u : Value} (ha : Asc L) (h : Dv L k = some u) : (k, valK k L) ∈ dumpL L ∧ u = vlV (valK k L) := by
  unfold Dv at h
  by_cases h0 : (valK k L).k = 0
  · rw [if_pos h0] at h; cases h
  · rw [if_neg h0] at h
    injection h with h
    have hk : hasK k L = true := by
      cases hh : hasK k L with
      | true => rfl
      | false => exact absurd (by rw [valK_none hh]; rfl) h0
    obtain ⟨x, hx, hxk⟩ := hasK_mem.1 hk
    have := valK_mem ha hx
    rw [hxk] at this
    refine ⟨List.mem_filter.2 ⟨?_, by simp [h0]⟩, h.symm⟩
    rw [this, ← hxk]; exact hx
theorem dump_mem {L : List Kv} (ha : Asc L) {x : Kv} (h : x ∈ dumpL L) : Dv L x.1 = some (vlV x.2) := by
  obtain ⟨h1, h2⟩ := List.mem_filter.1 h
  have := valK_mem ha h1
  simp at h2
  unfold Dv
  rw [this, if_neg h2]; rfl
theorem nodup_of_map {α β : Type} (f : α → β) {l : List α} (h : (l.map f).Nodup) : l.Nodup := by
  rw [List.nodup_iff_pairwise_ne, List.pairwise_map] at h
  rw [List.nodup_iff_pairwise_ne]
  exact h.imp fun h e => h (by rw [e])
theorem nodup_map {α β : Type} {f : α → β} (hf : ∀ a b, f a = f b → a = b) {l : List α} (h : l.Nodup) : (l.map f).Nodup := by
  rw [List.nodup_iff_pairwise_ne] at h
  rw [List.nodup_iff_pairwise_ne, List.pairwise_map]
  exact h.imp fun h e => h (hf _ _ e)
theorem kvp_inj : ∀ a b : Kv, ((a.1, vlV a.2) : ByteArray × Value) = (b.1, vlV b.2) → a = b := fun a b e => by
  obtain ⟨a1, a2⟩ := a; obtain ⟨b1, b2⟩ := b
  injection e with e1 e2
  simp only at e1 e2
  rw [e1, vlV_inj e2]
theorem map_perm {w : World} {b : Nat} {L : List Kv} {l : List (ByteArray × Value)} (ha : Asc L) (h : MapIs strE w b l) (hd : ∀ x, getK x l = Dv L x) : l.Perm ((dumpL L).map fun x => (x.1, vlV x.2)) := (List.perm_ext_iff_of_nodup (nodup_of_map _ h.nodup) (nodup_map kvp_inj (nodup_of_map _ (asc_nodup (dump_asc ha))))).2 fun p => by
  obtain ⟨y, u⟩ := p
  rw [← getK_mem h.nodup, hd]
  constructor
  · intro hy
    obtain ⟨h4, h5⟩ := dv_some ha hy
    exact List.mem_map.2 ⟨_, h4, by rw [h5]⟩
  · intro hy
    obtain ⟨x, hx, e⟩ := List.mem_map.1 hy
    injection e with e1 e2
    rw [← e1, ← e2]; exact dump_mem ha hx
theorem map_len {w : World} {b : Nat} {L : List Kv} {l : List (ByteArray × Value)} (ha : Asc L) (h : MapIs strE w b l) (hd : ∀ x, getK x l = Dv L x) : l.length = (dumpL L).length := by
  rw [(map_perm ha h hd).length_eq, List.length_map]
/-- what came of the values' map is what dump tells, in some order -/
theorem done_dump {w : World} {b : Nat} {L : List Kv} {l : List (ByteArray × Value)} {es : Array MapEntry} {out : List Kv} (ha : Asc L) (h : MapIs strE w b l) (hd : ∀ x, getK x l = Dv L x) (hpr : pairs es.toList = encs strE l) (ho : (pairs es.toList).Perm (out.map encP)) : out.Perm (dumpL L) := by
  have e1 : out.map encP = encs strE (out.map fun x => (x.1, vlV x.2)) := by unfold encs; rw [List.map_map]; rfl
  rw [hpr, e1] at ho
  have h4 := (encs_inj w ho).symm.trans (map_perm ha h hd)
  exact encs_inj.perm_of_map (f := fun x : Kv => (x.1, vlV x.2)) (fun a b e => kvp_inj a b e) h4
theorem done_le {κ : Type} [DecidableEq κ] {P : Program} {k : TypeId} {E : KeyEnc P k κ} {es : Array MapEntry} {seen : Array Nat} {l : List (κ × Value)} (hpr : pairs es.toList = encs E l) : (doneOf es seen).length ≤ l.length := by
  have h1 : (pairs es.toList).length = l.length := by rw [hpr]; simp [encs]
  have h2 : (doneOf es seen).length ≤ (pairs es.toList).length := by unfold doneOf pairs; simp only [List.length_map]; exact List.length_filter_le _ _
  omega
/-! how many there are -/
theorem len_parts {α : Type} (f : α → Nat) (r : Nat) : ∀ (n : Nat) (l : List α), (∀ x ∈ l, f x < n) → (∀ p, p < n → l.countP (fun x => decide (f x = p)) ≤ r) → l.length ≤ n * r := by
  intro n
  induction n with
  | zero =>
    intro l h _
    cases l with
    | nil => simp
    | cons x l => have := h x (List.mem_cons_self ..); omega
  | succ n ih =>
    intro l h hc
    have h1 := ih (l.filter fun x => !decide (f x = n)) (fun x hx => by
      have h2 := List.mem_filter.1 hx
      have := h x h2.1
      simp at h2
      omega) fun p hp => by
        refine Nat.le_trans ?_ (hc p (by omega))
        exact (List.filter_sublist).countP_le
    have h2 := hc n (by omega)
    have h3 : l.length = (l.filter fun x => decide (f x = n)).length + (l.filter fun x => !decide (f x = n)).length := by
      rw [← List.countP_eq_length_filter, ← List.countP_eq_length_filter]
      have := List.length_eq_countP_add_countP (l := l) (fun x => decide (f x = n))
      rw [this]
      congr 1
      exact List.countP_congr fun x _ => by simp
    rw [← List.countP_eq_length_filter] at h3
    rw [Nat.succ_mul]
    omega
theorem St.Ok.len {s : St} (h : s.Ok) : s.L.length ≤ 262144 := by
  have := len_parts (fun x : Kv => partK s.parts x.1) s.room s.parts s.L (fun x _ => partK_lt _ (by have := h.parts; omega)) fun p hp => h.cnt p hp
  have h1 := h.parts.2
  have h2 := h.room.2
  have : s.parts * s.room ≤ 64 * 4096 := Nat.mul_le_mul h1 h2
  omega
theorem St.Ok.dlen {s : St} (h : s.Ok) : (dumpL s.L).length ≤ 262144 := Nat.le_trans (List.length_filter_le _ _) h.len
end Go.Proofs.YtnbbdjbjbjlcpaaDoor
