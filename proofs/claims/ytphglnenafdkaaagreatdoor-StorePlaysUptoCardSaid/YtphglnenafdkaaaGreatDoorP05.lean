/- Texts of the proof, joined: SSort, SRAt, SDump, SView, SClaimP, SKeysP, WShelf, SKeysS, SKeys, PShelf. -/
import Derived.Test.YtphglnenafdkaaaGreatDoorP04
import Derived.Shelf.SlSortCmp.NoneTotal
import Derived.Lib.Hide
import Derived.Shelf.Small.Bits
import Derived.Shelf.Small.Strs
import Derived.Shelf.Strconv.Itoa0
import Derived.Shelf.LaysM
import Derived.Shelf.Bytes.Len
import Derived.Shelf.Bytes.TryGrow
import Derived.Shelf.Bytes.GrowSliceCatch
import Derived.Shelf.Bytes.GrowSlice
import Derived.Shelf.Strings.Search1
import Derived.Shelf.Bytes.GrowRow0Kept
import Derived.Shelf.Strings.Search2
import Derived.Shelf.Strings.Search3
import Derived.Shelf.Bytes.GrowNilKept
import Derived.Shelf.Strings.Cut
import Derived.Shelf.Strings.Count
import Derived.Shelf.Strings.Shaped
import Derived.Shelf.Sort.Plain
import Derived.Shelf.Bytes.ResetKept
import Derived.Shelf.Unicode.DecodeSlow
import Derived.Shelf.Slices.In.SortNone
import Derived.Ground.SlgfProg
import Derived.Shelf.SlicesE.IndexFunc
import Derived.Test.YtphglnenafdkaaaGreatDoorProg
import Derived.Shelf.Strconv.Itoa1
import Derived.Shelf.Strconv.Itoa2
import Derived.Shelf.Strconv.Itoa3
import Derived.Shelf.Strconv.Itoa4
import Derived.Shelf.Bytes.Bytes
import Derived.Shelf.Strconv.ParseIntEmpty
import Derived.Shelf.Strconv.Clone
import Derived.Shelf.Strconv.Lower
import Derived.Shelf.Strconv.ParseUint10Empty
import Derived.Shelf.Strconv.ParseUintEmpty
import Derived.Shelf.Bytes.GrowRowKept
import Derived.Shelf.Bytes.GrowKept
import Derived.Shelf.Bytes.WriteStringKept
import Derived.Shelf.Bytes.BufferK
namespace Go.Proofs.YtphglnenafdkaaaGreatDoor
open Go.RowKit Go.Sort Go.Shelf Go.Lib
set_option linter.unusedVariables false
set_option linter.unusedSimpArgs false

instance : Inhabited Vl := ⟨vl0⟩
def encI (x : Kv) : List Value := [.string x.1, .int .i64 x.2.k, .int .i64 x.2.n, .string x.2.s]
theorem encI_len (x : Kv) : (encI x).length = 4 := rfl
theorem encI_one (x : Kv) : ∀ v ∈ encI x, v.oneCell' = true := by
  intro v hv
  simp only [encI, List.mem_cons, List.not_mem_nil, or_false] at hv
  rcases hv with rfl | rfl | rfl | rfl <;> rfl
theorem kvCells_snoc (L : List Kv) (x : Kv) : kvCells (L ++ [x]) = kvCells L ++ encI x := by unfold kvCells; simp [encI]
theorem kvCells_one (L : List Kv) : ∀ v ∈ kvCells L, v.oneCell' = true := by
  intro v hv
  obtain ⟨x, _, hx⟩ := List.mem_flatMap.1 hv
  exact encI_one x v hx
theorem flat_get {L : List Kv} {t : Nat} (ht : t < L.length * 4) : (kvCells L)[t]? = some ((flatK encI 4 L.toArray)[t]!) := by
  rw [get_flatK encI 4 L.toArray t (by simpa using ht)]
  have hi : t / 4 < L.length := by omega
  have hx : L.toArray[t / 4]! = L[t / 4] := by simp [hi]
  rw [hx]
  obtain ⟨h1, h2, h3, h4⟩ := kvCells_at (L := L) (i := t / 4) (x := L[t / 4]) (by simp [hi])
  have hr : t % 4 < 4 := Nat.mod_lt _ (by decide)
  have ht4 : t = t / 4 * 4 + t % 4 := by omega
  generalize L[t / 4] = x at *
  have hc : t % 4 = 0 ∨ t % 4 = 1 ∨ t % 4 = 2 ∨ t % 4 = 3 := by omega
  rcases hc with e | e | e | e <;> rw [e] at ht4 ⊢
  · rw [ht4]; simpa [encI] using h1
  · rw [ht4]; simpa [encI] using h2
  · rw [ht4]; simpa [encI] using h3
  · rw [ht4]; simpa [encI] using h4
theorem holds_kv {w : World} {g cap : Nat} {cur : Array Value} {e : TypeId} {L : List Kv} (hb : w.heap[g]? = some (.cells cur e (0, 0))) (ht : cur.toList.take (L.length * 4) = kvCells L) : HoldsK encI 4 w g 0 L.toArray := by
  intro j hj
  have hj' : j < L.length * 4 := by simpa using hj
  have h1 := flat_get hj'
  rw [← ht, List.getElem?_take_of_lt hj', Array.getElem?_toList] at h1
  refine ⟨?_, by simp [World.frozen?, hb]⟩
  simp only [World.cell?, hb, Nat.zero_add, Option.isSome_none, Bool.false_eq_true, if_false, id]
  exact h1
theorem heap_sortedK {w : World} {g n : Nat} {os : Array Obj} {cur : Array Value} {e : TypeId} {fr : Nat × Nat} (d : Array Kv) (hb : w.heap[g]? = some (.cells cur e fr)) :
    (sortWorldK encI 4 w g 0 n d os).heap[g]? = some (.cells (putCells id 0 (flatK encI 4 d) cur) e fr) := by
  have hg : g < w.heap.size := (Array.getElem?_eq_some_iff.1 hb).1
  unfold sortWorldK putRowK
  rw [heap_grow_old _ _ (by simpa using hg)]
  simp [putRow, mapBlock, Sort.ahead, Array.getElem?_modify, hb, onCells]
theorem grownBy_sortedK {w : World} {g n : Nat} {os : Array Obj} (d : Array Kv) : w.grownBy (sortWorldK encI 4 w g 0 n d os) (some g) := by
  unfold sortWorldK putRowK
  refine ⟨rfl, rfl, rfl, by simp, fun k hk hne => ?_⟩
  rw [heap_grow_old _ _ (by simpa using hk)]
  have : g ≠ k := fun e => hne (by rw [e])
  simp [putRow, mapBlock, Sort.ahead, Array.getElem?_modify, this]
theorem ownsRow_sortedK {w : World} {base g cap n : Nat} {e : TypeId} {os : Array Obj} {cur : Array Value} {ss ts : List Kv} (hl : ts.length = ss.length) (hbase : base ≤ g) (hb : w.heap[g]? = some (.cells cur e (0, 0)))
    (h1 : ss.length ≤ cap) (h2 : cap ≤ maxLen) (h3 : cur.size = cap * 4) :
    (sortWorldK encI 4 w g 0 n ts.toArray os).ownsRow base e 4 (.slice (some ⟨g, 0, none⟩) ss.length cap) ss.length (kvCells ts) := by
  refine ⟨by rw [kvCells_len, hl], .inr ⟨g, cap, _, rfl, hbase, heap_sortedK _ hb, h1, h2, by simp [putCells, h3], ?_⟩⟩
  apply List.ext_getElem?
  intro j
  by_cases hj : j < ts.length * 4
  · rw [List.getElem?_take_of_lt (by omega), Array.getElem?_toList, flat_get hj]
    simp [putCells, hj, show j < cur.size by omega]
  · rw [List.getElem?_take_eq_none (by omega), List.getElem?_eq_none (by rw [kvCells_len]; omega)]
/-! the order -/
def cfK (x y : Kv) : Int := Lib.compareBytes x.1.data.toList y.1.data.toList
theorem ltOf_kv (x y : Kv) : ltOf cfK x y = ltB x.1 y.1 := by
  have h := ltB_iff x.1 y.1
  rw [ByteArray.toList_eq, ByteArray.toList_eq] at h
  have hr := ord_bytes.rng x.1.data.toList y.1.data.toList
  unfold ltOf cfK
  rw [Bool.eq_iff_iff, decide_eq_true_eq, h]
  omega
theorem swo_kv : SWO (ltOf cfK) where
  irrefl x := by rw [ltOf_kv]; exact ltB_irrefl _
  trans x y z h1 h2 := by rw [ltOf_kv] at *; exact ltB_trans h1 h2
  ntrans x y z h1 h2 := by
    rw [ltOf_kv] at *
    cases h : ltB x.1 z.1 with
    | false => rfl
    | true =>
      cases h3 : ltB y.1 x.1 with
      | true => rw [ltB_trans h3 h] at h2; cases h2
      | false => rw [ltB_tri h1 h3] at h; rw [h] at h2; cases h2
theorem sorted_kv {out M : List Kv} {d' : Array Kv} (hM : Asc M) (hp : out.Perm M) (h1 : PermIn 0 out.toArray.size out.toArray d') (h2 : SortedIn (ltOf cfK) 0 out.toArray.size d') : d'.toList = M := by
  obtain ⟨hsz, _, hpe⟩ := h1
  have hsz' : d'.size = out.length := by simpa using hsz
  have e1 : (d'.extract 0 out.toArray.size).toList = d'.toList := by
    rw [show out.toArray.size = d'.size by rw [hsz]]; simp
  have e2 : (out.toArray.extract 0 out.toArray.size).toList = out := by simp
  rw [e1, e2] at hpe
  have hpm := hpe.trans hp
  refine asc_eq ?_ hM hpm
  unfold Asc
  rw [List.pairwise_iff_getElem]
  intro i j hi hj hij
  have hs := h2 i j (Nat.zero_le _) hij (by simp at hj ⊢; omega)
  rw [ltOf_kv] at hs
  have gi : d'[i]! = d'.toList[i] := by simp at hi; simp [hi]
  have gj : d'[j]! = d'.toList[j] := by simp at hj; simp [hj]
  rw [gi, gj] at hs
  cases h : ltB (d'.toList[i]).1 (d'.toList[j]).1 with
  | true => rfl
  | false =>
    have e := ltB_tri h hs
    have hn : (d'.toList.map (·.1)).Nodup := (hpm.map _).nodup_iff.2 (asc_nodup hM)
    rw [List.nodup_iff_pairwise_ne, List.pairwise_map, List.pairwise_iff_getElem] at hn
    exact absurd e (hn i j hi hj hij)
/-! what has come -/
def vlV (v : Vl) : Value := .agg #[.int .i64 v.k, .int .i64 v.n, .string v.s]
theorem vlV_inj {u v : Vl} (h : vlV u = vlV v) : u = v := by
  unfold vlV at h
  obtain ⟨a, b, c⟩ := u
  obtain ⟨a', b', c'⟩ := v
  injection h with h
  simp at h
  obtain ⟨h1, h2, h3⟩ := h
  subst h1; subst h2; subst h3; rfl
def encP (x : Kv) : Value × Value := (.string x.1, vlV x.2)
theorem dv_some {L : List Kv} {k : ByteArray} {u : Value} (ha : Asc L) (h : Dv L k = some u) : (k, valK k L) ∈ dumpL L ∧ u = vlV (valK k L) := by
  unfold Dv at h
  by_cases h0 : (valK k L).k = 0
  · rw [if_pos h0] at h; cases h
  · rw [if_neg h0] at h
    injection h with h
    have hk : hasK k L = true := by
      cases hh : hasK k L with
      | true => rfl
      | false => exact absurd (by rw [valK_none hh]; rfl) h0
    obtain ⟨x, hx, hxk⟩ := hasK_mem.1 hk
    have := valK_mem ha hx
    rw [hxk] at this
    refine ⟨List.mem_filter.2 ⟨?_, by simp [h0]⟩, h.symm⟩
    rw [this, ← hxk]; exact hx
theorem dump_mem {L : List Kv} (ha : Asc L) {x : Kv} (h : x ∈ dumpL L) : Dv L x.1 = some (vlV x.2) := by
  obtain ⟨h1, h2⟩ := List.mem_filter.1 h
  have := valK_mem ha h1
  simp at h2
  unfold Dv
  rw [this, if_neg h2]; rfl
theorem nodup_of_map {α β : Type} (f : α → β) {l : List α} (h : (l.map f).Nodup) : l.Nodup := by
  rw [List.nodup_iff_pairwise_ne, List.pairwise_map] at h
  rw [List.nodup_iff_pairwise_ne]
  exact h.imp fun h e => h (by rw [e])
theorem nodup_map {α β : Type} {f : α → β} (hf : ∀ a b, f a = f b → a = b) {l : List α} (h : l.Nodup) : (l.map f).Nodup := by
  rw [List.nodup_iff_pairwise_ne] at h
  rw [List.nodup_iff_pairwise_ne, List.pairwise_map]
  exact h.imp fun h e => h (hf _ _ e)
theorem kvp_inj : ∀ a b : Kv, ((a.1, vlV a.2) : ByteArray × Value) = (b.1, vlV b.2) → a = b := fun a b e => by
  obtain ⟨a1, a2⟩ := a; obtain ⟨b1, b2⟩ := b
  injection e with e1 e2
  simp only at e1 e2
  rw [e1, vlV_inj e2]
theorem map_perm {w : World} {b : Nat} {L : List Kv} {l : List (ByteArray × Value)} (ha : Asc L) (h : MapIs strE w b l) (hd : ∀ x, getK x l = Dv L x) : l.Perm ((dumpL L).map fun x => (x.1, vlV x.2)) := (List.perm_ext_iff_of_nodup (nodup_of_map _ h.nodup) (nodup_map kvp_inj (nodup_of_map _ (asc_nodup (dump_asc ha))))).2 fun p => by
  obtain ⟨y, u⟩ := p
  rw [← getK_mem h.nodup, hd]
  constructor
  · intro hy
    obtain ⟨h4, h5⟩ := dv_some ha hy
    exact List.mem_map.2 ⟨_, h4, by rw [h5]⟩
  · intro hy
    obtain ⟨x, hx, e⟩ := List.mem_map.1 hy
    injection e with e1 e2
    rw [← e1, ← e2]; exact dump_mem ha hx
theorem map_len {w : World} {b : Nat} {L : List Kv} {l : List (ByteArray × Value)} (ha : Asc L) (h : MapIs strE w b l) (hd : ∀ x, getK x l = Dv L x) : l.length = (dumpL L).length := by
  rw [(map_perm ha h hd).length_eq, List.length_map]
/-- what came of the values' map is what dump tells, in some order -/
theorem done_dump {w : World} {b : Nat} {L : List Kv} {l : List (ByteArray × Value)} {es : Array MapEntry} {out : List Kv} (ha : Asc L) (h : MapIs strE w b l) (hd : ∀ x, getK x l = Dv L x) (hpr : pairs es.toList = encs strE l) (ho : (pairs es.toList).Perm (out.map encP)) : out.Perm (dumpL L) := by
  have e1 : out.map encP = encs strE (out.map fun x => (x.1, vlV x.2)) := by unfold encs; rw [List.map_map]; rfl
  rw [hpr, e1] at ho
  have h4 := (encs_inj w ho).symm.trans (map_perm ha h hd)
  exact encs_inj.perm_of_map (f := fun x : Kv => (x.1, vlV x.2)) (fun a b e => kvp_inj a b e) h4
theorem done_le {κ : Type} [DecidableEq κ] {P : Program} {k : TypeId} {E : KeyEnc P k κ} {es : Array MapEntry} {seen : Array Nat} {l : List (κ × Value)} (hpr : pairs es.toList = encs E l) : (doneOf es seen).length ≤ l.length := by
  have h1 : (pairs es.toList).length = l.length := by rw [hpr]; simp [encs]
  have h2 : (doneOf es seen).length ≤ (pairs es.toList).length := by unfold doneOf pairs; simp only [List.length_map]; exact List.length_filter_le _ _
  omega
/-! how many there are -/
theorem len_parts {α : Type} (f : α → Nat) (r : Nat) : ∀ (n : Nat) (l : List α), (∀ x ∈ l, f x < n) → (∀ p, p < n → l.countP (fun x => decide (f x = p)) ≤ r) → l.length ≤ n * r := by
  intro n
  induction n with
  | zero =>
    intro l h _
    cases l with
    | nil => simp
    | cons x l => have := h x (List.mem_cons_self ..); omega
  | succ n ih =>
    intro l h hc
    have h1 := ih (l.filter fun x => !decide (f x = n)) (fun x hx => by
      have h2 := List.mem_filter.1 hx
      have := h x h2.1
      simp at h2
      omega) fun p hp => by
        refine Nat.le_trans ?_ (hc p (by omega))
        exact (List.filter_sublist).countP_le
    have h2 := hc n (by omega)
    have h3 : l.length = (l.filter fun x => decide (f x = n)).length + (l.filter fun x => !decide (f x = n)).length := by
      rw [← List.countP_eq_length_filter, ← List.countP_eq_length_filter]
      have := List.length_eq_countP_add_countP (l := l) (fun x => decide (f x = n))
      rw [this]
      congr 1
      exact List.countP_congr fun x _ => by simp
    rw [← List.countP_eq_length_filter] at h3
    rw [Nat.succ_mul]
    omega
theorem St.Ok.len {s : St} (h : s.Ok) : s.L.length ≤ 262144 := by
  have := len_parts (fun x : Kv => partK s.parts x.1) s.room s.parts s.L (fun x _ => partK_lt _ (by have := h.parts; omega)) fun p hp => h.cnt p hp
  have h1 := h.parts.2
  have h2 := h.room.2
  have : s.parts * s.room ≤ 64 * 4096 := Nat.mul_le_mul h1 h2
  omega
theorem St.Ok.dlen {s : St} (h : s.Ok) : (dumpL s.L).length ≤ 262144 := Nat.le_trans (List.length_filter_le _ _) h.len
end Go.Proofs.YtphglnenafdkaaaGreatDoor

namespace Go.Proofs.YtphglnenafdkaaaGreatDoor
open Go.RowKit
set_option linter.unusedVariables false
set_option linter.unusedSimpArgs false

theorem has_pos {L : List Kv} {k : ByteArray} (ha : Asc L) (h : posK k L < L.length) : hasK k L = decide ((L[posK k L]).1 = k) := by
  cases hh : hasK k L with
  | true =>
    obtain ⟨x, h1, h2, _⟩ := pos_get ha hh
    rw [List.getElem?_eq_getElem h] at h1
    injection h1 with h1
    rw [h1, h2]; simp
  | false =>
    symm
    apply decide_eq_false
    intro e
    have : hasK k L = true := hasK_mem.2 ⟨_, List.getElem_mem h, e⟩
    rw [hh] at this; cases this
theorem has_end {L : List Kv} {k : ByteArray} (ha : Asc L) (h : ¬ posK k L < L.length) : hasK k L = false := by
  cases hh : hasK k L with
  | false => rfl
  | true =>
    obtain ⟨x, h1, _⟩ := pos_get ha hh
    exact absurd (List.getElem?_eq_some_iff.1 h1).1 h
theorem rnew_bad (p r : Int) (w : World) (h : goodPR p r = false) : Calls Tryz.prog 15 #[.int .i64 p, .int .i64 r] w fun e w' => e = .returned (.tuple #[.pointer none, .int .i64 2]) ∧ w' = w := by
  have hc : p < 1 ∨ (1 ≤ p ∧ 64 < p) ∨ (1 ≤ p ∧ p ≤ 64 ∧ r < 1) ∨ (1 ≤ p ∧ p ≤ 64 ∧ 1 ≤ r ∧ 4096 < r) := by
    unfold goodPR at h
    simp at h
    omega
  clear h
  rcases hc with h | ⟨h1, h⟩ | ⟨h1, h2, h⟩ | ⟨h1, h2, h3, h⟩
  · have t1 : decide (p < 1) = true := decide_eq_true h
    clear h
    go_enter Tryz.func15, Tryz.ntmps15
    go_wp2_with fail
    go_ret2
    exact ⟨rfl, rfl⟩
  · have t1 : decide (p < 1) = false := decide_eq_false (by omega)
    have t2 : decide (64 < p) = true := decide_eq_true h
    clear h h1
    go_enter Tryz.func15, Tryz.ntmps15
    go_wp2_with fail
    go_ret2
    exact ⟨rfl, rfl⟩
  · have t1 : decide (p < 1) = false := decide_eq_false (by omega)
    have t2 : decide (64 < p) = false := decide_eq_false (by omega)
    have t3 : decide (r < 1) = true := decide_eq_true h
    clear h h1 h2
    go_enter Tryz.func15, Tryz.ntmps15
    go_wp2_with fail
    go_ret2
    exact ⟨rfl, rfl⟩
  · have t1 : decide (p < 1) = false := decide_eq_false (by omega)
    have t2 : decide (64 < p) = false := decide_eq_false (by omega)
    have t3 : decide (r < 1) = false := decide_eq_false (by omega)
    have t4 : decide (4096 < r) = true := decide_eq_true h
    clear h h1 h2 h3
    go_enter Tryz.func15, Tryz.ntmps15
    go_wp2_with fail
    go_ret2
    exact ⟨rfl, rfl⟩
theorem rnew_ok (p r : Nat) (w : World) (hp : 1 ≤ p ∧ p ≤ 64) (hr : 1 ≤ r ∧ r ≤ 4096) : Calls Tryz.prog 15 #[.int .i64 p, .int .i64 r] w fun e w' => ∃ S g, e = .returned (.tuple #[.pointer (some ⟨g, 0, none⟩), .int .i64 0]) ∧ RAt S w' g ⟨p, r, []⟩ ∧ (∀ j, S j → w.heap.size ≤ j) ∧ Below w.heap.size w w' := by
  have t1 : decide ((p : Int) < 1) = false := decide_eq_false (by omega)
  have t2 : decide (64 < (p : Int)) = false := decide_eq_false (by omega)
  have t3 : decide ((r : Int) < 1) = false := decide_eq_false (by omega)
  have t4 : decide (4096 < (r : Int)) = false := decide_eq_false (by omega)
  have t2n : decide (64 < p) = false := decide_eq_false (by omega)
  have t4n : decide (4096 < r) = false := decide_eq_false (by omega)
  have hfin : Hid (RAt (fun j => j = w.heap.size) (w.alloc (.cells #[.int .i64 p, .int .i64 r, .slice none 0 0] 94)) w.heap.size ⟨p, r, []⟩) := hid ⟨none, 0, Blk.new w _ _, Rd.nil_, .inl ⟨rfl, rfl, rfl⟩, rfl, fun j hj => by subst hj; simp, st_ok hp hr⟩
  clear hp hr
  go_enter Tryz.func15, Tryz.ntmps15
  go_wp2_with fail
  go_ret2
  exact ⟨_, _, rfl, hfin.out, fun j hj => by omega, (Below.refl _ _).alloc (Nat.le_refl _) _⟩
section
variable {S : Nat → Prop} {w w' : World} {r : Nat} {s : St}
set_option maxRecDepth 100000 in
set_option maxHeartbeats 4000000 in
theorem at_any (k : ByteArray) (h : RAt S w r s) : Calls Tryz.prog 48 #[.pointer (some ⟨r, 0, none⟩), .string k] w fun e w' => e = .returned (.tuple #[.int .i64 (posK k s.L : Nat), .bool (hasK k s.L)]) ∧ Below w.heap.size w w' := by
  obtain ⟨A, c, h⟩ := h
  have HH := hid h
  have hlen := h.ok.len
  have hN : (s.L.length : Int) ≤ 262144 := by omega
  have c2 := h.cells.2.2
  clear h hlen
  go_enter Tryz.func48, Tryz.ntmps48
  go_wp2_with fail
  go_quiet (fail)
  go_wp2_with fail
  go_loopw [6, 7] (fun u v wr => ∃ lo hi : Nat, u = .int .i64 lo ∧ v = .int .i64 hi ∧ lo ≤ posK k s.L ∧ posK k s.L ≤ hi ∧ hi ≤ s.L.length ∧ Below w.heap.size w wr) (fun u v _ => (intOf v).toNat - (intOf u).toNat)
  case atStart => exact ⟨0, _, rfl, rfl, Nat.zero_le _, posK_le, Nat.le_refl _, below_drewN (Below.refl _ _) _⟩
  case round =>
    clear c2
    obtain ⟨lo, hi, rfl, rfl, h1, h2, h3, hB0⟩ := hrel
    have hB := hid hB0
    clear hB0
    have hP := HH.out.below hB.out
    have c2 : wr.cell? ⟨r, 2, none⟩ = some (.slice A s.L.length c) := hP.cells.2.2
    by_cases hlt : lo < hi
    · have i1 : (lo : Int) < (hi : Int) := by omega
      obtain ⟨m, hm⟩ : ∃ m, m = (lo + hi) / 2 := ⟨_, rfl⟩
      have x1 : IntKind.i64.wrap ((lo : Int) + (hi : Int)) = (lo : Int) + (hi : Int) := by rw [IntKind.wrap_i64]; omega
      have x2 : ((lo : Int) + (hi : Int)) / 2 = (m : Int) := by omega
      have x3 : ((lo : Int) + (hi : Int)).tdiv 2 = (m : Int) := by rw [Int.tdiv_eq_ediv_of_nonneg (by omega)]; omega
      have x4 : IntKind.i64.wrap (m : Int) = (m : Int) := by rw [IntKind.wrap_i64]; omega
      have hml : m < s.L.length := by omega
      have i2 : (m : Int) < (s.L.length : Int) := by omega
      obtain ⟨b, o, rfl, _, _, d0, -⟩ := rd_kv hP.rd hml
      have hpl := pos_lt (k := k) HH.out.ok.asc m _ (List.getElem?_eq_getElem hml)
      have hb := hid (show lo ≤ m ∧ m < hi by omega)
      have hh := hid (show lo ≤ posK k s.L ∧ posK k s.L ≤ hi ∧ hi ≤ s.L.length from ⟨h1, h2, h3⟩)
      have x5 : IntKind.i64.wrap ((m : Int) + 1) = (m : Int) + 1 := by rw [IntKind.wrap_i64]; omega
      obtain ⟨x, hx⟩ : ∃ x, x = (s.L[m]).1 := ⟨_, rfl⟩
      rw [← hx] at d0 hpl
      clear hx
      cases hl0 : ltB x k with
      | true =>
        have hl : Op.bytesLess x.toList k.toList = true := hl0
        have hp2 := hid (hpl.1 hl0)
        clear hP hm hml hpl hl0 h1 h2 h3 hlt
        go_wp2_with fail
        go_roundw
        case rel => exact ⟨m + 1, hi, by go_num, rfl, hp2.out, hh.out.2.1, hh.out.2.2, hB.out⟩
        case measure => have := hb.out; simp [intOf]; omega
      | false =>
        have hl : Op.bytesLess x.toList k.toList = false := hl0
        have hp2 : Hid (posK k s.L ≤ m) := hid (by
          have : ¬ m < posK k s.L := fun e => by rw [hpl.2 e] at hl0; cases hl0
          omega)
        clear hP hm hml hpl hl0 h1 h2 h3 hlt
        go_wp2_with fail
        go_roundw
        case rel => exact ⟨lo, m, rfl, rfl, hh.out.1, hp2.out, by have := hb.out; have := hh.out; omega, hB.out⟩
        case measure => have := hb.out; simp [intOf]; omega
    · obtain rfl : hi = lo := by omega
      have hpe0 : posK k s.L = hi := by omega
      have hpe := hid hpe0
      by_cases hpl : hi < s.L.length
      · obtain ⟨b, o, rfl, _, _, d0, -⟩ := rd_kv hP.rd hpl
        have hh0 := has_pos (k := k) HH.out.ok.asc (by rw [hpe0]; exact hpl)
        simp only [hpe0] at hh0
        have i2 : (hi : Int) < (s.L.length : Int) := by omega
        have hbd : ((s.L[hi]).1.toList == k.toList) = decide ((s.L[hi]).1 = k) := bytes_dec _ _
        rw [← hh0] at hbd
        obtain ⟨x, hx⟩ : ∃ x, x = (s.L[hi]).1 := ⟨_, rfl⟩
        rw [← hx] at d0 hbd
        obtain ⟨v, hv⟩ : ∃ v, v = hasK k s.L := ⟨_, rfl⟩
        rw [← hv] at hbd
        have hvv := hid hv
        clear hP h1 h2 h3 hlt hpl hh0 hx hpe0 hv
        go_wp2_with fail
        go_quiet (fail)
        go_wp2_with fail
        go_ret2
        exact ⟨by rw [hpe.out, ← hvv.out]; rfl, below_drewN hB.out _⟩
      · have hh := hid (has_end (k := k) HH.out.ok.asc (by rw [hpe0]; exact hpl))
        obtain rfl : hi = s.L.length := by omega
        clear hP h1 h2 h3 hlt hpl hpe0
        go_wp2_with fail
        go_quiet (fail)
        go_wp2_with fail
        go_ret2
        exact ⟨by rw [hpe.out, hh.out]; rfl, below_drewN hB.out _⟩
theorem rclaimed_any (k : ByteArray) (h : RAt S w r s) : Calls Tryz.prog 25 #[.pointer (some ⟨r, 0, none⟩), .string k] w fun e w' => e = .returned (.bool (hasK k s.L)) ∧ Below w.heap.size w w' := by
  have ha := hid (at_any k h)
  clear h
  go_enter Tryz.func25, Tryz.ntmps25
  go_wp2_with fail
  refine ha.out.mono ?_
  rintro e w2 ⟨rfl, hb0⟩
  have hb := hid hb0
  clear hb0
  go_wp2_with fail
  go_ret
  exact ⟨rfl, hb.out⟩
end
end Go.Proofs.YtphglnenafdkaaaGreatDoor

namespace Go.Proofs.YtphglnenafdkaaaGreatDoor
open Go.RowKit Go.Sort Go.Shelf Go.Lib
set_option linter.unusedVariables false
set_option linter.unusedSimpArgs false

theorem info_item : (Tryz.prog.info? 70).map (fun i => (i.zero, i.size, i.bytes)) = some (some (.agg #[.string ⟨#[]⟩, .int .i64 0, .int .i64 0, .string ⟨#[]⟩]), 4, 48) := by kernel_rfl
theorem cmp_any (x y : Kv) (W : World) : Calls Tryz.prog 76 #[.agg (encI x).toArray, .agg (encI y).toArray] W fun e w' => e = .returned (.int .i64 (cfK x y)) ∧ ∃ q os', w' = grow (W.drewN q) os' := by
  have hc := fun W => strings_Compare x.1 y.1 W
  have hr : Hid (cfK x y = Lib.compareBytes x.1.data.toList y.1.data.toList) := hid rfl
  generalize Lib.compareBytes x.1.data.toList y.1.data.toList = r at hc hr
  obtain ⟨k, v⟩ := x
  obtain ⟨j, u⟩ := y
  simp only [encI] at hc ⊢
  go_enter Tryz.func76, Tryz.ntmps76
  go_wp2_with (go_at_call 77; refine (hc _).mono ?_; rintro e w' ⟨rfl, rfl⟩)
  go_ret
  exact ⟨by rw [hr.out]; rfl, 0, _, by rw [alloc_eq_grow, alloc_eq_grow, grow_grow]; rfl⟩
theorem sort_any {base : Nat} {A : Option Addr} {c : Nat} (out M : List Kv) (w : World) (ha : Asc M) (hp : out.Perm M) (hn : out.length ≤ 262144) (hown : w.ownsRow base 70 4 (.slice A out.length c) out.length (kvCells out)) :
    Calls Tryz.prog 75 #[.slice A out.length c, .func (.func 76) #[] #[]] w fun e w' => e = .returned (.tuple #[]) ∧ w'.ownsRow base 70 4 (.slice A out.length c) out.length (kvCells M) ∧ w.grownBy w' (Value.slice A out.length c).ownBlock := by
  rcases hown.2 with ⟨hnil, h0⟩ | ⟨g, cap, cur, hv, hbase, hb, h1, h2, h3, h4⟩
  · have hcon := AnyF.slices_SortFunc_none laysSort A c (.func (.func 76) #[] #[]) w
    change Calls Tryz.prog 75 _ _ _ at hcon
    rw [h0] at hown ⊢
    refine hcon.mono ?_
    rintro e w' ⟨rfl, rfl⟩
    obtain rfl := List.eq_nil_of_length_eq_zero h0
    obtain rfl : M = [] := by
      have := hp.length_eq
      exact List.eq_nil_of_length_eq_zero this.symm
    exact ⟨rfl, hown, World.grownBy.refl _ _⟩
  · injection hv with hA hn2 hc
    subst hA
    have eg : ∀ args w, (callFunc 76 args).run Tryz.prog w = .ok (.enter 76 args) w := enters_of Tryz.func76 (by kernel_rfl) rfl
    have hlt : g < w.heap.size := (Array.getElem?_eq_some_iff.1 hb).1
    have hcon := AnyQ.slices_SortFunc laysSort 4 Tryz.isAgg70 Tryz.sizeOf70 encI encI_len encI_one cfK swo_kv 76 #[] g 0 c out.toArray w eg (fun m os dk hs x y => by simpa using cmp_any x y _) (holds_kv (cap := cap) hb h4) hlt (by simp; omega)
    change Calls Tryz.prog 75 _ _ _ at hcon
    have e1 : out.toArray.size = out.length := by simp
    rw [e1] at hcon
    refine hcon.mono ?_
    rintro e w' ⟨rfl, d', n, os, hpm, hso, rfl⟩
    have hM := sorted_kv ha hp (by rw [e1]; exact hpm) (by rw [e1]; exact hso)
    have hd' : d' = M.toArray := by rw [← hM]
    subst hd'
    refine ⟨rfl, ?_, grownBy_sortedK _⟩
    have := ownsRow_sortedK (n := n) (os := os) (ss := out) (ts := M) hp.length_eq.symm hbase hb h1 h2 h3
    rw [hc]
    exact this
section
variable {s : St} {w : World} {vb : Nat}
set_option maxRecDepth 100000 in
set_option maxHeartbeats 4000000 in
theorem dump_any (h : MapF strE w vb (Dv s.L)) (hok : s.Ok) : Calls Tryz.prog 55 #[.map (some vb)] w fun e w' => ∃ A c, e = .returned (.slice A (dumpL s.L).length c) ∧ w'.ownsRow (w.heap.size + 1) 70 4 (.slice A (dumpL s.L).length c) (dumpL s.L).length (kvCells (dumpL s.L)) ∧ Below w.heap.size w w' := by
  obtain ⟨l, hml, hd⟩ := h
  have hvl := hml.lt
  have hll : l.length ≤ 262144 := by rw [map_len hok.asc hml hd]; exact hok.dlen
  obtain ⟨es, clock, hes, hpr, hst⟩ := id hml
  have hrg := run_range_map (P := Tryz.prog) w 74 9 38 vb es clock Tryz.underlying74 hes
  obtain ⟨i0, hi0, hz0, hz1, hz2⟩ := info_parts info_item
  have hM := hid hml
  have hD := hid hd
  have hP := hid hpr
  have hK := hid hok
  have hS := hid hst
  have hE := hid hes
  have hV := hid hvl
  have hL := hid hll
  clear hml hd hpr hok hst hes hvl hll
  go_enter Tryz.func55, Tryz.ntmps55
  go_wp2_with fail
  go_loopw [3] (fun v wr => ∃ (seen : Array Nat) (c0 : Nat) (out : List Kv) (A : Option Addr) (c : Nat), v = .slice A out.length c ∧ wr.heap[w.heap.size]? = some (.mapIter (some vb) clock seen c0) ∧ clock ≤ c0 ∧ wr.ownsRow (w.heap.size + 1) 70 4 (.slice A out.length c) out.length (kvCells out) ∧ Below w.heap.size w wr ∧ (doneOf es seen).Perm (out.map encP)) (fun _ wr => (leftOf es (wr.iterSeen w.heap.size)).size)
  case atStart => exact ⟨#[], clock, [], none, 0, rfl, heap_alloc_new _ _, Nat.le_refl _, World.ownsRow_nil _ _ _ _, (Below.refl _ _).alloc (Nat.le_refl _) _, by rw [done_none]; exact List.Perm.nil⟩
  case round =>
    clear hrg
    obtain ⟨seen, c0, out, A, c, rfl, hr, hc0, hown, hB0, hdone⟩ := hrel
    have hesr := (hB0.block _ hV.out).trans hE.out
    have hseen0 := hid (seen_of hr)
    have hol : out.length ≤ 262144 := by
      have h1 := hdone.length_eq
      have h2 := done_le (E := strE) (seen := seen) hP.out
      have := hL.out
      simp at h1
      omega
    rcases range_step (P := Tryz.prog) hr hesr hS.out hc0 with ⟨h0, hnx⟩ | ⟨e, wn, he, hns, hsh, hun, hszn, hrn, hesn, hnx, hent⟩
    · have hperm : out.Perm (dumpL s.L) := done_dump hK.out.asc hM.out hD.out hP.out (by rw [← done_all h0]; exact hdone)
      have hso := hid (sort_any (c := c) out (dumpL s.L) wr (dump_asc hK.out.asc) hperm hol hown)
      have hlen := hid hperm.length_eq
      have hB := hid hB0
      have hO := hid hown
      clear hperm h0 hr hesr hown hB0 hdone hol
      go_wp2_with fail
      refine hso.out.mono ?_
      rintro e w3 ⟨rfl, hown3, hg3⟩
      have hfin : Hid (w3.ownsRow (w.heap.size + 1) 70 4 (.slice A out.length c) out.length (kvCells (dumpL s.L)) ∧ Below w.heap.size w w3) := hid ⟨hown3, hB.out.grown hg3 hB.out.size fun k hk => by have := (hO.out.lt k hk).1; omega⟩
      clear hown3 hg3
      go_wp2_with fail
      go_ret
      rw [hlen.out] at hfin ⊢
      exact ⟨A, c, rfl, hfin.out.1, hfin.out.2⟩
    · obtain ⟨p, hp, hek, hev⟩ := done_list (E := strE) (w := w) (b := vb) (clock := clock) hP.out he
      have hget := (getK_mem hM.out.nodup).2 (show (p.1, p.2) ∈ l from hp)
      rw [hD.out] at hget
      obtain ⟨hdm, hev2⟩ := dv_some hK.out.asc hget
      obtain ⟨y, hy⟩ : ∃ y, y = p.1 := ⟨_, rfl⟩
      obtain ⟨v, hv⟩ : ∃ v, v = valK p.1 s.L := ⟨_, rfl⟩
      rw [← hv] at hev2
      have hek : e.key = .string y := by rw [hek, hy]; rfl
      have hev : e.val = .agg #[.int .i64 v.k, .int .i64 v.n, .string v.s] := by rw [hev, hev2]; rfl
      have hpush := hid ((done_push hS.out.2.1 he hns).trans (hdone.cons _))
      rw [hek, hev] at hnx hent hpush
      have hownn : wn.ownsRow (w.heap.size + 1) 70 4 (.slice A out.length c) out.length (kvCells out) := own_updB hown hun fun k hk _ e => by omega
      have hBn : Below w.heap.size w wn := hB0.trans (hun.below (B := w.heap.size) hB0.size fun k hk e => by omega)
      have hHB := hid hBn
      have hHO := hid hownn
      have hHr := hid hrn
      have hsh' := hid hsh
      have hol' := hid hol
      clear hp hget hdm hev2 hek hev hy hv hown hB0 hdone hr hesr hun hrn hesn hBn hownn he hns hsh hol
      clear hszn
      go_wp2_with (
        at_builtin
        refine wpList_append_rd _ rfl (.tmp 13) (.tmp 17) 62 rfl (w.heap.size + 1) 70 i0 _ 4 48 Tryz.underlying62 hi0 hz0 hz1 hz2 rfl (by omega) (.slice A out.length c) out.length (kvCells out) rfl ((hHO.out.alloc _).alloc _) (fun b => b = wn.heap.size + 1) (some ⟨wn.heap.size + 1, 0, none⟩) 1 1 (encI (y, v)) rfl (Rd.new _ 70 4 1 (encI (y, v)).toArray _ (by simp) rfl) (encI_one _) (by have := hol'.out; simp only [maxLen]; omega) (by have := hol'.out; omega) (by have h1 := hHB.out.size; have := (Array.getElem?_eq_some_iff.1 hHr.out).1; simp; omega) ?_
        intro v3 w3 hown3 hg3 hat3
        obtain ⟨A3, c3, rfl, hc3, _⟩ := own_form hown3)
      have hne : (Value.slice A out.length c).ownBlock ≠ some w.heap.size := fun e => by have := (hHO.out.lt _ e).1; omega
      have hrl : w.heap.size < wn.heap.size := (Array.getElem?_eq_some_iff.1 hHr.out).1
      have hr3 : w3.heap[w.heap.size]? = some (.mapIter (some vb) clock (seen.push e.born) clock) := (hg3.block _ (by simp; omega) (Ne.symm hne)).trans ((Below.heap_alloc _ _ _ (by simp; omega)).trans ((Below.heap_alloc _ _ _ hrl).trans hHr.out))
      go_roundw
      case rel =>
        refine ⟨seen.push e.born, clock, out ++ [(y, v)], A3, c3, by simp, hr3, Nat.le_refl _, by rw [kvCells_snoc, List.length_append]; exact hown3, ?_, ?_⟩
        · exact ((hHB.out.alloc hHB.out.size _).alloc (by have := hHB.out.size; simp; omega) _).grown hg3 (by have := hHB.out.size; simp; omega) fun k hk => by have := (hHO.out.lt k hk).1; omega
        · rw [List.map_append]
          exact hpush.out.trans (List.perm_append_comm (l₁ := [encP (y, v)]) (l₂ := out.map encP))
      case measure =>
        rw [seen_of hr3, hseen0.out]
        exact hsh'.out
end
end Go.Proofs.YtphglnenafdkaaaGreatDoor

namespace Go.Proofs.YtphglnenafdkaaaGreatDoor
open Go.RowKit
set_option linter.unusedVariables false
set_option linter.unusedSimpArgs false

/-- a view at block g: its values' map has what L had -/
structure VIn (S : Nat → Prop) (w : World) (g : Nat) (L : List Kv) (vb : Nat) : Prop where
  blk : Blk w g 99 #[.map (some vb)]
  vals : MapF strE w vb (Dv L)
  inS : S g ∧ S vb
  lt : ∀ j, S j → j < w.heap.size
def VAt (S : Nat → Prop) (w : World) (g : Nat) (L : List Kv) : Prop := ∃ vb, VIn S w g L vb
section
variable {S : Nat → Prop} {w w' : World} {g vb : Nat} {L : List Kv}
theorem VIn.keep (h : VIn S w g L vb) (hk : ∀ b, S b → w'.heap[b]? = w.heap[b]?) (hs : w.heap.size ≤ w'.heap.size) : VIn S w' g L vb :=
  ⟨(hk _ h.inS.1).trans h.blk, h.vals.keep (hk _ h.inS.2), h.inS, fun j hj => Nat.lt_of_lt_of_le (h.lt j hj) hs⟩
theorem VAt.below (h : VAt S w g L) (hb : Below w.heap.size w w') : VAt S w' g L := by obtain ⟨_, h⟩ := h; exact ⟨_, h.keep (fun b hb' => hb.block b (h.lt b hb')) hb.size⟩
theorem VAt.upd {M : Nat → Prop} (h : VAt S w g L) (hu : Upd M w w') (hM : ∀ b, S b → ¬ M b) : VAt S w' g L := by obtain ⟨_, h⟩ := h; exact ⟨_, h.keep (fun b hb => hu.block b (h.lt b hb) (hM b hb)) hu.size⟩
theorem VAt.lt (h : VAt S w g L) : ∀ j, S j → j < w.heap.size := by obtain ⟨_, h⟩ := h; exact h.lt
end
theorem valK_zero {s : St} (h : s.Ok) {k : ByteArray} (h0 : (valK k s.L).k = 0) : valK k s.L = vl0 := by
  cases hh : hasK k s.L with
  | false => exact valK_none hh
  | true =>
    obtain ⟨x, hx, hk⟩ := hasK_mem.1 hh
    have h1 := valK_mem h.asc hx
    rw [hk] at h1
    have h2 := h.val x hx
    rw [← h1] at h2
    unfold Vl.ok at h2
    rw [if_pos h0] at h2
    simp at h2
    have e : valK k s.L = ⟨(valK k s.L).k, (valK k s.L).n, (valK k s.L).s⟩ := rfl
    rw [e, h0, h2.1, h2.2]; rfl
theorem dv_get {s : St} (h : s.Ok) (k : ByteArray) : (Dv s.L k).getD (.agg #[.int .i64 0, .int .i64 0, .string ⟨#[]⟩]) = .agg #[.int .i64 (valK k s.L).k, .int .i64 (valK k s.L).n, .string (valK k s.L).s] := by
  unfold Dv
  by_cases h0 : (valK k s.L).k = 0
  · rw [if_pos h0, valK_zero h h0]; rfl
  · rw [if_neg h0]; rfl
theorem zero_val (w : World) : (zeroValue 38).run Tryz.prog w = .ok (.agg #[.int .i64 0, .int .i64 0, .string ⟨#[]⟩]) w := by kernel_rfl
section
variable {S : Nat → Prop} {w w' : World} {g : Nat} {s : St}
set_option maxRecDepth 100000 in
theorem vget_any (k : ByteArray) (h : VAt S w g s.L) (hok : s.Ok) : Calls Tryz.prog 29 #[.pointer (some ⟨g, 0, none⟩), .string k] w fun e w' => e = .returned (.agg #[.int .i64 (valK k s.L).k, .int .i64 (valK k s.L).n, .string (valK k s.L).s]) ∧ Below w.heap.size w w' := by
  have hB : Below w.heap.size w (w.alloc (.cells #[.int .i64 0, .int .i64 0, .string ⟨#[]⟩] 38)) := (Below.refl _ _).alloc (Nat.le_refl _) _
  obtain ⟨vb, h2⟩ := h.below hB
  have hl0 := h2.vals.lookup Tryz.underlying74 zero_val k
  rw [dv_get hok] at hl0
  have hl : (Instr.lookup 74 (.map (some vb)) (.string k) false).run Tryz.prog _ = .ok _ _ := hl0
  have c2 : (w.alloc (.cells #[.int .i64 0, .int .i64 0, .string ⟨#[]⟩] 38)).cell? ⟨g, 0, none⟩ = some (.map (some vb)) := h2.blk.cell 0
  generalize (valK k s.L).k = a at *
  generalize (valK k s.L).n = b at *
  generalize (valK k s.L).s = c at *
  clear h h2 hB hl0 hok
  go_enter Tryz.func29, Tryz.ntmps29
  go_wp2_with fail
  refine bodyPost_ret (v := .agg #[.int .i64 a, .int .i64 b, .string c]) ?_ rfl ?_
  · exact results_cell_row (P := Tryz.prog) rfl _ _ w.heap.size 38 _ (0, 0) _ rfl (Blk.new w _ _) Tryz.underlying38 rfl (by kernel_rfl)
  · exact ⟨rfl, (Below.refl _ _).alloc (Nat.le_refl _) _⟩
set_option maxRecDepth 100000 in
theorem dumpM_any (h : PAt S w g s) : Calls Tryz.prog 32 #[.pointer (some ⟨g, 0, none⟩)] w fun e w' => ∃ A c, e = .returned (.slice A (dumpL s.L).length c) ∧ w'.ownsRow (w.heap.size + 1) 70 4 (.slice A (dumpL s.L).length c) (dumpL s.L).length (kvCells (dumpL s.L)) ∧ Below w.heap.size w w' := by
  obtain ⟨cb, cc, mb, vb, h⟩ := h
  have c2 := h.cells.2.2
  have hd := hid (dump_any h.vals h.ok)
  clear h
  go_enter Tryz.func32, Tryz.ntmps32
  go_wp2_with fail
  refine hd.out.mono ?_
  rintro e w2 ⟨A, c, rfl, h1, h2⟩
  have h1 := hid h1
  have h2 := hid h2
  go_wp2_with fail
  go_ret
  exact ⟨A, c, rfl, h1.out, h2.out⟩
set_option maxRecDepth 100000 in
set_option maxHeartbeats 4000000 in
theorem view_any (h : PAt S w g s) : Calls Tryz.prog 19 #[.pointer (some ⟨g, 0, none⟩)] w fun e w' => ∃ S' v, e = .returned (.pointer (some ⟨v, 0, none⟩)) ∧ VAt S' w' v s.L ∧ (∀ j, S' j → w.heap.size ≤ j) ∧ Below w.heap.size w w' := by
  obtain ⟨cb, cc, mb, vb, h⟩ := h
  have hok := hid h.ok
  have hb0 : Below w.heap.size w ((w.alloc (.map #[] 0)).alloc (.cells #[.map (some w.heap.size)] 99)) := below_two _ _
  have h2 := h.below hb0
  have c2 := h2.cells.2.2
  obtain ⟨l, hml, hd⟩ := h2.vals
  obtain ⟨es, clock, hes, hpr, hst⟩ := id hml
  have hmm := @run_makeMap Tryz.prog
  have hrg := run_range_map (P := Tryz.prog) ((w.alloc (.map #[] 0)).alloc (.cells #[.map (some w.heap.size)] 99)) 74 9 38 vb es clock Tryz.underlying74 hes
  have kv0 := hid (Blk.new' (w.alloc (.map #[] 0)) 99 #[.map (some w.heap.size)] (g := w.heap.size + 1) (by simp))
  have hm0 := hid ((MapF.new (E := strE) w).keep (Below.heap_alloc (w.alloc (.map #[] 0)) (.cells #[.map (some w.heap.size)] 99) _ (by simp)))
  have hsz := hid (show ((w.alloc (.map #[] 0)).alloc (.cells #[.map (some w.heap.size)] 99)).heap.size = w.heap.size + 2 by simp)
  have hM := hid hml
  have hD := hid hd
  have hP := hid hpr
  have hS := hid hst
  have hE := hid hes
  have hV := hid h.vals.lt
  have hB1 := hid hb0
  clear h h2 hml hd hpr hst hes hb0
  go_enter Tryz.func19, Tryz.ntmps19
  go_upto_region 4 with fail
  generalize (w.alloc (.map #[] 0)).alloc (.cells #[.map (some w.heap.size)] 99) = W1 at *
  go_wp2_with fail
  have hvlt : Hid (vb < W1.heap.size) := hid (by have := hV.out; have := hsz.out; omega)
  rw [hsz.out]
  go_loopw [] (fun wr => ∃ (seen : Array Nat) (c0 : Nat) (out : List (ByteArray × Value)), wr.heap[w.heap.size + 2]? = some (.mapIter (some vb) clock seen c0) ∧ clock ≤ c0 ∧ MapF strE wr w.heap.size (fun y => getK y out) ∧ Blk wr (w.heap.size + 1) 99 #[.map (some w.heap.size)] ∧ Below w.heap.size w wr ∧ (doneOf es seen).Perm (encs strE out) ∧ (∀ x ∈ out, ∃ v : Vl, x.2 = vlV v)) (fun wr => (leftOf es (wr.iterSeen (w.heap.size + 2))).size)
  case atStart =>
    refine ⟨#[], clock, [], ?_, Nat.le_refl _, ?_, kv0.out.alloc _, hB1.out.alloc hB1.out.size _, by rw [done_none]; exact List.Perm.nil, fun x hx => by cases hx⟩
    · rw [← hsz.out]; exact heap_alloc_new _ _
    · exact (hm0.out.keep (Below.heap_alloc _ _ _ (by have := hsz.out; omega))).congr fun y => rfl
  case round =>
    clear hrg
    obtain ⟨seen, c0, out, hr, hc0, hmo, hkv, hB0, hdone, hvs⟩ := hrel
    have hesr := (hB0.block _ hV.out).trans ((hB1.out.block _ hV.out).symm.trans hE.out)
    have hseen0 := hid (seen_of hr)
    rcases range_step (P := Tryz.prog) hr hesr hS.out hc0 with ⟨h0, hnx⟩ | ⟨e, wn, he, hns, hsh, hun, hszn, hrn, hesn, hnx, hent⟩
    · have hpl : l.Perm out := encs_inj (E := strE) W1 (by rw [← hP.out, ← done_all h0]; exact hdone)
      have hfin : Hid (VAt (fun j => w.heap.size ≤ j ∧ j < wr.heap.size) wr (w.heap.size + 1) s.L) := hid ⟨_, hkv, hmo.congr fun y => by
        rw [← hD.out]
        have hno : (out.map (·.1)).Nodup := (hpl.map _).nodup_iff.1 hM.out.nodup
        cases hg : getK y l with
        | none =>
          rw [getK_none] at hg ⊢
          exact fun p hp => hg p (hpl.symm.subset hp)
        | some u => exact (getK_mem hno).2 (hpl.subset ((getK_mem hM.out.nodup).1 hg)), ⟨⟨by omega, hkv.lt⟩, ⟨Nat.le_refl _, hmo.lt⟩⟩, fun j hj => hj.2⟩
      have hB := hid hB0
      clear hpl h0 hr hesr hmo hkv hB0 hdone hvs
      go_wp2_with fail
      go_ret
      exact ⟨_, _, rfl, hfin.out, fun j hj => hj.1, hB.out⟩
    · obtain ⟨p, hp, hek, hev⟩ := done_list (E := strE) (w := W1) (b := vb) (clock := clock) hP.out he
      have hget := (getK_mem hM.out.nodup).2 (show (p.1, p.2) ∈ l from hp)
      rw [hD.out] at hget
      obtain ⟨hdm, hev2⟩ := dv_some hok.out.asc hget
      obtain ⟨y, hy⟩ : ∃ y, y = p.1 := ⟨_, rfl⟩
      obtain ⟨v, hv⟩ : ∃ v, v = valK p.1 s.L := ⟨_, rfl⟩
      rw [← hv] at hev2
      have hek : e.key = .string y := by rw [hek, hy]; rfl
      have hev : e.val = .agg #[.int .i64 v.k, .int .i64 v.n, .string v.s] := by rw [hev, hev2]; rfl
      have hpush := hid ((done_push hS.out.2.1 he hns).trans (hdone.cons _))
      rw [hek, hev] at hnx hent hpush
      have hwl : w.heap.size + 2 < wn.heap.size := (Array.getElem?_eq_some_iff.1 hrn).1
      have hmon := hmo.upd hun (fun e => by omega)
      have hkvn := hkv.upd hun (fun e => by omega)
      have hBn : Below w.heap.size w wn := hB0.trans (hun.below (B := w.heap.size) hB0.size fun k hk e => by omega)
      have hvs' := hid hvs
      have hsh' := hid hsh
      clear hp hget hdm hev2 hek hev hy hv hmo hkv hB0 hdone hr hesr hun hesn he hns hsh hszn hvs
      go_upto_region 7 with fail
      have kz := Blk.new wn 38 #[.int .i64 v.k, .int .i64 v.n, .string v.s]
      have hkv5 := hid (hkvn.alloc (.cells #[.int .i64 v.k, .int .i64 v.n, .string v.s] 38))
      have hmo5 := hmon.keep (Below.heap_alloc wn (.cells #[.int .i64 v.k, .int .i64 v.n, .string v.s] 38) _ (by omega))
      have hr5 := (Below.heap_alloc wn (.cells #[.int .i64 v.k, .int .i64 v.n, .string v.s] 38) _ hwl).trans hrn
      have hB5 := hid (hBn.alloc hBn.size (.cells #[.int .i64 v.k, .int .i64 v.n, .string v.s] 38))
      generalize wn.alloc (.cells #[.int .i64 v.k, .int .i64 v.n, .string v.s] 38) = w5 at *
      have x0 := kz.cell 0
      have x1 := kz.cell 1
      have x2 := kz.cell 2
      simp only [List.getElem?_toArray, List.getElem?_cons_zero, List.getElem?_cons_succ] at x0 x1 x2
      have v0 : w5.cell? ⟨w.heap.size + 1, 0, none⟩ = some (.map (some w.heap.size)) := hkv5.out.cell 0
      generalize wn.heap.size = m at *
      have hmod : MapF strE w5.drew w.heap.size _ := hmo5
      obtain ⟨w6, hmu0, hm60, hg60, _⟩ := hmod.update Tryz.underlying74 y (.agg #[.int .i64 v.k, .int .i64 v.n, .string v.s])
      have hmu : (Instr.mapUpdate 74 (.map (some w.heap.size)) (.string y) (.agg #[.int .i64 v.k, .int .i64 v.n, .string v.s])).run Tryz.prog w5.drew = .ok () w6 := hmu0
      have hu6 : Upd (fun j => j = w.heap.size) w5 w6 := (Upd.refl (fun j => j = w.heap.size) w5).drew.trans (upd_grown hg60 fun j hj => by injection hj with hj; exact hj.symm) fun _ _ h => h
      have hm6 := hid hm60
      have hU6 := hid hu6
      have hr6 := hid ((hu6.block _ (Array.getElem?_eq_some_iff.1 hr5).1 (by omega)).trans hr5)
      clear kz hmon hkvn hBn hmo5 hmod hmu0 hm60 hg60 hu6 hwl hrn hr5
      go_still_tail 6, (by kernel_rfl)
      change wpList _ _ _ _ _ w5.drew
      go_wp2_with fail
      go_roundw
      case rel =>
        refine ⟨seen.push e.born, clock, (y, vlV v) :: out, hr6.out, Nat.le_refl _, hm6.out.congr fun z => by rw [getK_cons]; rfl, hkv5.out.upd hU6.out (by omega), hB5.out.trans (hU6.out.below (B := w.heap.size) hB5.out.size fun k hk e => by omega), hpush.out, fun x hx => ?_⟩
        rcases List.mem_cons.1 hx with rfl | hx
        · exact ⟨v, rfl⟩
        · exact hvs'.out x hx
      case measure =>
        rw [seen_of hr6.out, hseen0.out]
        exact hsh'.out
end
end Go.Proofs.YtphglnenafdkaaaGreatDoor

namespace Go.Proofs.YtphglnenafdkaaaGreatDoor
open Go.RowKit
set_option linter.unusedVariables false
set_option linter.unusedSimpArgs false

/-- a row of numbers -/
def IArr (w : World) (b n : Nat) (f : Nat → Nat) : Prop := ∃ cs, Blk w b 3 cs ∧ cs.size = n ∧ ∀ j, j < n → cs[j]? = some (.int .i64 (f j : Nat))
section
variable {w w' : World} {b n : Nat} {f : Nat → Nat}
theorem IArr.cell (h : IArr w b n f) {j : Nat} (hj : j < n) : w.cell? ⟨b, j, none⟩ = some (.int .i64 (f j : Nat)) := by
  obtain ⟨cs, h1, h2, h3⟩ := h
  exact (h1.cell _).trans (h3 j hj)
theorem IArr.frozen (h : IArr w b n f) (j : Nat) : w.frozen? ⟨b, j, none⟩ = false := by
  obtain ⟨cs, h1, h2, h3⟩ := h
  exact h1.frozen j
theorem IArr.lt (h : IArr w b n f) : b < w.heap.size := by obtain ⟨cs, h1, _⟩ := h; exact h1.lt
theorem IArr.upd {N : Nat → Prop} (h : IArr w b n f) (hu : Upd N w w') (hN : ¬ N b) : IArr w' b n f := by
  obtain ⟨cs, h1, h2⟩ := h
  exact ⟨cs, h1.upd hu hN, h2⟩
theorem IArr.below (h : IArr w b n f) (hb : Below w.heap.size w w') : IArr w' b n f := by
  obtain ⟨cs, h1, h2⟩ := h
  exact ⟨cs, h1.below_all hb, h2⟩
theorem IArr.congr {f' : Nat → Nat} (h : IArr w b n f) (hf : ∀ j, j < n → f j = f' j) : IArr w b n f' := by
  obtain ⟨cs, h1, h2, h3⟩ := h
  exact ⟨cs, h1, h2, fun j hj => by rw [h3 j hj, hf j hj]⟩
theorem IArr.set (h : IArr w b n f) {i : Nat} (hi : i < n) (v : Nat) : IArr (w.setCell ⟨b, i, none⟩ (.int .i64 (v : Nat))) b n (fun j => if j = i then v else f j) := by
  obtain ⟨cs, h1, h2, h3⟩ := h
  refine ⟨_, h1.set_ i _, by simp [h2], fun j hj => ?_⟩
  by_cases e : j = i
  · subst e
    simp only [if_true]
    rw [Array.getElem?_setIfInBounds_self_of_lt (by omega)]
  · simp only [if_neg e]
    rw [Array.getElem?_setIfInBounds_ne (Ne.symm e)]
    exact h3 j hj
end
theorem info_int : (Tryz.prog.info? 3).map (fun i => (i.zero, i.size, i.bytes)) = some (some (.int .i64 0), 1, 8) := by kernel_rfl
theorem make_parts (N : Nat) (hN : N ≤ 64) (w : World) : (Instr.makeSlice 72 (.int .i64 (N : Int)) (.int .i64 (N : Int))).run Tryz.prog w = .ok (.slice (some ⟨w.heap.size, 0, none⟩) N N) (w.alloc (.cells (madeCells #[.int .i64 0] N) 3)) := by
  obtain ⟨i0, hi0, hz0, hz1, hz2⟩ := info_parts info_int
  have h := run_makeSlice (P := Tryz.prog) w 72 3 i0 _ Tryz.underlying72 hi0 hz0 .i64 .i64 (N : Int) (N : Int) (by omega) (Int.le_refl _) (by simp only [Int.toNat_natCast]; rw [hz1]; omega) (by rw [hz2]; omega) (by omega)
  simp only [Int.toNat_natCast, hz1, Nat.mul_one] at h
  exact h
theorem IArr.new (w : World) (N : Nat) : IArr (w.alloc (.cells (madeCells #[.int .i64 0] N) 3)) w.heap.size N fun _ => 0 := by
  have hl := toList_madeCells_one (.int .i64 0) N
  refine ⟨_, Blk.new w _ _, ?_, fun j hj => ?_⟩
  · have := congrArg List.length hl
    simpa using this
  · have := congrArg (fun l => l[j]?) hl
    simpa [hj] using this
/-! the closure -/
theorem notvalid_any (k : ByteArray) (w : World) (hk : k.size ≤ 9223372036854775806) : Calls Tryz.prog 35 #[.string k] w fun e w' => e = .returned (.bool (!validK k)) ∧ w' = w := by
  have hv := hid (validk_any k w hk)
  generalize validK k = b at *
  go_enter Tryz.func35, Tryz.ntmps35
  go_wp2_with fail
  refine hv.out.mono ?_
  rintro e w2 ⟨rfl, rfl⟩
  go_wp2_with fail
  go_ret
  exact ⟨by first | rfl | simp, rfl⟩
def strs (ks : List ByteArray) : List Value := ks.map .string
theorem rd_strs {S : Nat → Prop} {w : World} {A : Option Addr} {ks : List ByteArray} (h : Rd S w 1 A ks.length (strs ks)) {i : Nat} (hi : i < ks.length) : ∃ b o, A = some ⟨b, o, none⟩ ∧ S b ∧ b < w.heap.size ∧ w.cell? ⟨b, o + i, none⟩ = some (.string ks[i]) := by
  obtain ⟨b, o, rfl, hS, hl, hc⟩ := h.at_ hi
  exact ⟨b, o, rfl, hS, hl, hc i _ (by simp [strs, hi])⟩
set_option maxRecDepth 100000 in
set_option maxHeartbeats 1000000 in
theorem indexfunc_any {Sk : Nat → Prop} {w : World} {A : Option Addr} {c : Nat} (ks : List ByteArray) (h : Rd Sk w 1 A ks.length (strs ks)) (hs : ∀ k ∈ ks, k.size ≤ 9223372036854775806) (hn : ks.length ≤ 1000000) : Calls Tryz.prog 63 #[.slice A ks.length c, .func (.func 35) #[] #[]] w fun e w' => (∃ v : Int, e = .returned (.int .i64 v) ∧ decide (0 ≤ v) = ks.any fun k => !validK k) ∧ w' = w := by
  have hr := hid h
  clear h
  go_enter Tryz.func63, Tryz.ntmps63
  go_wp2_with fail
  go_loopw [8] (fun v wr => ∃ k : Nat, v = .int .i64 k ∧ k ≤ ks.length ∧ wr = w ∧ ∀ j (hj : j < ks.length), j < k → validK ks[j] = true) (fun v _ => ks.length - (intOf v).toNat)
  case atStart => exact ⟨0, rfl, Nat.zero_le _, rfl, fun j _ h => by omega⟩
  case round =>
    obtain ⟨k, rfl, hk, rfl, ha0⟩ := hrel
    have ha := hid ha0
    clear ha0
    by_cases hlt : k < ks.length
    · have i1 : (k : Int) < (ks.length : Int) := by omega
      have hs9 : (ks.length : Int) ≤ 1000000 := by omega
      obtain ⟨b, o, rfl, _, hbl, hc⟩ := rd_strs hr.out hlt
      have hv := hid (notvalid_any ks[k] wr (hs _ (List.getElem_mem hlt)))
      cases hb0 : validK ks[k] with
      | true =>
        have hb := hid hb0
        rw [hb0] at hv
        clear hb0 hbl
        go_wp2_with fail
        refine hv.out.mono ?_
        rintro e w2 ⟨rfl, rfl⟩
        go_wp2_with fail
        go_roundw
        case rel => exact ⟨k + 1, by go_num, hlt, by first | rfl | trivial, fun j hj hjk => by
          by_cases e : j = k
          · subst e; exact hb.out
          · exact ha.out j hj (by omega)⟩
        case measure => simp [intOf]; omega
      | false =>
        have hfin : Hid (decide (0 ≤ (k : Int)) = ks.any fun k => !validK k) := hid (by
          rw [decide_eq_true (by omega)]
          exact (List.any_eq_true.2 ⟨ks[k], List.getElem_mem hlt, by rw [hb0]; rfl⟩).symm)
        rw [hb0] at hv
        clear hb0 hbl
        go_wp2_with fail
        refine hv.out.mono ?_
        rintro e w2 ⟨rfl, rfl⟩
        go_wp2_with fail
        go_ret
        exact ⟨⟨_, rfl, hfin.out⟩, by first | rfl | trivial⟩
    · obtain rfl : k = ks.length := by omega
      have hfin : Hid (decide (0 ≤ (-1 : Int)) = ks.any fun k => !validK k) := hid (by
        rw [decide_eq_false (by omega)]
        symm
        rw [List.any_eq_false]
        intro x hx
        obtain ⟨j, hj, rfl⟩ := List.mem_iff_getElem.1 hx
        rw [ha.out j hj hj]; simp)
      clear hr
      go_wp2_with fail
      go_ret
      exact ⟨⟨_, rfl, hfin.out⟩, by first | rfl | trivial⟩
theorem contains_any {Sk : Nat → Prop} {w : World} {A : Option Addr} {c : Nat} (ks : List ByteArray) (h : Rd Sk w 1 A ks.length (strs ks)) (hs : ∀ k ∈ ks, k.size ≤ 9223372036854775806) (hn : ks.length ≤ 1000000) : Calls Tryz.prog 34 #[.slice A ks.length c, .func (.func 35) #[] #[]] w fun e w' => e = .returned (.bool (ks.any fun k => !validK k)) ∧ w' = w := by
  have hv := hid (indexfunc_any (c := c) ks h hs hn)
  generalize (ks.any fun k => !validK k) = b at *
  clear h
  go_enter Tryz.func34, Tryz.ntmps34
  go_wp2_with fail
  refine hv.out.mono ?_
  rintro e w2 ⟨⟨v, rfl, hvb⟩, rfl⟩
  have hh := hid hvb
  clear hvb
  go_wp2_with fail
  go_ret
  exact ⟨by rw [← hh.out]; rfl, rfl⟩
/-! a key gets its place -/
section
variable {S : Nat → Prop} {w w' : World} {g cb cc vb : Nat} {mb : Nat → Nat} {s : St}
theorem PIn.ins {k : ByteArray} {p : Nat} (h : PIn S w g s cb cc mb vb) (hp : partK s.parts k = p) (hu : w.grownBy w' (some (mb p))) (hm : MapF strE w' (mb p) fun y => if y = k then some (.int .i64 1) else Dc s.L s.parts p y) (hok : St.Ok { s with L := insK k s.L }) :
    PIn S w' g { s with L := insK k s.L } cb cc mb vb ∧ Upd S w w' := by
  have hpl : p < s.parts := by rw [← hp]; exact partK_lt k (by have := h.ok.parts; omega)
  have hU : Upd (fun j => j = mb p) w w' := upd_grown hu fun j hj => by injection hj with hj; exact hj.symm
  obtain ⟨cs, h1, h2⟩ := h.row
  have hne : ∀ {b t cs}, Blk w b t cs → ¬ b = mb p := fun hb e => (h.cl p hpl).ne_blk hb e.symm
  refine ⟨⟨h.blk.upd hU (hne h.blk), ⟨cs, h1.upd hU (hne h1), h2⟩, fun q hq => ?_, h.inj, ?_, h.vne, h.inS, fun j hj => Nat.lt_of_lt_of_le (h.lt j hj) hU.size, hok⟩, hU.mono fun j _ hj => hj ▸ h.inS.2.2.2 p hpl⟩
  · show MapF strE w' (mb q) (Dc (insK k s.L) s.parts q)
    by_cases e : q = p
    · subst e
      refine hm.congr fun y => ?_
      unfold Dc
      rw [hasK_ins]
      by_cases e : y = k
      · subst e; simp [hp]
      · have : ¬ k = y := fun h => e h.symm
        simp [e, this]
    · refine ((h.cl q hq).upd hU fun e2 => e (h.inj q p hq hpl e2)).congr fun y => ?_
      unfold Dc
      rw [hasK_ins]
      by_cases e3 : k = y
      · subst e3
        have : ¬ partK s.parts k = q := by rw [hp]; exact fun h => e h.symm
        simp [this]
      · simp [e3]
  · refine (h.vals.upd hU fun e => h.vne p hpl e.symm).congr fun y => ?_
    unfold Dv
    simp only [valK_ins h.ok.asc]
end
/-! what is refused, what is not -/
section
variable {s : St} {ks : List ByteArray}
theorem claimE_key (h : (ks.any fun k => !validK k) = true) : claimE s ks = 30 := by unfold claimE; rw [if_pos h]
theorem rise_no {k : Nat} (hk : k + 1 < ks.length) (h : ltB ks[k] ks[k + 1] = false) : riseB ks = false := by
  unfold riseB
  rw [List.all_eq_false]
  refine ⟨k, List.mem_range.2 (by omega), ?_⟩
  simp [List.getD_eq_getElem?_getD, hk, show k < ks.length by omega, h]
theorem rise_yes (h : ∀ j (hj : j + 1 < ks.length), ltB ks[j] ks[j + 1] = true) : riseB ks = true := by
  unfold riseB
  rw [List.all_eq_true]
  intro j hj
  have := List.mem_range.1 hj
  have h2 := h j (by omega)
  simp [List.getD_eq_getElem?_getD, show j + 1 < ks.length by omega, show j < ks.length by omega, h2]
theorem claimE_rise (h : (ks.any fun k => !validK k) = false) (h2 : riseB ks = false) : claimE s ks = 40 := by unfold claimE; rw [if_neg (by simp [h]), if_pos h2]
theorem claimE_full (h : (ks.any fun k => !validK k) = false) (h2 : riseB ks = true) {p : Nat} (hp : p < s.parts) (h3 : 0 < moreK s ks p) (h4 : s.room < cntP s.parts p s.L + moreK s ks p) : claimE s ks = 5 := by
  unfold claimE
  rw [if_neg (by simp [h]), if_neg (by simp [h2])]
  exact if_pos (List.any_eq_true.2 ⟨p, List.mem_range.2 hp, by simp [h3, h4]⟩)
theorem claimE_ok (h : (ks.any fun k => !validK k) = false) (h2 : riseB ks = true) (h3 : ∀ p, p < s.parts → ¬ (0 < moreK s ks p ∧ s.room < cntP s.parts p s.L + moreK s ks p)) : claimE s ks = 0 := by
  unfold claimE
  rw [if_neg (by simp [h]), if_neg (by simp [h2]), if_neg]
  intro h4
  obtain ⟨p, hp, h5⟩ := List.any_eq_true.1 h4
  simp at h5
  exact h3 p (List.mem_range.1 hp) h5
theorem claimS_no (h : claimE s ks ≠ 0) : claimS s ks = s := by unfold claimS; rw [if_neg h]
theorem claimS_yes (h : claimE s ks = 0) : claimS s ks = { s with L := insAll s.L ks } := by unfold claimS; rw [if_pos h]
/-- the first of the keys may be claimed too -/
theorem claimE_take (h : claimE s ks = 0) (k : Nat) : claimE s (ks.take k) = 0 := by
  unfold claimE at h
  split at h; · cases h
  rename_i h1
  split at h; · cases h
  rename_i h2
  split at h; · cases h
  rename_i h3
  refine claimE_ok ?_ ?_ fun p hp h4 => h3 ?_
  · rw [List.any_eq_false]
    intro x hx
    simp at h1
    simp [h1 x (List.mem_of_mem_take hx)]
  · refine rise_yes fun j hj => ?_
    have hl : (ks.take k).length ≤ ks.length := by simp; omega
    have := rise_lt (ks := ks) (by simpa using h2) j (j + 1) (by omega) (by omega)
    simpa [List.getD_eq_getElem?_getD, show j + 1 < ks.length by omega, show j < ks.length by omega] using this
  · have hle : moreK s (ks.take k) p ≤ moreK s ks p := (List.take_sublist k ks).countP_le
    exact List.any_eq_true.2 ⟨p, List.mem_range.2 hp, by simp; omega⟩
theorem pre_ok (h : s.Ok) (he : claimE s ks = 0) (k : Nat) : St.Ok { s with L := insAll s.L (ks.take k) } := by
  have := claim_ok h (ks.take k)
  rwa [claimS_yes (claimE_take he k)] at this
theorem insAll_snoc {L : List Kv} (l : List ByteArray) (k : ByteArray) : insAll L (l ++ [k]) = insK k (insAll L l) := by unfold insAll; rw [List.foldl_append]; rfl
theorem take_snoc {α : Type} {l : List α} {k : Nat} (h : k < l.length) : l.take (k + 1) = l.take k ++ [l[k]] := by
  rw [List.take_add_one, List.getElem?_eq_getElem h]; rfl
end
end Go.Proofs.YtphglnenafdkaaaGreatDoor

namespace Go.Proofs.YtphglnenafdkaaaGreatDoor
open Go.RowKit
set_option linter.unusedVariables false
set_option linter.unusedSimpArgs false

/-- partition p's keys; those of the partitions below i -/
def keysP (n p : Nat) (L : List Kv) : List ByteArray := (L.filter fun x => decide (partK n x.1 = p)).map (·.1)
def keysTo (n i : Nat) (L : List Kv) : List ByteArray := (L.filter fun x => decide (partK n x.1 < i)).map (·.1)
def encK (k : ByteArray) : Value × Value := (.string k, .int .i64 1)
theorem keysTo_zero (n : Nat) (L : List Kv) : keysTo n 0 L = [] := by simp [keysTo]
theorem keysTo_all {n : Nat} (hn : 0 < n) (L : List Kv) : keysTo n n L = L.map (·.1) := by
  unfold keysTo
  congr 1
  exact List.filter_eq_self.2 fun x _ => by simpa using partK_lt x.1 hn
theorem filter_step {α : Type} (f : α → Nat) (i : Nat) : ∀ L : List α, ((L.filter fun x => decide (f x < i)) ++ (L.filter fun x => decide (f x = i))).Perm (L.filter fun x => decide (f x < i + 1))
  | [] => List.Perm.refl _
  | a :: L => by
    have ih := filter_step f i L
    by_cases h1 : f a < i
    · rw [List.filter_cons_of_pos (by simpa using h1), List.filter_cons_of_neg (by simp; omega), List.filter_cons_of_pos (by simp; omega)]
      exact ih.cons _
    · by_cases h2 : f a = i
      · rw [List.filter_cons_of_neg (by simpa using h1), List.filter_cons_of_pos (by simpa using h2), List.filter_cons_of_pos (by simp; omega)]
        exact List.perm_middle.trans (ih.cons _)
      · rw [List.filter_cons_of_neg (by simpa using h1), List.filter_cons_of_neg (by simpa using h2), List.filter_cons_of_neg (by simp; omega)]
        exact ih
theorem keysTo_step (n i : Nat) (L : List Kv) : (keysTo n i L ++ keysP n i L).Perm (keysTo n (i + 1) L) := by
  unfold keysTo keysP
  rw [← List.map_append]
  exact (filter_step (fun x : Kv => partK n x.1) i L).map _
theorem keysP_mem {n p : Nat} {L : List Kv} {k : ByteArray} : k ∈ keysP n p L ↔ hasK k L = true ∧ partK n k = p := by
  unfold keysP
  rw [hasK_mem]
  constructor
  · intro h
    obtain ⟨x, hx, rfl⟩ := List.mem_map.1 h
    obtain ⟨h1, h2⟩ := List.mem_filter.1 hx
    exact ⟨⟨x, h1, rfl⟩, by simpa using h2⟩
  · rintro ⟨⟨x, hx, rfl⟩, h2⟩
    exact List.mem_map.2 ⟨x, List.mem_filter.2 ⟨hx, by simpa using h2⟩, rfl⟩
theorem keysP_nodup {n p : Nat} {L : List Kv} (ha : Asc L) : (keysP n p L).Nodup := (List.filter_sublist.map _).nodup (asc_nodup ha)
theorem kp1_inj : ∀ a b : ByteArray, ((a, Value.int .i64 1) : ByteArray × Value) = (b, Value.int .i64 1) → a = b := fun a b e => by injection e
theorem claims_perm {w : World} {b n p : Nat} {L : List Kv} {l : List (ByteArray × Value)} (ha : Asc L) (h : MapIs strE w b l) (hd : ∀ x, getK x l = Dc L n p x) : l.Perm ((keysP n p L).map fun k => (k, Value.int .i64 1)) :=
  (List.perm_ext_iff_of_nodup (nodup_of_map _ h.nodup) (nodup_map kp1_inj (keysP_nodup ha))).2 fun q => by
    obtain ⟨y, u⟩ := q
    rw [← getK_mem h.nodup, hd]
    unfold Dc
    constructor
    · intro hy
      by_cases hc : hasK y L = true ∧ partK n y = p
      · rw [if_pos hc] at hy
        injection hy with hy
        exact List.mem_map.2 ⟨y, keysP_mem.2 hc, by rw [hy]⟩
      · rw [if_neg hc] at hy; cases hy
    · intro hy
      obtain ⟨k, hk, e⟩ := List.mem_map.1 hy
      injection e with e1 e2
      subst e1
      rw [if_pos (keysP_mem.1 hk), e2]
theorem claims_len {w : World} {b n p : Nat} {L : List Kv} {l : List (ByteArray × Value)} (ha : Asc L) (h : MapIs strE w b l) (hd : ∀ x, getK x l = Dc L n p x) : l.length = (keysP n p L).length := by
  rw [(claims_perm ha h hd).length_eq, List.length_map]
theorem done_claims {w : World} {b n p : Nat} {L : List Kv} {l : List (ByteArray × Value)} {es : Array MapEntry} {out : List ByteArray} (ha : Asc L) (h : MapIs strE w b l) (hd : ∀ x, getK x l = Dc L n p x) (hpr : pairs es.toList = encs strE l) (ho : (pairs es.toList).Perm (out.map encK)) : out.Perm (keysP n p L) := by
  have e1 : out.map encK = encs strE (out.map fun k => (k, Value.int .i64 1)) := by unfold encs; rw [List.map_map]; rfl
  rw [hpr, e1] at ho
  have h4 := (encs_inj w ho).symm.trans (claims_perm ha h hd)
  exact encs_inj.perm_of_map (f := fun k : ByteArray => (k, Value.int .i64 1)) (fun a b e => kp1_inj a b e) h4
theorem bl_lt : ∀ a b : List UInt8, Op.bytesLess a b = decide (a < b)
  | _, [] => by simp [Op.bytesLess]
  | [], _ :: _ => by simp [Op.bytesLess]
  | a :: x, b :: y => by
    have ih := bl_lt x y
    unfold Op.bytesLess
    rw [ih]
    by_cases h1 : a < b
    · simp [h1, List.cons_lt_cons_iff]
    · by_cases h2 : a = b
      · subst h2; simp [List.cons_lt_cons_iff]
      · simp [h1, h2, List.cons_lt_cons_iff]
/-- slices.Sort on the keys, in whatever order they come -/
theorem sort_keys {L : List Kv} {out : List ByteArray} (ha : Asc L) (hp : out.Perm (L.map (·.1))) : (out.map ByteArray.toList).mergeSort (fun x y => decide (x ≤ y)) = L.map fun x => x.1.toList := by
  have h1 : ((out.map ByteArray.toList).mergeSort (fun x y => decide (x ≤ y))).Perm (L.map fun x => x.1.toList) := by
    refine (List.mergeSort_perm _ _).trans ?_
    have := hp.map ByteArray.toList
    rw [List.map_map] at this
    exact this
  have h2 := List.pairwise_mergeSort (le := fun x y : List UInt8 => decide (x ≤ y)) (fun a b c h1 h2 => by simp only [decide_eq_true_eq] at *; exact List.le_trans h1 h2) (fun a b => by simp only [Bool.or_eq_true, decide_eq_true_eq]; exact List.le_total a b) (out.map ByteArray.toList)
  have h3 : (L.map fun x => x.1.toList).Pairwise fun a b => decide (a ≤ b) = true := by
    rw [List.pairwise_map]
    refine ha.imp fun {a b} h => ?_
    unfold ltB at h
    rw [bl_lt] at h
    simp only [decide_eq_true_eq] at *
    exact List.le_of_lt h
  exact List.Perm.eq_of_pairwise (fun a b _ _ h1 h2 => by simp only [decide_eq_true_eq] at *; exact List.le_antisymm h1 h2) h2 h3 h1
end Go.Proofs.YtphglnenafdkaaaGreatDoor

namespace Go.Proofs.YtphglnenafdkaaaGreatDoor
open Go.Shelf
def lays190_ren : Go.Shelf.Ren := ⟨fun | 190 => 70 | 125 => 92 | 258 => 91 | 128 => 124 | 129 => 125 | 302 => 115 | 303 => 116 | 304 => 117 | 305 => 118 | 306 => 119 | 307 => 120 | 308 => 121 | 309 => 122 | 310 => 123 | 333 => 150 | 329 => 151 | 330 => 152 | 334 => 153 | 335 => 154 | 336 => 155 | 344 => 168 | n => n, fun | 31 => 25 | 9 => 9 | 3 => 3 | 46 => 136 | 0 => 0 | 51 => 159 | 53 => 118 | 4 => 4 | 183 => 152 | 182 => 151 | 131 => 95 | 5 => 5 | 218 => 174 | 222 => 178 | 228 => 190 | 229 => 191 | n => n, fun | n => n⟩
theorem lays190 : Go.Proofs.Lays.n190 Tryz.prog lays190_ren := {
  mixed := by kernel_rfl
  f125 := Tryz.func92.trans (congrArg some (by kernel_rfl))
  f128 := Tryz.func124.trans (congrArg some (by kernel_rfl))
  f129 := Tryz.func125.trans (congrArg some (by kernel_rfl))
  f190 := Tryz.func70.trans (congrArg some (by kernel_rfl))
  f258 := Tryz.func91.trans (congrArg some (by kernel_rfl))
  f302 := Tryz.func115.trans (congrArg some (by kernel_rfl))
  f303 := Tryz.func116.trans (congrArg some (by kernel_rfl))
  f304 := Tryz.func117.trans (congrArg some (by kernel_rfl))
  f305 := Tryz.func118.trans (congrArg some (by kernel_rfl))
  f306 := Tryz.func119.trans (congrArg some (by kernel_rfl))
  f307 := Tryz.func120.trans (congrArg some (by kernel_rfl))
  f308 := Tryz.func121.trans (congrArg some (by kernel_rfl))
  f309 := Tryz.func122.trans (congrArg some (by kernel_rfl))
  f310 := Tryz.func123.trans (congrArg some (by kernel_rfl))
  f329 := Tryz.func151.trans (congrArg some (by kernel_rfl))
  f330 := Tryz.func152.trans (congrArg some (by kernel_rfl))
  f333 := Tryz.func150.trans (congrArg some (by kernel_rfl))
  f334 := Tryz.func153.trans (congrArg some (by kernel_rfl))
  f335 := Tryz.func154.trans (congrArg some (by kernel_rfl))
  f336 := Tryz.func155.trans (congrArg some (by kernel_rfl))
  f344 := Tryz.func168.trans (congrArg some (by kernel_rfl))
  t0 := Tryz.underlying0
  a0 := Tryz.isAgg0
  z0 := Tryz.sizeOf0
  v0 := Tryz.zeroValue0
  t3 := Tryz.underlying3
  a3 := Tryz.isAgg3
  z3 := Tryz.sizeOf3
  v3 := Tryz.zeroValue3
  t4 := Tryz.underlying4
  a4 := Tryz.isAgg4
  z4 := Tryz.sizeOf4
  v4 := Tryz.zeroValue4
  t5 := Tryz.underlying5
  a5 := Tryz.isAgg5
  z5 := Tryz.sizeOf5
  v5 := Tryz.zeroValue5
  t9 := Tryz.underlying9
  a9 := Tryz.isAgg9
  z9 := Tryz.sizeOf9
  v9 := Tryz.zeroValue9
  t31 := Tryz.underlying25
  a31 := Tryz.isAgg25
  z31 := Tryz.sizeOf25
  v31 := Tryz.zeroValue25
  t46 := Tryz.underlying136
  a46 := Tryz.isAgg136
  z46 := Tryz.sizeOf136
  v46 := Tryz.zeroValue136
  t51 := Tryz.underlying159
  a51 := Tryz.isAgg159
  z51 := Tryz.sizeOf159
  v51 := Tryz.zeroValue159
  t53 := Tryz.underlying118
  a53 := Tryz.isAgg118
  z53 := Tryz.sizeOf118
  v53 := Tryz.zeroValue118
  t131 := Tryz.underlying95
  a131 := Tryz.isAgg95
  z131 := Tryz.sizeOf95
  v131 := Tryz.zeroValue95
  t182 := Tryz.underlying151
  a182 := Tryz.isAgg151
  z182 := Tryz.sizeOf151
  v182 := Tryz.zeroValue151
  t183 := Tryz.underlying152
  a183 := Tryz.isAgg152
  z183 := Tryz.sizeOf152
  v183 := Tryz.zeroValue152
  t218 := Tryz.underlying174
  a218 := Tryz.isAgg174
  z218 := Tryz.sizeOf174
  v218 := Tryz.zeroValue174
  t222 := Tryz.underlying178
  a222 := Tryz.isAgg178
  z222 := Tryz.sizeOf178
  v222 := Tryz.zeroValue178
  t228 := Tryz.underlying190
  a228 := Tryz.isAgg190
  z228 := Tryz.sizeOf190
  v228 := Tryz.zeroValue190
  t229 := Tryz.underlying191
  a229 := Tryz.isAgg191
  z229 := Tryz.sizeOf191
  v229 := Tryz.zeroValue191 }
open Go.Sort Go.RowKit in
theorem slices_Sort_string (blk off cap : Nat) (ss : List (List UInt8)) (w : World) (hH : Holds encStr w blk off ss.toArray) (hblk : blk < w.heap.size) (hsz : ss.length < 4611686018427387904) :
    Calls Tryz.prog 70 #[.slice (some ⟨blk, off, none⟩) ss.length cap] w fun e w' =>
      e = .returned (.tuple #[]) ∧ ∃ n os, w' = grow (putRow encStr (Sort.ahead w n) blk off (ss.mergeSort fun x y => decide (x ≤ y)).toArray) os := Any.slices_Sort_string lays190 blk off cap ss w hH hblk hsz
open Go.RowKit Go.Sort in
/-- .. and plain. (LAID: no walk: one application.) -/
theorem slices_Sort_string_none (p : Option Addr) (cap : Nat) (w : World) :
    Calls Tryz.prog 70 #[.slice p 0 cap] w fun e w' => e = .returned (.tuple #[]) ∧ w' = w := Any.slices_Sort_string_none lays190 p cap w
end Go.Proofs.YtphglnenafdkaaaGreatDoor

namespace Go.Proofs.YtphglnenafdkaaaGreatDoor
open Go.RowKit Go.Sort Go.Shelf
set_option linter.unusedVariables false
set_option linter.unusedSimpArgs false

theorem enc_of (k : ByteArray) : encStr k.toList = .string k := by
  rw [ByteArray.toList_eq]
theorem strs_get {l : List ByteArray} {j : Nat} (hj : j < l.length) : (strs l)[j]? = some (encStr ((l.map ByteArray.toList).toArray[j]!)) := by
  have h1 : (l.map ByteArray.toList).toArray[j]! = l[j].toList := by simp [hj]
  rw [h1, enc_of]
  simp [strs, hj]
theorem holds_strs {w : World} {g : Nat} {cur : Array Value} {e : TypeId} {l : List ByteArray} (hb : w.heap[g]? = some (.cells cur e (0, 0))) (ht : cur.toList.take (l.length * 1) = strs l) : Holds encStr w g 0 (l.map ByteArray.toList).toArray := by
  intro j hj
  have hj' : j < l.length := by simpa using hj
  have h1 := strs_get hj'
  rw [← ht, List.getElem?_take_of_lt (by omega), Array.getElem?_toList] at h1
  refine ⟨?_, by simp [World.frozen?, hb]⟩
  simp only [World.cell?, hb, Nat.zero_add, Option.isSome_none, Bool.false_eq_true, if_false]
  exact h1
theorem heap_sortedS {w : World} {g n : Nat} {os : Array Obj} {cur : Array Value} {e : TypeId} {fr : Nat × Nat} (d : Array (List UInt8)) (hb : w.heap[g]? = some (.cells cur e fr)) :
    (grow (putRow encStr (Sort.ahead w n) g 0 d) os).heap[g]? = some (.cells (putCells encStr 0 d cur) e fr) := by
  have hg : g < w.heap.size := (Array.getElem?_eq_some_iff.1 hb).1
  rw [heap_grow_old _ _ (by simpa using hg)]
  simp [putRow, mapBlock, Sort.ahead, Array.getElem?_modify, hb, onCells]
theorem grownBy_sortedS {w : World} {g n : Nat} {os : Array Obj} (d : Array (List UInt8)) : w.grownBy (grow (putRow encStr (Sort.ahead w n) g 0 d) os) (some g) := by
  refine ⟨rfl, rfl, rfl, by simp, fun k hk hne => ?_⟩
  rw [heap_grow_old _ _ (by simpa using hk)]
  have : g ≠ k := fun e => hne (by rw [e])
  simp [putRow, mapBlock, Sort.ahead, Array.getElem?_modify, this]
theorem ownsRow_sortedS {w : World} {base g cap n : Nat} {e : TypeId} {os : Array Obj} {cur : Array Value} {ss ts : List ByteArray} (hl : ts.length = ss.length) (hbase : base ≤ g) (hb : w.heap[g]? = some (.cells cur e (0, 0)))
    (h1 : ss.length ≤ cap) (h2 : cap ≤ maxLen) (h3 : cur.size = cap * 1) :
    (grow (putRow encStr (Sort.ahead w n) g 0 (ts.map ByteArray.toList).toArray) os).ownsRow base e 1 (.slice (some ⟨g, 0, none⟩) ss.length cap) ss.length (strs ts) := by
  refine ⟨by simp [strs, hl], .inr ⟨g, cap, _, rfl, hbase, heap_sortedS _ hb, h1, h2, by simp [putCells, h3], ?_⟩⟩
  apply List.ext_getElem?
  intro j
  by_cases hj : j < ts.length
  · rw [List.getElem?_take_of_lt (by omega), Array.getElem?_toList, strs_get hj]
    simp [putCells, hj, show j < cur.size by omega]
  · rw [List.getElem?_take_eq_none (by omega), List.getElem?_eq_none (by simp [strs]; omega)]
theorem sortk_any {base : Nat} {A : Option Addr} {c : Nat} (out : List ByteArray) (L : List Kv) (w : World) (ha : Asc L) (hp : out.Perm (L.map (·.1))) (hn : out.length ≤ 262144) (hown : w.ownsRow base 9 1 (.slice A out.length c) out.length (strs out)) :
    Calls Tryz.prog 70 #[.slice A out.length c] w fun e w' => e = .returned (.tuple #[]) ∧ w'.ownsRow base 9 1 (.slice A out.length c) out.length (strs (L.map (·.1))) ∧ w.grownBy w' (Value.slice A out.length c).ownBlock := by
  have hlen := hp.length_eq
  rcases hown.2 with ⟨hnil, h0⟩ | ⟨g, cap, cur, hv, hbase, hb, h1, h2, h3, h4⟩
  · rw [h0] at hown ⊢
    refine (slices_Sort_string_none A c w).mono ?_
    rintro e w' ⟨rfl, rfl⟩
    obtain rfl := List.eq_nil_of_length_eq_zero h0
    have : L.map (·.1) = [] := List.eq_nil_of_length_eq_zero hlen.symm
    rw [this]
    exact ⟨rfl, hown, World.grownBy.refl _ _⟩
  · injection hv with hA hn2 hc
    subst hA
    have hlt : g < w.heap.size := (Array.getElem?_eq_some_iff.1 hb).1
    have hcon := slices_Sort_string g 0 c (out.map ByteArray.toList) w (holds_strs hb h4) hlt (by simp; omega)
    rw [sort_keys ha hp, List.length_map] at hcon
    refine hcon.mono ?_
    rintro e w' ⟨rfl, n, os, rfl⟩
    refine ⟨rfl, ?_, grownBy_sortedS _⟩
    have := ownsRow_sortedS (n := n) (os := os) (ss := out) (ts := L.map (·.1)) hlen.symm hbase hb h1 h2 h3
    rw [hc]
    rw [List.map_map] at this
    exact this
end Go.Proofs.YtphglnenafdkaaaGreatDoor

namespace Go.Proofs.YtphglnenafdkaaaGreatDoor
open Go.RowKit
set_option linter.unusedVariables false
set_option linter.unusedSimpArgs false

theorem info_strK : (Tryz.prog.info? 9).map (fun i => (i.zero, i.size, i.bytes)) = some (some (.string ⟨#[]⟩), 1, 16) := by kernel_rfl
theorem strs_snoc (l : List ByteArray) (k : ByteArray) : strs (l ++ [k]) = strs l ++ [.string k] := by simp [strs]
theorem keysTo_len {n i : Nat} {L : List Kv} (hL : L.length ≤ 262144) : (keysTo n i L).length ≤ 262144 := by
  unfold keysTo
  rw [List.length_map]
  exact Nat.le_trans (List.length_filter_le _ _) hL
theorem own_updC {M : Nat → Prop} {w w' : World} {base : Nat} {e : TypeId} {size n : Nat} {v : Value} {xs : List Value} (h : w.ownsRow base e size v n xs) (hu : Upd M w w') (hM : ∀ k, M k → ∃ a b c d, w.heap[k]? = some (.mapIter a b c d)) : w'.ownsRow base e size v n xs := by
  refine ⟨h.1, ?_⟩
  rcases h.2 with hn | ⟨g, cap, cur, rfl, hg, hh, rest⟩
  · exact .inl hn
  · have hl : g < w.heap.size := (Array.getElem?_eq_some_iff.1 hh).1
    exact .inr ⟨g, cap, cur, rfl, hg, (hu.block g hl fun hm => by obtain ⟨_, _, _, _, h1⟩ := hM g hm; rw [hh] at h1; cases h1).trans hh, rest⟩
theorem own_not {w : World} {base b : Nat} {e : TypeId} {size n : Nat} {v : Value} {xs : List Value} {m : Option Nat} {a d : Nat} {q : Array Nat} (h : w.ownsRow base e size v n xs) (hb : w.heap[b]? = some (.mapIter m a q d)) : v.ownBlock ≠ some b := by
  intro e
  rcases h.2 with ⟨rfl, _⟩ | ⟨g, cap, cur, rfl, hg, hh, rest⟩
  · cases e
  · injection e with e
    simp only at e
    rw [e, hb] at hh; cases hh
section
variable {S : Nat → Prop} {w : World} {g : Nat} {s : St}
set_option maxRecDepth 100000 in
set_option maxHeartbeats 4000000 in
theorem keys_any (h : PAt S w g s) : Calls Tryz.prog 43 #[.pointer (some ⟨g, 0, none⟩)] w fun e w' => ∃ A c, e = .returned (.slice A s.L.length c) ∧ w'.ownsRow w.heap.size 9 1 (.slice A s.L.length c) s.L.length (strs (s.L.map (·.1))) ∧ Below w.heap.size w w' := by
  obtain ⟨cb, cc, mb, vb, h⟩ := h
  have HH := hid h
  have c1 := h.cells.2.1
  obtain ⟨i0, hi0, hz0, hz1, hz2⟩ := info_parts info_strK
  have hlen := hid h.ok.len
  have hpr := hid h.ok.parts
  have hP : (s.parts : Int) ≤ 64 := by have := h.ok.parts; omega
  clear h
  go_enter Tryz.func43, Tryz.ntmps43
  go_wp2_with fail
  go_loopw [3, 14] (fun u v wr => ∃ (i : Nat) (out : List ByteArray) (A : Option Addr) (c : Nat), u = .slice A out.length c ∧ v = .int .i64 i ∧ i ≤ s.parts ∧ wr.ownsRow w.heap.size 9 1 (.slice A out.length c) out.length (strs out) ∧ Below w.heap.size w wr ∧ out.Perm (keysTo s.parts i s.L)) (fun _ v _ => s.parts - (intOf v).toNat)
  case atStart => exact ⟨0, [], none, 0, rfl, rfl, Nat.zero_le _, World.ownsRow_nil _ _ _ _, Below.refl _ _, by rw [keysTo_zero]⟩
  case round =>
    obtain ⟨i, out, A, c, rfl, rfl, hi, hown0, hb0, hpm0⟩ := hrel
    have hO := hid hown0
    have hB := hid hb0
    have hpm := hid hpm0
    have hol := hid (show out.length ≤ 262144 by rw [hpm0.length_eq]; exact keysTo_len hlen.out)
    by_cases hlt : i < s.parts
    · have i1 : (i : Int) < (s.parts : Int) := by omega
      obtain ⟨l, hml, hd⟩ := HH.out.cl i hlt
      obtain ⟨es, clock, hes, hprs, hst⟩ := id hml
      have hlm := hid (HH.out.lt _ (HH.out.inS.2.2.2 i hlt))
      have hesr0 : wr.heap[mb i]? = some (.map es clock) := (hb0.block _ hlm.out).trans hes
      have hrg := run_range_map (P := Tryz.prog) wr 78 9 3 (mb i) es clock Tryz.underlying78 hesr0
      have y0 : wr.cell? ⟨cb, i, none⟩ = some (.map (some (mb i))) := ((Upd.of_below (M := fun j => w.heap.size ≤ j) hb0 fun _ _ h => h).cell (HH.out.rowc i hlt) (by have := HH.out.lt _ HH.out.inS.2.1; omega))
      have hM := hid hml
      have hD := hid hd
      have hPr := hid hprs
      have hS := hid hst
      have hE := hid hes
      have hll := hid (show l.length ≤ 262144 by rw [claims_len HH.out.ok.asc hml hd]; unfold keysP; rw [List.length_map]; exact Nat.le_trans (List.length_filter_le _ _) hlen.out)
      have hsum := hid (show ∀ new : List ByteArray, new.length ≤ l.length → (out ++ new).length ≤ 524288 from fun new hn => by have := hol.out; have := hll.out; simp; omega)
      clear hml hd hprs hst hes hown0 hb0 hpm0 hesr0
      go_wp2_with fail
      rename World => W1
      clear hrg y0 c1
      have hitl := hid hB.out.size
      go_loopw [3] (fun v wr => ∃ (seen : Array Nat) (c0 : Nat) (new : List ByteArray) (A : Option Addr) (c : Nat), v = .slice A (out ++ new).length c ∧ wr.heap[W1.heap.size]? = some (.mapIter (some (mb i)) clock seen c0) ∧ clock ≤ c0 ∧ wr.ownsRow w.heap.size 9 1 (.slice A (out ++ new).length c) (out ++ new).length (strs (out ++ new)) ∧ Below w.heap.size w wr ∧ (doneOf es seen).Perm (new.map encK)) (fun _ wr => (leftOf es (wr.iterSeen W1.heap.size)).size)
      case atStart => exact ⟨#[], clock, [], A, c, by rw [List.append_nil], heap_alloc_new _ _, Nat.le_refl _, by rw [List.append_nil]; exact hO.out.alloc _, hB.out.alloc hB.out.size _, by rw [done_none]; exact List.Perm.nil⟩
      case round =>
        obtain ⟨seen, c0, new, A2, c2, rfl, hr, hc0, hown, hB0, hdone⟩ := hrel
        have hesr := (hB0.block _ hlm.out).trans hE.out
        have hseen0 := hid (seen_of hr)
        have hnl : new.length ≤ l.length := by
          have h1 := hdone.length_eq
          have h2 := done_le (E := strE) (seen := seen) hPr.out
          simp at h1
          omega
        have hol2 := hid (hsum.out new hnl)
        clear hnl
        rcases range_step (P := Tryz.prog) hr hesr hS.out hc0 with ⟨h0, hnx⟩ | ⟨e, wn, he, hns, hsh, hun, hszn, hrn, hesn, hnx, hent⟩
        · have hperm : new.Perm (keysP s.parts i s.L) := done_claims HH.out.ok.asc hM.out hD.out hPr.out (by rw [← done_all h0]; exact hdone)
          have hpm2 := hid ((hpm.out.append hperm).trans (keysTo_step s.parts i s.L))
          have hB2 := hid hB0
          have hO2 := hid hown
          have hj : IntKind.i64.wrap ((i : Int) + 1) = (i : Int) + 1 := by rw [IntKind.wrap_i64]; omega
          generalize out ++ new = out2 at *
          clear hperm h0 hr hesr hown hB0 hdone hsum
          go_wp2_with fail
          go_roundw
          case rel => exact ⟨i + 1, out2, A2, c2, rfl, by simp, hlt, hO2.out, hB2.out, hpm2.out⟩
          case measure => simp [intOf]; omega
        · obtain ⟨p, hp, hek, hev⟩ := done_list (E := strE) (w := w) (b := mb i) (clock := clock) hPr.out he
          have hget := (getK_mem hM.out.nodup).2 (show (p.1, p.2) ∈ l from hp)
          rw [hD.out] at hget
          obtain ⟨y, hy⟩ : ∃ y, y = p.1 := ⟨_, rfl⟩
          have hek : e.key = .string y := by rw [hek, hy]; rfl
          have hev : e.val = .int .i64 1 := by
            rw [hev]
            unfold Dc at hget
            split at hget
            · injection hget with hget; exact hget.symm
            · cases hget
          have hpush := hid ((done_push hS.out.2.1 he hns).trans (hdone.cons _))
          rw [hek, hev] at hnx hent hpush
          have hownn : wn.ownsRow w.heap.size 9 1 (.slice A2 (out ++ new).length c2) (out ++ new).length (strs (out ++ new)) := own_updC hown hun fun k e => ⟨_, _, _, _, (congrArg (fun j => wr.heap[j]?) (show k = W1.heap.size from e)).trans hr⟩
          have hBn : Below w.heap.size w wn := hB0.trans (hun.below (B := w.heap.size) hB0.size fun k hk e => by have := hitl.out; omega)
          have hHB := hid hBn
          have hHO := hid hownn
          have hHr := hid hrn
          have hsh' := hid hsh
          clear hp hget hek hev hy hown hB0 hdone hr hesr hun hrn hesn hBn hownn he hns hsh hszn hsum
          have hlo := hid (show (out ++ new).length + 1 ≤ 1000000 by have := hol2.out; omega)
          have hne := hid (own_not hHO.out hHr.out)
          have hrl := hid (show W1.heap.size < wn.heap.size from (Array.getElem?_eq_some_iff.1 hHr.out).1)
          go_wp2_with (
            at_builtin
            refine wpList_append_rd _ rfl (.tmp 24) (.tmp 26) 25 rfl w.heap.size 9 i0 _ 1 16 Tryz.underlying25 hi0 hz0 hz1 hz2 rfl (by omega) (.slice A2 (out ++ new).length c2) (out ++ new).length (strs (out ++ new)) rfl (hHO.out.alloc _) (fun b => b = wn.heap.size) (some ⟨wn.heap.size, 0, none⟩) 1 1 [.string y] rfl (Rd.new _ 9 1 1 #[.string y] _ rfl rfl) (by simp [Value.oneCell']) (by have := hlo.out; simp only [maxLen]; omega) (by have := hlo.out; omega) (by have h1 := hHB.out.size; simp; omega) ?_
            intro v3 w3 hown3 hg3 hat3
            obtain ⟨A3, c3, rfl, hc3, _⟩ := own_form hown3)
          have hr3 : w3.heap[W1.heap.size]? = some (.mapIter (some (mb i)) clock (seen.push e.born) clock) := (hg3.block _ (by have := hrl.out; simp; omega) (Ne.symm hne.out)).trans ((Below.heap_alloc _ _ _ hrl.out).trans hHr.out)
          go_roundw
          case rel =>
            refine ⟨seen.push e.born, clock, new ++ [y], A3, c3, by simp [Nat.add_assoc], hr3, Nat.le_refl _, ?_, ?_, ?_⟩
            · rw [← List.append_assoc, strs_snoc, List.length_append]; exact hown3
            · exact (hHB.out.alloc hHB.out.size _).grown hg3 (by have := hHB.out.size; simp; omega) fun k hk => (hHO.out.lt k hk).1
            · rw [List.map_append]
              exact hpush.out.trans (List.perm_append_comm (l₁ := [encK y]) (l₂ := new.map encK))
          case measure =>
            rw [seen_of hr3, hseen0.out]
            exact hsh'.out
    · obtain rfl : i = s.parts := by omega
      have hso := hid (sortk_any (c := c) out s.L wr HH.out.ok.asc (by rw [← keysTo_all (n := s.parts) (by have := hpr.out; omega)]; exact hpm.out) hol.out hO.out)
      have hln := hid (show out.length = s.L.length by have := hpm.out.length_eq; rw [keysTo_all (by have := hpr.out; omega)] at this; simpa using this)
      clear hlt hown0 hb0 hpm0 c1
      generalize s.parts = np at *
      go_wp2_with fail
      refine hso.out.mono ?_
      rintro e w3 ⟨rfl, hown3, hg3⟩
      have hfin : Hid (w3.ownsRow w.heap.size 9 1 (.slice A out.length c) out.length (strs (s.L.map (·.1))) ∧ Below w.heap.size w w3) := hid ⟨hown3, hB.out.grown hg3 hB.out.size fun k hk => (hO.out.lt k hk).1⟩
      clear hown3 hg3
      go_wp2_with fail
      go_ret
      rw [hln.out] at hfin ⊢
      exact ⟨A, c, rfl, hfin.out.1, hfin.out.2⟩
end
end Go.Proofs.YtphglnenafdkaaaGreatDoor

namespace Go.Proofs.YtphglnenafdkaaaGreatDoor
open Go.Shelf
def laysM173_ren : Go.Shelf.Ren := ⟨fun | 173 => 69 | 246 => 90 | 283 => 111 | 284 => 112 | 285 => 113 | 286 => 114 | 129 => 125 | 317 => 146 | 318 => 147 | 319 => 148 | 320 => 149 | 337 => 166 | 338 => 167 | n => n, fun | 2 => 2 | 3 => 3 | 9 => 9 | 4 => 4 | 171 => 145 | 0 => 0 | 53 => 118 | 37 => 41 | 5 => 5 | 173 => 148 | 212 => 171 | 51 => 159 | 20 => 20 | 213 => 172 | 46 => 136 | 232 => 203 | 233 => 204 | n => n, fun | 17 => 2 | 18 => 7 | 19 => 8 | n => n⟩
theorem laysM173 : Go.Proofs.LaysM.n173 Tryz.prog laysM173_ren := {
  mixed := by kernel_rfl
  f129 := Tryz.func125.trans (congrArg some (by kernel_rfl))
  f173 := Tryz.func69.trans (congrArg some (by kernel_rfl))
  f246 := Tryz.func90.trans (congrArg some (by kernel_rfl))
  f283 := Tryz.func111.trans (congrArg some (by kernel_rfl))
  f284 := Tryz.func112.trans (congrArg some (by kernel_rfl))
  f285 := Tryz.func113.trans (congrArg some (by kernel_rfl))
  f286 := Tryz.func114.trans (congrArg some (by kernel_rfl))
  f317 := Tryz.func146.trans (congrArg some (by kernel_rfl))
  f318 := Tryz.func147.trans (congrArg some (by kernel_rfl))
  f319 := Tryz.func148.trans (congrArg some (by kernel_rfl))
  f320 := Tryz.func149.trans (congrArg some (by kernel_rfl))
  f337 := Tryz.func166.trans (congrArg some (by kernel_rfl))
  f338 := Tryz.func167.trans (congrArg some (by kernel_rfl))
  t0 := Tryz.underlying0
  a0 := Tryz.isAgg0
  z0 := Tryz.sizeOf0
  v0 := Tryz.zeroValue0
  t2 := Tryz.underlying2
  a2 := Tryz.isAgg2
  z2 := Tryz.sizeOf2
  v2 := Tryz.zeroValue2
  t3 := Tryz.underlying3
  a3 := Tryz.isAgg3
  z3 := Tryz.sizeOf3
  v3 := Tryz.zeroValue3
  t4 := Tryz.underlying4
  a4 := Tryz.isAgg4
  z4 := Tryz.sizeOf4
  v4 := Tryz.zeroValue4
  t5 := Tryz.underlying5
  a5 := Tryz.isAgg5
  z5 := Tryz.sizeOf5
  v5 := Tryz.zeroValue5
  t9 := Tryz.underlying9
  a9 := Tryz.isAgg9
  z9 := Tryz.sizeOf9
  v9 := Tryz.zeroValue9
  t20 := Tryz.underlying20
  a20 := Tryz.isAgg20
  z20 := Tryz.sizeOf20
  v20 := Tryz.zeroValue20
  t37 := Tryz.underlying41
  a37 := Tryz.isAgg41
  z37 := Tryz.sizeOf41
  v37 := Tryz.zeroValue41
  t46 := Tryz.underlying136
  a46 := Tryz.isAgg136
  z46 := Tryz.sizeOf136
  v46 := Tryz.zeroValue136
  t51 := Tryz.underlying159
  a51 := Tryz.isAgg159
  z51 := Tryz.sizeOf159
  v51 := Tryz.zeroValue159
  t53 := Tryz.underlying118
  a53 := Tryz.isAgg118
  z53 := Tryz.sizeOf118
  v53 := Tryz.zeroValue118
  t171 := Tryz.underlying145
  a171 := Tryz.isAgg145
  z171 := Tryz.sizeOf145
  v171 := Tryz.zeroValue145
  t173 := Tryz.underlying148
  a173 := Tryz.isAgg148
  z173 := Tryz.sizeOf148
  v173 := Tryz.zeroValue148
  t212 := Tryz.underlying171
  a212 := Tryz.isAgg171
  z212 := Tryz.sizeOf171
  v212 := Tryz.zeroValue171
  t213 := Tryz.underlying172
  a213 := Tryz.isAgg172
  z213 := Tryz.sizeOf172
  t232 := Tryz.underlying203
  a232 := Tryz.isAgg203
  z232 := Tryz.sizeOf203
  v232 := Tryz.zeroValue203
  t233 := Tryz.underlying204
  a233 := Tryz.isAgg204
  z233 := Tryz.sizeOf204
  v233 := Tryz.zeroValue204
  g17 := by kernel_rfl
  g18 := by kernel_rfl
  g19 := by kernel_rfl
  i0 := by kernel_rfl
  i2 := by kernel_rfl
  i3 := by kernel_rfl
  i4 := by kernel_rfl
  i5 := by kernel_rfl
  i9 := by kernel_rfl
  i20 := by kernel_rfl
  i37 := by kernel_rfl
  i46 := by kernel_rfl
  i51 := by kernel_rfl
  i53 := by kernel_rfl
  i171 := by kernel_rfl
  i173 := by kernel_rfl
  i212 := by kernel_rfl
  i232 := by kernel_rfl
  i233 := by kernel_rfl
  m17 := by kernel_rfl
  m18 := by kernel_rfl
  m19 := by kernel_rfl }
def laysM183_ren : Go.Shelf.Ren := ⟨fun | 183 => 45 | n => n, fun | 130 => 120 | 37 => 41 | 0 => 0 | 93 => 83 | 3 => 3 | 5 => 5 | 91 => 81 | n => n, fun | n => n⟩
theorem laysM183 : Go.Proofs.LaysM.n183 Tryz.prog laysM183_ren := {
  mixed := by kernel_rfl
  f183 := Tryz.func45.trans (congrArg some (by kernel_rfl))
  t0 := Tryz.underlying0
  a0 := Tryz.isAgg0
  z0 := Tryz.sizeOf0
  v0 := Tryz.zeroValue0
  t3 := Tryz.underlying3
  a3 := Tryz.isAgg3
  z3 := Tryz.sizeOf3
  v3 := Tryz.zeroValue3
  t37 := Tryz.underlying41
  a37 := Tryz.isAgg41
  z37 := Tryz.sizeOf41
  v37 := Tryz.zeroValue41
  t93 := Tryz.underlying83
  a93 := Tryz.isAgg83
  z93 := Tryz.sizeOf83
  v93 := Tryz.zeroValue83
  t130 := Tryz.underlying120
  a130 := Tryz.isAgg120
  z130 := Tryz.sizeOf120
  v130 := Tryz.zeroValue120
  t5 := Tryz.underlying5
  a5 := Tryz.isAgg5
  z5 := Tryz.sizeOf5
  v5 := Tryz.zeroValue5
  t91 := Tryz.underlying81
  a91 := Tryz.isAgg81
  z91 := Tryz.sizeOf81
  v91 := Tryz.zeroValue81
  i0 := by kernel_rfl
  i3 := by kernel_rfl
  i5 := by kernel_rfl
  i37 := by kernel_rfl
  i91 := by kernel_rfl
  i93 := by kernel_rfl
  i130 := by kernel_rfl }
def laysM178_ren : Go.Shelf.Ren := ⟨fun | 178 => 40 | 251 => 67 | 252 => 68 | 181 => 87 | 184 => 88 | 290 => 89 | 324 => 110 | n => n, fun | 130 => 120 | 9 => 9 | 3 => 3 | 75 => 85 | 0 => 0 | 93 => 83 | 91 => 81 | 131 => 95 | 4 => 4 | 37 => 41 | 20 => 20 | 80 => 101 | 5 => 5 | n => n, fun | 14 => 0 | n => n⟩
theorem laysM178 : Go.Proofs.LaysM.n178 Tryz.prog laysM178_ren := {
  mixed := by kernel_rfl
  f178 := Tryz.func40.trans (congrArg some (by kernel_rfl))
  f181 := Tryz.func87.trans (congrArg some (by kernel_rfl))
  f184 := Tryz.func88.trans (congrArg some (by kernel_rfl))
  f251 := Tryz.func67.trans (congrArg some (by kernel_rfl))
  f252 := Tryz.func68.trans (congrArg some (by kernel_rfl))
  f290 := Tryz.func89.trans (congrArg some (by kernel_rfl))
  f324 := Tryz.func110.trans (congrArg some (by kernel_rfl))
  t0 := Tryz.underlying0
  a0 := Tryz.isAgg0
  z0 := Tryz.sizeOf0
  v0 := Tryz.zeroValue0
  t3 := Tryz.underlying3
  a3 := Tryz.isAgg3
  z3 := Tryz.sizeOf3
  v3 := Tryz.zeroValue3
  t4 := Tryz.underlying4
  a4 := Tryz.isAgg4
  z4 := Tryz.sizeOf4
  v4 := Tryz.zeroValue4
  t9 := Tryz.underlying9
  a9 := Tryz.isAgg9
  z9 := Tryz.sizeOf9
  v9 := Tryz.zeroValue9
  t20 := Tryz.underlying20
  a20 := Tryz.isAgg20
  z20 := Tryz.sizeOf20
  v20 := Tryz.zeroValue20
  t37 := Tryz.underlying41
  a37 := Tryz.isAgg41
  z37 := Tryz.sizeOf41
  v37 := Tryz.zeroValue41
  t75 := Tryz.underlying85
  a75 := Tryz.isAgg85
  z75 := Tryz.sizeOf85
  v75 := Tryz.zeroValue85
  t91 := Tryz.underlying81
  a91 := Tryz.isAgg81
  z91 := Tryz.sizeOf81
  v91 := Tryz.zeroValue81
  t93 := Tryz.underlying83
  a93 := Tryz.isAgg83
  z93 := Tryz.sizeOf83
  v93 := Tryz.zeroValue83
  t130 := Tryz.underlying120
  a130 := Tryz.isAgg120
  z130 := Tryz.sizeOf120
  v130 := Tryz.zeroValue120
  t131 := Tryz.underlying95
  a131 := Tryz.isAgg95
  z131 := Tryz.sizeOf95
  v131 := Tryz.zeroValue95
  g14 := by kernel_rfl
  t5 := Tryz.underlying5
  a5 := Tryz.isAgg5
  z5 := Tryz.sizeOf5
  v5 := Tryz.zeroValue5
  t80 := Tryz.underlying101
  a80 := Tryz.isAgg101
  z80 := Tryz.sizeOf101
  v80 := Tryz.zeroValue101
  i0 := by kernel_rfl
  i3 := by kernel_rfl
  i4 := by kernel_rfl
  i5 := by kernel_rfl
  i9 := by kernel_rfl
  i20 := by kernel_rfl
  i37 := by kernel_rfl
  i75 := by kernel_rfl
  i80 := by kernel_rfl
  i91 := by kernel_rfl
  i93 := by kernel_rfl
  i130 := by kernel_rfl
  i131 := by kernel_rfl
  m14 := by kernel_rfl }
open Go.RowKit Go.Sort Go.Lib in
/-- strconv.FormatInt: "FormatInt returns the string representation of i in the given base": AT BASE 10: i's decimal numeral, for every int64. (LAID: no walk: one application.) -/
theorem strconv_FormatInt_10 (n : Int) (h0 : -9223372036854775808 ≤ n) (h1 : n ≤ 9223372036854775807) (w : World) (htab : Lib.TabIs Tryz.prog w "internal/strconv.uint64pow10" .u64 Lib.pow10Tab) :
    Calls Tryz.prog 69 #[.int .i64 n, .int .i64 10] w fun e w' => e = .returned (.string ⟨(Lib.itoa n).toArray⟩) ∧ ∃ k os, w' = grow (w.drewN k) os := Any.strconv_FormatInt_10 laysM173 n h0 h1 w htab
open Go.RowKit in
/-- (*bytes.Buffer).Bytes: "Bytes returns a slice of length b.Len() holding the unread portion of the buffer. .. The slice aliases the buffer content at least until the next buffer modification": A SLICE THAT OWNS THE CELLS bs ('World.ownsRow': nil where nothing was ever written). The world is as it was but for the count of draws. (LAID: no walk: one application.) -/
theorem Buffer_Bytes (B b : Nat) (bs : List Value) (w : World) (h : Lib.IsBuffer 83 5 B b bs w) :
    Calls Tryz.prog 45 #[.pointer (some ⟨b, 0, none⟩)] w fun e w' => ∃ v, e = .returned v ∧ w'.ownsRow B 5 1 v bs.length bs ∧ ∃ n, w' = w.drewN n := Any.Buffer_Bytes laysM183 B b bs w h
open Go.RowKit in
theorem Buffer_WriteString_k (B b : Nat) (bs : List Value) (s : ByteArray) (w : World) (h : Lib.IsBuffer 83 5 B b bs w) (hBw : B ≤ w.heap.size) (h1 : ∀ v ∈ bs, v.oneCell' = true) (hlim : bs.length + s.size ≤ 140737488355328) :
    Calls Tryz.prog 40 #[.pointer (some ⟨b, 0, none⟩), .string s] w fun e w' => e = .returned (.tuple #[.int .i64 s.size, .nilIface]) ∧ Lib.IsBuffer 83 5 B b (bs ++ Lib.byteCells s.data.toList) w' ∧ Below B w w' ∧ Lib.OthersKept 5 (some b) w w' := Any.Buffer_WriteString_k laysM178 B b bs s w h hBw h1 hlim
end Go.Proofs.YtphglnenafdkaaaGreatDoor

