/- Texts of the proof, joined: SSort, SRAt, SDump, SHeldE. -/
import Derived.Test.YtphglnenafdkaaaGreatDoorT04
import Derived.Test.YtphglnenafdkaaaGreatDoorT05
import Derived.Shelf.SlSortCmp.NoneTotal
import Derived.Deep.RegionHeld3
import Derived.Test.YtphglnenafdkaaaGreatDoorRows
namespace Go.Proofs.YtphglnenafdkaaaGreatDoor
open Go.RowKit Go.Sort Go.Shelf Go.Lib
set_option linter.unusedVariables false
set_option linter.unusedSimpArgs false

instance : Inhabited Vl := ⟨vl0⟩
def encI (x : Kv) : List Value := [.string x.1, .int .i64 x.2.k, .int .i64 x.2.n, .string x.2.s]
theorem encI_len (x : Kv) : (encI x).length = 4 := rfl
theorem encI_one (x : Kv) : ∀ v ∈ encI x, v.oneCell' = true := by
  intro v hv
  simp only [encI, List.mem_cons, List.not_mem_nil, or_false] at hv
  rcases hv with rfl | rfl | rfl | rfl <;> rfl
theorem kvCells_snoc (L : List Kv) (x : Kv) : kvCells (L ++ [x]) = kvCells L ++ encI x := by unfold kvCells; simp [encI]
theorem kvCells_one (L : List Kv) : ∀ v ∈ kvCells L, v.oneCell' = true := by
  intro v hv
  obtain ⟨x, _, hx⟩ := List.mem_flatMap.1 hv
  exact encI_one x v hx
theorem flat_get {L : List Kv} {t : Nat} (ht : t < L.length * 4) : (kvCells L)[t]? = some ((flatK encI 4 L.toArray)[t]!) := by
  rw [get_flatK encI 4 L.toArray t (by simpa using ht)]
  have hi : t / 4 < L.length := by omega
  have hx : L.toArray[t / 4]! = L[t / 4] := by simp [hi]
  rw [hx]
  obtain ⟨h1, h2, h3, h4⟩ := kvCells_at (L := L) (i := t / 4) (x := L[t / 4]) (by simp [hi])
  have hr : t % 4 < 4 := Nat.mod_lt _ (by decide)
  have ht4 : t = t / 4 * 4 + t % 4 := by omega
  generalize L[t / 4] = x at *
  have hc : t % 4 = 0 ∨ t % 4 = 1 ∨ t % 4 = 2 ∨ t % 4 = 3 := by omega
  rcases hc with e | e | e | e <;> rw [e] at ht4 ⊢
  · rw [ht4]; simpa [encI] using h1
  · rw [ht4]; simpa [encI] using h2
  · rw [ht4]; simpa [encI] using h3
  · rw [ht4]; simpa [encI] using h4
theorem holds_kv {w : World} {g cap : Nat} {cur : Array Value} {e : TypeId} {L : List Kv} (hb : w.heap[g]? = some (.cells cur e (0, 0))) (ht : cur.toList.take (L.length * 4) = kvCells L) : HoldsK encI 4 w g 0 L.toArray := by
  intro j hj
  have hj' : j < L.length * 4 := by simpa using hj
  have h1 := flat_get hj'
  rw [← ht, List.getElem?_take_of_lt hj', Array.getElem?_toList] at h1
  refine ⟨?_, by simp [World.frozen?, hb]⟩
  simp only [World.cell?, hb, Nat.zero_add, Option.isSome_none, Bool.false_eq_true, if_false, id]
  exact h1
theorem heap_sortedK {w : World} {g n : Nat} {os : Array Obj} {cur : Array Value} {e : TypeId} {fr : Nat × Nat} (d : Array Kv) (hb : w.heap[g]? = some (.cells cur e fr)) :
    (sortWorldK encI 4 w g 0 n d os).heap[g]? = some (.cells (putCells id 0 (flatK encI 4 d) cur) e fr) := by
  have hg : g < w.heap.size := (Array.getElem?_eq_some_iff.1 hb).1
  unfold sortWorldK putRowK
  rw [heap_grow_old _ _ (by simpa using hg)]
  simp [putRow, mapBlock, Sort.ahead, Array.getElem?_modify, hb, onCells]
theorem grownBy_sortedK {w : World} {g n : Nat} {os : Array Obj} (d : Array Kv) : w.grownBy (sortWorldK encI 4 w g 0 n d os) (some g) := by
  unfold sortWorldK putRowK
  refine ⟨rfl, rfl, rfl, by simp, fun k hk hne => ?_⟩
  rw [heap_grow_old _ _ (by simpa using hk)]
  have : g ≠ k := fun e => hne (by rw [e])
  simp [putRow, mapBlock, Sort.ahead, Array.getElem?_modify, this]
theorem ownsRow_sortedK {w : World} {base g cap n : Nat} {e : TypeId} {os : Array Obj} {cur : Array Value} {ss ts : List Kv} (hl : ts.length = ss.length) (hbase : base ≤ g) (hb : w.heap[g]? = some (.cells cur e (0, 0)))
    (h1 : ss.length ≤ cap) (h2 : cap ≤ maxLen) (h3 : cur.size = cap * 4) :
    (sortWorldK encI 4 w g 0 n ts.toArray os).ownsRow base e 4 (.slice (some ⟨g, 0, none⟩) ss.length cap) ss.length (kvCells ts) := by
  refine ⟨by rw [kvCells_len, hl], .inr ⟨g, cap, _, rfl, hbase, heap_sortedK _ hb, h1, h2, by simp [putCells, h3], ?_⟩⟩
  apply List.ext_getElem?
  intro j
  by_cases hj : j < ts.length * 4
  · rw [List.getElem?_take_of_lt (by omega), Array.getElem?_toList, flat_get hj]
    simp [putCells, hj, show j < cur.size by omega]
  · rw [List.getElem?_take_eq_none (by omega), List.getElem?_eq_none (by rw [kvCells_len]; omega)]
/-! the order -/
def cfK (x y : Kv) : Int := Lib.compareBytes x.1.data.toList y.1.data.toList
theorem ltOf_kv (x y : Kv) : ltOf cfK x y = ltB x.1 y.1 := by
  have h := ltB_iff x.1 y.1
  rw [ByteArray.toList_eq, ByteArray.toList_eq] at h
  have hr := ord_bytes.rng x.1.data.toList y.1.data.toList
  unfold ltOf cfK
  rw [Bool.eq_iff_iff, decide_eq_true_eq, h]
  omega
theorem swo_kv : SWO (ltOf cfK) where
  irrefl x := by rw [ltOf_kv]; exact ltB_irrefl _
  trans x y z h1 h2 := by rw [ltOf_kv] at *; exact ltB_trans h1 h2
  ntrans x y z h1 h2 := by
    rw [ltOf_kv] at *
    cases h : ltB x.1 z.1 with
    | false => rfl
    | true =>
      cases h3 : ltB y.1 x.1 with
      | true => rw [ltB_trans h3 h] at h2; cases h2
      | false => rw [ltB_tri h1 h3] at h; rw [h] at h2; cases h2
theorem sorted_kv {out M : List Kv} {d' : Array Kv} (hM : Asc M) (hp : out.Perm M) (h1 : PermIn 0 out.toArray.size out.toArray d') (h2 : SortedIn (ltOf cfK) 0 out.toArray.size d') : d'.toList = M := by
  obtain ⟨hsz, _, hpe⟩ := h1
  have hsz' : d'.size = out.length := by simpa using hsz
  have e1 : (d'.extract 0 out.toArray.size).toList = d'.toList := by
    rw [show out.toArray.size = d'.size by rw [hsz]]; simp
  have e2 : (out.toArray.extract 0 out.toArray.size).toList = out := by simp
  rw [e1, e2] at hpe
  have hpm := hpe.trans hp
  refine asc_eq ?_ hM hpm
  unfold Asc
  rw [List.pairwise_iff_getElem]
  intro i j hi hj hij
  have hs := h2 i j (Nat.zero_le _) hij (by simp at hj ⊢; omega)
  rw [ltOf_kv] at hs
  have gi : d'[i]! = d'.toList[i] := by simp at hi; simp [hi]
  have gj : d'[j]! = d'.toList[j] := by simp at hj; simp [hj]
  rw [gi, gj] at hs
  cases h : ltB (d'.toList[i]).1 (d'.toList[j]).1 with
  | true => rfl
  | false =>
    have e := ltB_tri h hs
    have hn : (d'.toList.map (·.1)).Nodup := (hpm.map _).nodup_iff.2 (asc_nodup hM)
    rw [List.nodup_iff_pairwise_ne, List.pairwise_map, List.pairwise_iff_getElem] at hn
    exact absurd e (hn i j hi hj hij)
/-! what has come -/
def vlV (v : Vl) : Value := .agg #[.int .i64 v.k, .int .i64 v.n, .string v.s]
theorem vlV_inj {u v : Vl} (h : vlV u = vlV v) : u = v := by
  unfold vlV at h
  obtain ⟨a, b, c⟩ := u
  obtain ⟨a', b', c'⟩ := v
  injection h with h
  simp at h
  obtain ⟨h1, h2, h3⟩ := h
  subst h1; subst h2; subst h3; rfl
def encP (x : Kv) : Value × Value := (.string x.1, vlV x.2)
theorem dv_some {L : List Kv} {k : ByteArray} {u : Value} (ha : Asc L) (h : Dv L k = some u) : (k, valK k L) ∈ dumpL L ∧ u = vlV (valK k L) := by
  unfold Dv at h
  by_cases h0 : (valK k L).k = 0
  · rw [if_pos h0] at h; cases h
  · rw [if_neg h0] at h
    injection h with h
    have hk : hasK k L = true := by
      cases hh : hasK k L with
      | true => rfl
      | false => exact absurd (by rw [valK_none hh]; rfl) h0
    obtain ⟨x, hx, hxk⟩ := hasK_mem.1 hk
    have := valK_mem ha hx
    rw [hxk] at this
    refine ⟨List.mem_filter.2 ⟨?_, by simp [h0]⟩, h.symm⟩
    rw [this, ← hxk]; exact hx
theorem dump_mem {L : List Kv} (ha : Asc L) {x : Kv} (h : x ∈ dumpL L) : Dv L x.1 = some (vlV x.2) := by
  obtain ⟨h1, h2⟩ := List.mem_filter.1 h
  have := valK_mem ha h1
  simp at h2
  unfold Dv
  rw [this, if_neg h2]; rfl
theorem nodup_of_map {α β : Type} (f : α → β) {l : List α} (h : (l.map f).Nodup) : l.Nodup := by
  rw [List.nodup_iff_pairwise_ne, List.pairwise_map] at h
  rw [List.nodup_iff_pairwise_ne]
  exact h.imp fun h e => h (by rw [e])
theorem nodup_map {α β : Type} {f : α → β} (hf : ∀ a b, f a = f b → a = b) {l : List α} (h : l.Nodup) : (l.map f).Nodup := by
  rw [List.nodup_iff_pairwise_ne] at h
  rw [List.nodup_iff_pairwise_ne, List.pairwise_map]
  exact h.imp fun h e => h (hf _ _ e)
theorem kvp_inj : ∀ a b : Kv, ((a.1, vlV a.2) : ByteArray × Value) = (b.1, vlV b.2) → a = b := fun a b e => by
  obtain ⟨a1, a2⟩ := a; obtain ⟨b1, b2⟩ := b
  injection e with e1 e2
  simp only at e1 e2
  rw [e1, vlV_inj e2]
theorem map_perm {w : World} {b : Nat} {L : List Kv} {l : List (ByteArray × Value)} (ha : Asc L) (h : MapIs strE w b l) (hd : ∀ x, getK x l = Dv L x) : l.Perm ((dumpL L).map fun x => (x.1, vlV x.2)) := (List.perm_ext_iff_of_nodup (nodup_of_map _ h.nodup) (nodup_map kvp_inj (nodup_of_map _ (asc_nodup (dump_asc ha))))).2 fun p => by
  obtain ⟨y, u⟩ := p
  rw [← getK_mem h.nodup, hd]
  constructor
  · intro hy
    obtain ⟨h4, h5⟩ := dv_some ha hy
    exact List.mem_map.2 ⟨_, h4, by rw [h5]⟩
  · intro hy
    obtain ⟨x, hx, e⟩ := List.mem_map.1 hy
    injection e with e1 e2
    rw [← e1, ← e2]; exact dump_mem ha hx
theorem map_len {w : World} {b : Nat} {L : List Kv} {l : List (ByteArray × Value)} (ha : Asc L) (h : MapIs strE w b l) (hd : ∀ x, getK x l = Dv L x) : l.length = (dumpL L).length := by
  rw [(map_perm ha h hd).length_eq, List.length_map]
/-- what came of the values' map is what dump tells, in some order -/
theorem done_dump {w : World} {b : Nat} {L : List Kv} {l : List (ByteArray × Value)} {es : Array MapEntry} {out : List Kv} (ha : Asc L) (h : MapIs strE w b l) (hd : ∀ x, getK x l = Dv L x) (hpr : pairs es.toList = encs strE l) (ho : (pairs es.toList).Perm (out.map encP)) : out.Perm (dumpL L) := by
  have e1 : out.map encP = encs strE (out.map fun x => (x.1, vlV x.2)) := by unfold encs; rw [List.map_map]; rfl
  rw [hpr, e1] at ho
  have h4 := (encs_inj w ho).symm.trans (map_perm ha h hd)
  exact encs_inj.perm_of_map (f := fun x : Kv => (x.1, vlV x.2)) (fun a b e => kvp_inj a b e) h4
theorem done_le {κ : Type} [DecidableEq κ] {P : Program} {k : TypeId} {E : KeyEnc P k κ} {es : Array MapEntry} {seen : Array Nat} {l : List (κ × Value)} (hpr : pairs es.toList = encs E l) : (doneOf es seen).length ≤ l.length := by
  have h1 : (pairs es.toList).length = l.length := by rw [hpr]; simp [encs]
  have h2 : (doneOf es seen).length ≤ (pairs es.toList).length := by unfold doneOf pairs; simp only [List.length_map]; exact List.length_filter_le _ _
  omega
/-! how many there are -/
theorem len_parts {α : Type} (f : α → Nat) (r : Nat) : ∀ (n : Nat) (l : List α), (∀ x ∈ l, f x < n) → (∀ p, p < n → l.countP (fun x => decide (f x = p)) ≤ r) → l.length ≤ n * r := by
  intro n
  induction n with
  | zero =>
    intro l h _
    cases l with
    | nil => simp
    | cons x l => have := h x (List.mem_cons_self ..); omega
  | succ n ih =>
    intro l h hc
    have h1 := ih (l.filter fun x => !decide (f x = n)) (fun x hx => by
      have h2 := List.mem_filter.1 hx
      have := h x h2.1
      simp at h2
      omega) fun p hp => by
        refine Nat.le_trans ?_ (hc p (by omega))
        exact (List.filter_sublist).countP_le
    have h2 := hc n (by omega)
    have h3 : l.length = (l.filter fun x => decide (f x = n)).length + (l.filter fun x => !decide (f x = n)).length := by
      rw [← List.countP_eq_length_filter, ← List.countP_eq_length_filter]
      have := List.length_eq_countP_add_countP (l := l) (fun x => decide (f x = n))
      rw [this]
      congr 1
      exact List.countP_congr fun x _ => by simp
    rw [← List.countP_eq_length_filter] at h3
    rw [Nat.succ_mul]
    omega
theorem St.Ok.len {s : St} (h : s.Ok) : s.L.length ≤ 262144 := by
  have := len_parts (fun x : Kv => partK s.parts x.1) s.room s.parts s.L (fun x _ => partK_lt _ (by have := h.parts; omega)) fun p hp => h.cnt p hp
  have h1 := h.parts.2
  have h2 := h.room.2
  have : s.parts * s.room ≤ 64 * 4096 := Nat.mul_le_mul h1 h2
  omega
theorem St.Ok.dlen {s : St} (h : s.Ok) : (dumpL s.L).length ≤ 262144 := Nat.le_trans (List.length_filter_le _ _) h.len
end Go.Proofs.YtphglnenafdkaaaGreatDoor

namespace Go.Proofs.YtphglnenafdkaaaGreatDoor
open Go.RowKit
set_option linter.unusedVariables false
set_option linter.unusedSimpArgs false

theorem has_pos {L : List Kv} {k : ByteArray} (ha : Asc L) (h : posK k L < L.length) : hasK k L = decide ((L[posK k L]).1 = k) := by
  cases hh : hasK k L with
  | true =>
    obtain ⟨x, h1, h2, _⟩ := pos_get ha hh
    rw [List.getElem?_eq_getElem h] at h1
    injection h1 with h1
    rw [h1, h2]; simp
  | false =>
    symm
    apply decide_eq_false
    intro e
    have : hasK k L = true := hasK_mem.2 ⟨_, List.getElem_mem h, e⟩
    rw [hh] at this; cases this
theorem has_end {L : List Kv} {k : ByteArray} (ha : Asc L) (h : ¬ posK k L < L.length) : hasK k L = false := by
  cases hh : hasK k L with
  | false => rfl
  | true =>
    obtain ⟨x, h1, _⟩ := pos_get ha hh
    exact absurd (List.getElem?_eq_some_iff.1 h1).1 h
theorem rnew_bad (p r : Int) (w : World) (h : goodPR p r = false) : Calls Tryz.prog 15 #[.int .i64 p, .int .i64 r] w fun e w' => e = .returned (.tuple #[.pointer none, .int .i64 2]) ∧ w' = w := by
  have hc : p < 1 ∨ (1 ≤ p ∧ 64 < p) ∨ (1 ≤ p ∧ p ≤ 64 ∧ r < 1) ∨ (1 ≤ p ∧ p ≤ 64 ∧ 1 ≤ r ∧ 4096 < r) := by
    unfold goodPR at h
    simp at h
    omega
  clear h
  rcases hc with h | ⟨h1, h⟩ | ⟨h1, h2, h⟩ | ⟨h1, h2, h3, h⟩
  · have t1 : decide (p < 1) = true := decide_eq_true h
    clear h
    go_enter Tryz.func15, Tryz.ntmps15
    go_wp2_with fail
    go_ret2
    exact ⟨rfl, rfl⟩
  · have t1 : decide (p < 1) = false := decide_eq_false (by omega)
    have t2 : decide (64 < p) = true := decide_eq_true h
    clear h h1
    go_enter Tryz.func15, Tryz.ntmps15
    go_wp2_with fail
    go_ret2
    exact ⟨rfl, rfl⟩
  · have t1 : decide (p < 1) = false := decide_eq_false (by omega)
    have t2 : decide (64 < p) = false := decide_eq_false (by omega)
    have t3 : decide (r < 1) = true := decide_eq_true h
    clear h h1 h2
    go_enter Tryz.func15, Tryz.ntmps15
    go_wp2_with fail
    go_ret2
    exact ⟨rfl, rfl⟩
  · have t1 : decide (p < 1) = false := decide_eq_false (by omega)
    have t2 : decide (64 < p) = false := decide_eq_false (by omega)
    have t3 : decide (r < 1) = false := decide_eq_false (by omega)
    have t4 : decide (4096 < r) = true := decide_eq_true h
    clear h h1 h2 h3
    go_enter Tryz.func15, Tryz.ntmps15
    go_wp2_with fail
    go_ret2
    exact ⟨rfl, rfl⟩
theorem rnew_ok (p r : Nat) (w : World) (hp : 1 ≤ p ∧ p ≤ 64) (hr : 1 ≤ r ∧ r ≤ 4096) : Calls Tryz.prog 15 #[.int .i64 p, .int .i64 r] w fun e w' => ∃ S g, e = .returned (.tuple #[.pointer (some ⟨g, 0, none⟩), .int .i64 0]) ∧ RAt S w' g ⟨p, r, []⟩ ∧ (∀ j, S j → w.heap.size ≤ j) ∧ Below w.heap.size w w' := by
  have t1 : decide ((p : Int) < 1) = false := decide_eq_false (by omega)
  have t2 : decide (64 < (p : Int)) = false := decide_eq_false (by omega)
  have t3 : decide ((r : Int) < 1) = false := decide_eq_false (by omega)
  have t4 : decide (4096 < (r : Int)) = false := decide_eq_false (by omega)
  have t2n : decide (64 < p) = false := decide_eq_false (by omega)
  have t4n : decide (4096 < r) = false := decide_eq_false (by omega)
  have hfin : Hid (RAt (fun j => j = w.heap.size) (w.alloc (.cells #[.int .i64 p, .int .i64 r, .slice none 0 0] 94)) w.heap.size ⟨p, r, []⟩) := hid ⟨none, 0, Blk.new w _ _, Rd.nil_, .inl ⟨rfl, rfl, rfl⟩, rfl, fun j hj => by subst hj; simp, st_ok hp hr⟩
  clear hp hr
  go_enter Tryz.func15, Tryz.ntmps15
  go_wp2_with fail
  go_ret2
  exact ⟨_, _, rfl, hfin.out, fun j hj => by omega, (Below.refl _ _).alloc (Nat.le_refl _) _⟩
section
variable {S : Nat → Prop} {w w' : World} {r : Nat} {s : St}
set_option maxRecDepth 100000 in
set_option maxHeartbeats 4000000 in
theorem at_any (k : ByteArray) (h : RAt S w r s) : Calls Tryz.prog 48 #[.pointer (some ⟨r, 0, none⟩), .string k] w fun e w' => e = .returned (.tuple #[.int .i64 (posK k s.L : Nat), .bool (hasK k s.L)]) ∧ Below w.heap.size w w' := by
  obtain ⟨A, c, h⟩ := h
  have HH := hid h
  have hlen := h.ok.len
  have hN : (s.L.length : Int) ≤ 262144 := by omega
  have c2 := h.cells.2.2
  clear h hlen
  go_enter Tryz.func48, Tryz.ntmps48
  go_wp2_with fail
  go_quiet (fail)
  go_wp2_with fail
  go_loopw [6, 7] (fun u v wr => ∃ lo hi : Nat, u = .int .i64 lo ∧ v = .int .i64 hi ∧ lo ≤ posK k s.L ∧ posK k s.L ≤ hi ∧ hi ≤ s.L.length ∧ Below w.heap.size w wr) (fun u v _ => (intOf v).toNat - (intOf u).toNat)
  case atStart => exact ⟨0, _, rfl, rfl, Nat.zero_le _, posK_le, Nat.le_refl _, below_drewN (Below.refl _ _) _⟩
  case round =>
    clear c2
    obtain ⟨lo, hi, rfl, rfl, h1, h2, h3, hB0⟩ := hrel
    have hB := hid hB0
    clear hB0
    have hP := HH.out.below hB.out
    have c2 : wr.cell? ⟨r, 2, none⟩ = some (.slice A s.L.length c) := hP.cells.2.2
    by_cases hlt : lo < hi
    · have i1 : (lo : Int) < (hi : Int) := by omega
      obtain ⟨m, hm⟩ : ∃ m, m = (lo + hi) / 2 := ⟨_, rfl⟩
      have x1 : IntKind.i64.wrap ((lo : Int) + (hi : Int)) = (lo : Int) + (hi : Int) := by rw [IntKind.wrap_i64]; omega
      have x2 : ((lo : Int) + (hi : Int)) / 2 = (m : Int) := by omega
      have x3 : ((lo : Int) + (hi : Int)).tdiv 2 = (m : Int) := by rw [Int.tdiv_eq_ediv_of_nonneg (by omega)]; omega
      have x4 : IntKind.i64.wrap (m : Int) = (m : Int) := by rw [IntKind.wrap_i64]; omega
      have hml : m < s.L.length := by omega
      have i2 : (m : Int) < (s.L.length : Int) := by omega
      obtain ⟨b, o, rfl, _, _, d0, -⟩ := rd_kv hP.rd hml
      have hpl := pos_lt (k := k) HH.out.ok.asc m _ (List.getElem?_eq_getElem hml)
      have hb := hid (show lo ≤ m ∧ m < hi by omega)
      have hh := hid (show lo ≤ posK k s.L ∧ posK k s.L ≤ hi ∧ hi ≤ s.L.length from ⟨h1, h2, h3⟩)
      have x5 : IntKind.i64.wrap ((m : Int) + 1) = (m : Int) + 1 := by rw [IntKind.wrap_i64]; omega
      obtain ⟨x, hx⟩ : ∃ x, x = (s.L[m]).1 := ⟨_, rfl⟩
      rw [← hx] at d0 hpl
      clear hx
      cases hl0 : ltB x k with
      | true =>
        have hl : Op.bytesLess x.toList k.toList = true := hl0
        have hp2 := hid (hpl.1 hl0)
        clear hP hm hml hpl hl0 h1 h2 h3 hlt
        go_wp2_with fail
        go_roundw
        case rel => exact ⟨m + 1, hi, by go_num, rfl, hp2.out, hh.out.2.1, hh.out.2.2, hB.out⟩
        case measure => have := hb.out; simp [intOf]; omega
      | false =>
        have hl : Op.bytesLess x.toList k.toList = false := hl0
        have hp2 : Hid (posK k s.L ≤ m) := hid (by
          have : ¬ m < posK k s.L := fun e => by rw [hpl.2 e] at hl0; cases hl0
          omega)
        clear hP hm hml hpl hl0 h1 h2 h3 hlt
        go_wp2_with fail
        go_roundw
        case rel => exact ⟨lo, m, rfl, rfl, hh.out.1, hp2.out, by have := hb.out; have := hh.out; omega, hB.out⟩
        case measure => have := hb.out; simp [intOf]; omega
    · obtain rfl : hi = lo := by omega
      have hpe0 : posK k s.L = hi := by omega
      have hpe := hid hpe0
      by_cases hpl : hi < s.L.length
      · obtain ⟨b, o, rfl, _, _, d0, -⟩ := rd_kv hP.rd hpl
        have hh0 := has_pos (k := k) HH.out.ok.asc (by rw [hpe0]; exact hpl)
        simp only [hpe0] at hh0
        have i2 : (hi : Int) < (s.L.length : Int) := by omega
        have hbd : ((s.L[hi]).1.toList == k.toList) = decide ((s.L[hi]).1 = k) := bytes_dec _ _
        rw [← hh0] at hbd
        obtain ⟨x, hx⟩ : ∃ x, x = (s.L[hi]).1 := ⟨_, rfl⟩
        rw [← hx] at d0 hbd
        obtain ⟨v, hv⟩ : ∃ v, v = hasK k s.L := ⟨_, rfl⟩
        rw [← hv] at hbd
        have hvv := hid hv
        clear hP h1 h2 h3 hlt hpl hh0 hx hpe0 hv
        go_wp2_with fail
        go_quiet (fail)
        go_wp2_with fail
        go_ret2
        exact ⟨by rw [hpe.out, ← hvv.out]; rfl, below_drewN hB.out _⟩
      · have hh := hid (has_end (k := k) HH.out.ok.asc (by rw [hpe0]; exact hpl))
        obtain rfl : hi = s.L.length := by omega
        clear hP h1 h2 h3 hlt hpl hpe0
        go_wp2_with fail
        go_quiet (fail)
        go_wp2_with fail
        go_ret2
        exact ⟨by rw [hpe.out, hh.out]; rfl, below_drewN hB.out _⟩
theorem rclaimed_any (k : ByteArray) (h : RAt S w r s) : Calls Tryz.prog 25 #[.pointer (some ⟨r, 0, none⟩), .string k] w fun e w' => e = .returned (.bool (hasK k s.L)) ∧ Below w.heap.size w w' := by
  have ha := hid (at_any k h)
  clear h
  go_enter Tryz.func25, Tryz.ntmps25
  go_wp2_with fail
  refine ha.out.mono ?_
  rintro e w2 ⟨rfl, hb0⟩
  have hb := hid hb0
  clear hb0
  go_wp2_with fail
  go_ret
  exact ⟨rfl, hb.out⟩
end
end Go.Proofs.YtphglnenafdkaaaGreatDoor

namespace Go.Proofs.YtphglnenafdkaaaGreatDoor
open Go.RowKit Go.Sort Go.Shelf Go.Lib
set_option linter.unusedVariables false
set_option linter.unusedSimpArgs false

theorem info_item : (Tryz.prog.info? 70).map (fun i => (i.zero, i.size, i.bytes)) = some (some (.agg #[.string ⟨#[]⟩, .int .i64 0, .int .i64 0, .string ⟨#[]⟩]), 4, 48) := by kernel_rfl
theorem cmp_any (x y : Kv) (W : World) : Calls Tryz.prog 76 #[.agg (encI x).toArray, .agg (encI y).toArray] W fun e w' => e = .returned (.int .i64 (cfK x y)) ∧ ∃ q os', w' = grow (W.drewN q) os' := by
  have hc := fun W => strings_Compare x.1 y.1 W
  have hr : Hid (cfK x y = Lib.compareBytes x.1.data.toList y.1.data.toList) := hid rfl
  generalize Lib.compareBytes x.1.data.toList y.1.data.toList = r at hc hr
  obtain ⟨k, v⟩ := x
  obtain ⟨j, u⟩ := y
  simp only [encI] at hc ⊢
  go_enter Tryz.func76, Tryz.ntmps76
  go_wp2_with (go_at_call 77; refine (hc _).mono ?_; rintro e w' ⟨rfl, rfl⟩)
  go_ret
  exact ⟨by rw [hr.out]; rfl, 0, _, by rw [alloc_eq_grow, alloc_eq_grow, grow_grow]; rfl⟩
theorem sort_any {base : Nat} {A : Option Addr} {c : Nat} (out M : List Kv) (w : World) (ha : Asc M) (hp : out.Perm M) (hn : out.length ≤ 262144) (hown : w.ownsRow base 70 4 (.slice A out.length c) out.length (kvCells out)) :
    Calls Tryz.prog 75 #[.slice A out.length c, .func (.func 76) #[] #[]] w fun e w' => e = .returned (.tuple #[]) ∧ w'.ownsRow base 70 4 (.slice A out.length c) out.length (kvCells M) ∧ w.grownBy w' (Value.slice A out.length c).ownBlock := by
  rcases hown.2 with ⟨hnil, h0⟩ | ⟨g, cap, cur, hv, hbase, hb, h1, h2, h3, h4⟩
  · have hcon := AnyF.slices_SortFunc_none laysSort A c (.func (.func 76) #[] #[]) w
    change Calls Tryz.prog 75 _ _ _ at hcon
    rw [h0] at hown ⊢
    refine hcon.mono ?_
    rintro e w' ⟨rfl, rfl⟩
    obtain rfl := List.eq_nil_of_length_eq_zero h0
    obtain rfl : M = [] := by
      have := hp.length_eq
      exact List.eq_nil_of_length_eq_zero this.symm
    exact ⟨rfl, hown, World.grownBy.refl _ _⟩
  · injection hv with hA hn2 hc
    subst hA
    have eg : ∀ args w, (callFunc 76 args).run Tryz.prog w = .ok (.enter 76 args) w := enters_of Tryz.func76 (by kernel_rfl) rfl
    have hlt : g < w.heap.size := (Array.getElem?_eq_some_iff.1 hb).1
    have hcon := AnyQ.slices_SortFunc laysSort 4 Tryz.isAgg70 Tryz.sizeOf70 encI encI_len encI_one cfK swo_kv 76 #[] g 0 c out.toArray w eg (fun m os dk hs x y => by simpa using cmp_any x y _) (holds_kv (cap := cap) hb h4) hlt (by simp; omega)
    change Calls Tryz.prog 75 _ _ _ at hcon
    have e1 : out.toArray.size = out.length := by simp
    rw [e1] at hcon
    refine hcon.mono ?_
    rintro e w' ⟨rfl, d', n, os, hpm, hso, rfl⟩
    have hM := sorted_kv ha hp (by rw [e1]; exact hpm) (by rw [e1]; exact hso)
    have hd' : d' = M.toArray := by rw [← hM]
    subst hd'
    refine ⟨rfl, ?_, grownBy_sortedK _⟩
    have := ownsRow_sortedK (n := n) (os := os) (ss := out) (ts := M) hp.length_eq.symm hbase hb h1 h2 h3
    rw [hc]
    exact this
section
variable {s : St} {w : World} {vb : Nat}
set_option maxRecDepth 100000 in
set_option maxHeartbeats 4000000 in
theorem dump_any (h : MapF strE w vb (Dv s.L)) (hok : s.Ok) : Calls Tryz.prog 55 #[.map (some vb)] w fun e w' => ∃ A c, e = .returned (.slice A (dumpL s.L).length c) ∧ w'.ownsRow (w.heap.size + 1) 70 4 (.slice A (dumpL s.L).length c) (dumpL s.L).length (kvCells (dumpL s.L)) ∧ Below w.heap.size w w' := by
  obtain ⟨l, hml, hd⟩ := h
  have hvl := hml.lt
  have hll : l.length ≤ 262144 := by rw [map_len hok.asc hml hd]; exact hok.dlen
  obtain ⟨es, clock, hes, hpr, hst⟩ := id hml
  have hrg := run_range_map (P := Tryz.prog) w 74 9 38 vb es clock Tryz.underlying74 hes
  obtain ⟨i0, hi0, hz0, hz1, hz2⟩ := info_parts info_item
  have hM := hid hml
  have hD := hid hd
  have hP := hid hpr
  have hK := hid hok
  have hS := hid hst
  have hE := hid hes
  have hV := hid hvl
  have hL := hid hll
  clear hml hd hpr hok hst hes hvl hll
  go_enter Tryz.func55, Tryz.ntmps55
  go_wp2_with fail
  go_loopw [3] (fun v wr => ∃ (seen : Array Nat) (c0 : Nat) (out : List Kv) (A : Option Addr) (c : Nat), v = .slice A out.length c ∧ wr.heap[w.heap.size]? = some (.mapIter (some vb) clock seen c0) ∧ clock ≤ c0 ∧ wr.ownsRow (w.heap.size + 1) 70 4 (.slice A out.length c) out.length (kvCells out) ∧ Below w.heap.size w wr ∧ (doneOf es seen).Perm (out.map encP)) (fun _ wr => (leftOf es (wr.iterSeen w.heap.size)).size)
  case atStart => exact ⟨#[], clock, [], none, 0, rfl, heap_alloc_new _ _, Nat.le_refl _, World.ownsRow_nil _ _ _ _, (Below.refl _ _).alloc (Nat.le_refl _) _, by rw [done_none]; exact List.Perm.nil⟩
  case round =>
    clear hrg
    obtain ⟨seen, c0, out, A, c, rfl, hr, hc0, hown, hB0, hdone⟩ := hrel
    have hesr := (hB0.block _ hV.out).trans hE.out
    have hseen0 := hid (seen_of hr)
    have hol : out.length ≤ 262144 := by
      have h1 := hdone.length_eq
      have h2 := done_le (E := strE) (seen := seen) hP.out
      have := hL.out
      simp at h1
      omega
    rcases range_step (P := Tryz.prog) hr hesr hS.out hc0 with ⟨h0, hnx⟩ | ⟨e, wn, he, hns, hsh, hun, hszn, hrn, hesn, hnx, hent⟩
    · have hperm : out.Perm (dumpL s.L) := done_dump hK.out.asc hM.out hD.out hP.out (by rw [← done_all h0]; exact hdone)
      have hso := hid (sort_any (c := c) out (dumpL s.L) wr (dump_asc hK.out.asc) hperm hol hown)
      have hlen := hid hperm.length_eq
      have hB := hid hB0
      have hO := hid hown
      clear hperm h0 hr hesr hown hB0 hdone hol
      go_wp2_with fail
      refine hso.out.mono ?_
      rintro e w3 ⟨rfl, hown3, hg3⟩
      have hfin : Hid (w3.ownsRow (w.heap.size + 1) 70 4 (.slice A out.length c) out.length (kvCells (dumpL s.L)) ∧ Below w.heap.size w w3) := hid ⟨hown3, hB.out.grown hg3 hB.out.size fun k hk => by have := (hO.out.lt k hk).1; omega⟩
      clear hown3 hg3
      go_wp2_with fail
      go_ret
      rw [hlen.out] at hfin ⊢
      exact ⟨A, c, rfl, hfin.out.1, hfin.out.2⟩
    · obtain ⟨p, hp, hek, hev⟩ := done_list (E := strE) (w := w) (b := vb) (clock := clock) hP.out he
      have hget := (getK_mem hM.out.nodup).2 (show (p.1, p.2) ∈ l from hp)
      rw [hD.out] at hget
      obtain ⟨hdm, hev2⟩ := dv_some hK.out.asc hget
      obtain ⟨y, hy⟩ : ∃ y, y = p.1 := ⟨_, rfl⟩
      obtain ⟨v, hv⟩ : ∃ v, v = valK p.1 s.L := ⟨_, rfl⟩
      rw [← hv] at hev2
      have hek : e.key = .string y := by rw [hek, hy]; rfl
      have hev : e.val = .agg #[.int .i64 v.k, .int .i64 v.n, .string v.s] := by rw [hev, hev2]; rfl
      have hpush := hid ((done_push hS.out.2.1 he hns).trans (hdone.cons _))
      rw [hek, hev] at hnx hent hpush
      have hownn : wn.ownsRow (w.heap.size + 1) 70 4 (.slice A out.length c) out.length (kvCells out) := own_updB hown hun fun k hk _ e => by omega
      have hBn : Below w.heap.size w wn := hB0.trans (hun.below (B := w.heap.size) hB0.size fun k hk e => by omega)
      have hHB := hid hBn
      have hHO := hid hownn
      have hHr := hid hrn
      have hsh' := hid hsh
      have hol' := hid hol
      clear hp hget hdm hev2 hek hev hy hv hown hB0 hdone hr hesr hun hrn hesn hBn hownn he hns hsh hol
      clear hszn
      go_wp2_with (
        at_builtin
        refine wpList_append_rd _ rfl (.tmp 13) (.tmp 17) 62 rfl (w.heap.size + 1) 70 i0 _ 4 48 Tryz.underlying62 hi0 hz0 hz1 hz2 rfl (by omega) (.slice A out.length c) out.length (kvCells out) rfl ((hHO.out.alloc _).alloc _) (fun b => b = wn.heap.size + 1) (some ⟨wn.heap.size + 1, 0, none⟩) 1 1 (encI (y, v)) rfl (Rd.new _ 70 4 1 (encI (y, v)).toArray _ (by simp) rfl) (encI_one _) (by have := hol'.out; simp only [maxLen]; omega) (by have := hol'.out; omega) (by have h1 := hHB.out.size; have := (Array.getElem?_eq_some_iff.1 hHr.out).1; simp; omega) ?_
        intro v3 w3 hown3 hg3 hat3
        obtain ⟨A3, c3, rfl, hc3, _⟩ := own_form hown3)
      have hne : (Value.slice A out.length c).ownBlock ≠ some w.heap.size := fun e => by have := (hHO.out.lt _ e).1; omega
      have hrl : w.heap.size < wn.heap.size := (Array.getElem?_eq_some_iff.1 hHr.out).1
      have hr3 : w3.heap[w.heap.size]? = some (.mapIter (some vb) clock (seen.push e.born) clock) := (hg3.block _ (by simp; omega) (Ne.symm hne)).trans ((Below.heap_alloc _ _ _ (by simp; omega)).trans ((Below.heap_alloc _ _ _ hrl).trans hHr.out))
      go_roundw
      case rel =>
        refine ⟨seen.push e.born, clock, out ++ [(y, v)], A3, c3, by simp, hr3, Nat.le_refl _, by rw [kvCells_snoc, List.length_append]; exact hown3, ?_, ?_⟩
        · exact ((hHB.out.alloc hHB.out.size _).alloc (by have := hHB.out.size; simp; omega) _).grown hg3 (by have := hHB.out.size; simp; omega) fun k hk => by have := (hHO.out.lt k hk).1; omega
        · rw [List.map_append]
          exact hpush.out.trans (List.perm_append_comm (l₁ := [encP (y, v)]) (l₂ := out.map encP))
      case measure =>
        rw [seen_of hr3, hseen0.out]
        exact hsh'.out
end
end Go.Proofs.YtphglnenafdkaaaGreatDoor

namespace Go.Proofs.YtphglnenafdkaaaGreatDoor
open Go
set_option linter.unusedVariables false

section
variable {P : Program} {ops : Array Oper} {Q : Exit → Act → World → Prop} {md : Region.Mode} {S : World → Prop}
/-- whatever order is picked, S holds behind every operation but number z -/
def wpAnyE (P : Program) (md : Region.Mode) (ops : Array Oper) (Q : Exit → Act → World → Prop) (S : World → Prop) (z : Nat) : Nat → Array Bool → Act → World → Prop
  | 0, listed, a, w => Region.ready md ops listed = [] ∧ Q .normal a w
  | fuel + 1, listed, a, w =>
    (Region.ready md ops listed = [] → Q .normal a w) ∧
    ∀ i ∈ Region.ready md ops listed, wpOp P ops Q i (fun a' w' => (i ≠ z → S w') ∧ wpAnyE P md ops Q S z fuel (listed.setIfInBounds i true) a' w') a w
theorem wpAny_of_E {z : Nat} : ∀ (fuel : Nat) (listed : Array Bool) (a : Act) (w : World), wpAnyE P md ops Q S z fuel listed a w → wpAny P md ops Q fuel listed a w
  | 0, _, _, _, h => h
  | fuel + 1, _, _, _, h => ⟨h.1, fun i hi => wpOp_mono (fun a' w' h' => wpAny_of_E fuel _ a' w' h'.2) (h.2 i hi)⟩
/-- each of C waits for i or for another of C -/
def waitB (md : Region.Mode) (ops : Array Oper) (i : Nat) (C : List Nat) : Bool := C.all fun c => match ops[c]? with | some oc => oc.after.any (fun e => Region.binds md e && (e.on == i || C.contains e.on)) | none => false
def unB (listed : Array Bool) (C : List Nat) : Bool := C.all fun c => listed.getD c true == false
theorem wait_not {i : Nat} {C : List Nat} {listed : Array Bool} (hw : waitB md ops i C = true) (hu : unB listed C = true) (hi : listed.getD i true = false) {c : Nat} (hc : c ∈ C) : c ∉ Region.ready md ops listed := by
  intro hr
  obtain ⟨_, oj, hoj, hall⟩ := mem_ready.1 hr
  unfold waitB at hw
  rw [List.all_eq_true] at hw
  have h1 := hw c hc
  rw [hoj] at h1
  simp only at h1
  obtain ⟨e, he, h2⟩ := Array.any_eq_true'.1 h1
  rw [Bool.and_eq_true, Bool.or_eq_true] at h2
  have h3 := hall e he h2.1
  have h0 : listed.getD e.on true = false := by
    rcases h2.2 with h4 | h4
    · rw [beq_iff_eq.1 h4]; exact hi
    · unfold unB at hu
      rw [List.all_eq_true] at hu
      have := hu e.on (by simpa using h4)
      simpa using this
  rcases Nat.lt_or_ge e.on listed.size with h' | h'
  · simp [h'] at h0 h3; rw [h0] at h3; cases h3
  · simp [Array.getElem?_eq_none h'] at h3
theorem wpAnyE_first {z i : Nat} {oi : Oper} {v : Value} {C : List Nat} (hi : ops[i]? = some oi) (hsel : ∀ (j : Nat) (o : Oper) cs b, ops[j]? = some o → o.op ≠ .select cs b)
    (hQ : ∀ c a w, Q (.panic c) (a.put oi.dst v) w → Q (.panic c) a w) (hzC : z ∈ C) (hw : waitB md ops i C = true) :
    ∀ (fuel : Nat) (listed : Array Bool) (a : Act) (w : World),
      (∀ j oj, ops[j]? = some oj → j ≠ i → listed.getD j true = false → (∀ e ∈ oj.after, Region.binds md e = true → e.on ≠ i) → oi.apart ops oj = true) →
      i ∈ Region.ready md ops listed → unB listed C = true → YieldsIf P ops S oi v a → S w →
      wpAnyE P md ops Q S z fuel (listed.setIfInBounds i true) (a.put oi.dst v) w → wpAnyE P md ops Q S z (fuel + 1) listed a w := by
  intro fuel
  induction fuel with
  | zero =>
    intro listed a w _ hr hu hy hS H
    refine ⟨fun h => (by rw [h] at hr; cases hr), fun j hj => ?_⟩
    by_cases hji : j = i
    · subst hji; exact hy.wpOp hi hS ⟨fun _ => hS, H⟩
    · have := ready_mono hj hji
      rw [H.1] at this
      cases this
  | succ fuel ih =>
    intro listed a w hfree hr hu hy hS H
    refine ⟨fun h => (by rw [h] at hr; cases hr), fun j hj => ?_⟩
    by_cases hji : j = i
    · subst hji; exact hy.wpOp hi hS ⟨fun _ => hS, H⟩
    · have h1 := H.2 j (ready_mono hj hji)
      obtain ⟨hjun, oj, hoj, hall⟩ := mem_ready.1 hj
      have hnot : ∀ e ∈ oj.after, Region.binds md e = true → e.on ≠ i := fun e he hb heq => by
        have h1 := hall e he hb
        have h0 := (mem_ready.1 hr).1
        rw [heq] at h1
        rcases Nat.lt_or_ge i listed.size with h' | h'
        · simp [h'] at h0 h1; rw [h0] at h1; cases h1
        · simp [Array.getElem?_eq_none h'] at h1
      have hjC : j ∉ C := fun hjC => wait_not hw hu (mem_ready.1 hr).1 hjC hj
      have hjz : j ≠ z := fun e => hjC (e ▸ hzC)
      have h2 := wpOp_putIf hoj (hfree j oj hoj hji hjun hnot) (fun cs b => hsel i oi cs b hi) (fun cs b => hsel j oj cs b hoj) hQ hy h1
      have hfree' : ∀ k ok, ops[k]? = some ok → k ≠ i → (listed.setIfInBounds j true).getD k true = false →
          (∀ e ∈ ok.after, Region.binds md e = true → e.on ≠ i) → oi.apart ops ok = true := fun k ok hk hki hun hno => by
        refine hfree k ok hk hki ?_ hno
        by_cases hjk : j = k
        · subst hjk; exact hjun
        · rw [getD_set_ne true hjk] at hun; exact hun
      have hu' : unB (listed.setIfInBounds j true) C = true := by
        unfold unB at hu ⊢
        rw [List.all_eq_true] at hu ⊢
        intro c hc
        rw [getD_set_ne true (show j ≠ c from fun e => hjC (by rw [e]; exact hc))]
        exact hu c hc
      refine wpOp_mono (fun a' w' h3 => ⟨fun _ => h3.2.1 hjz, ih (listed.setIfInBounds j true) a' w' hfree' (ready_mono hr (Ne.symm hji)) hu' h3.1 (h3.2.1 hjz) ?_⟩) h2
      rw [Array.setIfInBounds_comm _ _ hji]
      exact h3.2.2
/-- take number i first -/
theorem wpAnyE_take {z i : Nat} {oi : Oper} {v : Value} {fuel : Nat} {listed : Array Bool} {a : Act} {w : World} (C : List Nat) (hi : ops[i]? = some oi)
    (hs : Region.noSelect ops = true) (hf : Region.free md ops listed i = true) (hr : (Region.ready md ops listed).contains i = true) (hz : C.contains z = true) (hwt : waitB md ops i C = true) (hun : unB listed C = true)
    (hQ : ∀ c a w, Q (.panic c) (a.put oi.dst v) w → Q (.panic c) a w) (hy : YieldsIf P ops S oi v a) (hS : S w)
    (h : wpAnyE P md ops Q S z fuel (listed.setIfInBounds i true) (a.put oi.dst v) w) : wpAnyE P md ops Q S z (fuel + 1) listed a w :=
  wpAnyE_first hi (Region.noSelect_spec hs) hQ (by simpa using hz) hwt fuel listed a w (Region.free_spec hi hf) (by simpa using hr) hun hy hS h
def AllReadyE (P : Program) (md : Region.Mode) (ops : Array Oper) (Q : Exit → Act → World → Prop) (S : World → Prop) (z fuel : Nat) (listed : Array Bool) (a : Act) (w : World) (rs : List Nat) : Prop :=
  ∀ i ∈ rs, wpOp P ops Q i (fun a' w' => (i ≠ z → S w') ∧ wpAnyE P md ops Q S z fuel (listed.setIfInBounds i true) a' w') a w
theorem AllReadyE.nil {z fuel : Nat} {listed : Array Bool} {a : Act} {w : World} : AllReadyE P md ops Q S z fuel listed a w [] := fun _ h => by cases h
theorem AllReadyE.cons {z fuel : Nat} {listed : Array Bool} {a : Act} {w : World} {i : Nat} {o : Oper} {rs : List Nat} (ho : ops[i]? = some o)
    (h : ∀ K' : Act → World → Prop, Shut (∀ a w, (i ≠ z → S w) → wpAnyE P md ops Q S z fuel (listed.setIfInBounds i true) a w → K' a w) → if Region.wanted o (yielded ops a.tmps) = true then Oper.wp P o a w K' Q else K' (a.put o.dst undef) w)
    (hs : AllReadyE P md ops Q S z fuel listed a w rs) : AllReadyE P md ops Q S z fuel listed a w (i :: rs) := fun j hj => by
  rcases List.mem_cons.1 hj with rfl | hj
  · exact wpOp_step ho (fun K' hK => h K' (fun a w hS hW => hK a w ⟨hS, hW⟩))
  · exact hs j hj
theorem wpAnyE_ready {z : Nat} {rs : List Nat} {fuel : Nat} {listed : Array Bool} {a : Act} {w : World} (hr : Region.ready md ops listed = rs) (hne : rs ≠ [])
    (h : AllReadyE P md ops Q S z fuel listed a w rs) : wpAnyE P md ops Q S z (fuel + 1) listed a w := ⟨fun h0 => absurd (hr ▸ h0) hne, hr ▸ h⟩
theorem wpAnyE_done {z : Nat} {listed : Array Bool} {a : Act} {w : World} (hr : Region.ready md ops listed = []) (h : Q .normal a w) : ∀ fuel, wpAnyE P md ops Q S z fuel listed a w
  | 0 => ⟨hr, h⟩
  | _ + 1 => ⟨fun _ => h, by rw [hr]; simp⟩
theorem wp_region_heldE (z : Nat) {id : Nat} {a : Act} {w : World} (hm : P.follows .mixedOrders = true)
    (h : wpAnyE P .any ops Q S z ops.size (Array.replicate ops.size false) a w.drew) : (Code.region id ops true).wp P Q a w := wp_region_any hm (wpAny_of_E _ _ _ _ h)
end
end Go.Proofs.YtphglnenafdkaaaGreatDoor

