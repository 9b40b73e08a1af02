/- Slices of plans compared. -/
import Derived.Test.YtlnlffpkdeaimaaPlan
namespace Go.Proofs.Ytlnlffpkdeaimaa
open Go.RowKit

def pcells (rs : List RP) : List Value := rs.flatMap RP.cells
theorem pcells_len (rs : List RP) : (pcells rs).length = rs.length * 7 := by
  induction rs with
  | nil => rfl
  | cons x l ih => simp only [pcells, List.flatMap_cons, List.length_append, List.length_cons] at *; rw [ih]; simp [RP.cells]; omega
theorem pcells_cons (x : RP) (l : List RP) : pcells (x :: l) = x.cells ++ pcells l := rfl
theorem pcells_app (l m : List RP) : pcells (l ++ m) = pcells l ++ pcells m := by simp [pcells]
theorem pcells_at (rs : List RP) (k j : Nat) (h : k < rs.length) (hj : j < 7) : (pcells rs)[k * 7 + j]? = rs[k].cells[j]? := by
  induction rs generalizing k with
  | nil => simp at h
  | cons x l ih =>
    have hx : x.cells.length = 7 := rfl
    rw [pcells_cons]
    cases k with
    | zero => rw [List.getElem?_append_left (by rw [hx]; omega)]; simp
    | succ k =>
      rw [List.getElem?_append_right (by rw [hx]; omega), hx, show (k + 1) * 7 + j - 7 = k * 7 + j by omega, ih k (by simpa using h)]
      simp
theorem pcells_one (rs : List RP) : ∀ u ∈ pcells rs, u.oneCell' = true := by
  intro u hu
  obtain ⟨r, _, hr⟩ := List.mem_flatMap.1 hu
  simp only [RP.cells, List.mem_cons, List.not_mem_nil, or_false] at hr
  rcases hr with h | h | h | h | h | h | h <;> subst h <;> rfl
theorem vcells_one (l : List Val) : ∀ u ∈ vcells l, u.oneCell' = true := by
  intro u hu
  obtain ⟨r, _, hr⟩ := List.mem_flatMap.1 hu
  simp only [Val.cells, List.mem_cons, List.not_mem_nil, or_false] at hr
  rcases hr with h | h | h <;> subst h <;> rfl
theorem str_one (l : List ByteArray) : ∀ u ∈ l.map Value.string, u.oneCell' = true := by
  intro u hu
  obtain ⟨_, _, rfl⟩ := List.mem_map.1 hu
  rfl

/-- a slice of plans -/
structure PlansOk (S : Nat → Prop) (w : World) (A : Option Addr) (rs : List RP) : Prop where
  row : Rd S w 7 A rs.length (pcells rs)
  ok : ∀ r ∈ rs, r.ok S w
section
variable {S S' : Nat → Prop} {w w' : World} {A : Option Addr} {rs : List RP}
theorem PlansOk.keep (h : PlansOk S w A rs) (hk : ∀ b, S b → b < w.heap.size → w'.heap[b]? = w.heap[b]?) : PlansOk S w' A rs := ⟨h.row.keep hk, fun r hr => (h.ok r hr).keep hk⟩
theorem PlansOk.below (h : PlansOk S w A rs) (hb : Below w.heap.size w w') : PlansOk S w' A rs := h.keep fun b _ hl => hb.block b hl
theorem PlansOk.more (h : PlansOk S w A rs) (hS : ∀ b, S b → b < w.heap.size → S' b) : PlansOk S' w A rs := ⟨h.row.more hS, fun r hr => (h.ok r hr).more hS⟩
theorem PlansOk.at_ {k : Nat} (h : PlansOk S w A rs) (hk : k < rs.length) : ∃ b o, A = some ⟨b, o, none⟩ ∧ S b ∧ b < w.heap.size ∧ rs[k].ok S w ∧
    w.cell? ⟨b, o + k * 7, none⟩ = some (.int .i64 rs[k].p.cl) ∧ w.cell? ⟨b, o + k * 7 + 1, none⟩ = some (.int .u64 rs[k].p.tok) ∧ w.cell? ⟨b, o + k * 7 + 2, none⟩ = some (.string rs[k].p.nm) ∧
    w.cell? ⟨b, o + k * 7 + 3, none⟩ = some (.slice rs[k].A1 rs[k].p.args.length rs[k].c1) ∧ w.cell? ⟨b, o + k * 7 + 4, none⟩ = some (.int .i64 rs[k].p.how) ∧
    w.cell? ⟨b, o + k * 7 + 5, none⟩ = some (.slice rs[k].A2 rs[k].p.rd.length rs[k].c2) ∧ w.cell? ⟨b, o + k * 7 + 6, none⟩ = some (.slice rs[k].A3 rs[k].p.wr.length rs[k].c3) := by
  obtain ⟨b, o, e, hS, hl, hc⟩ := h.row.at_ hk
  have g := fun j (hj : j < 7) u (hu : rs[k].cells[j]? = some u) => hc (k * 7 + j) u (by rw [pcells_at rs k j hk hj]; exact hu)
  simp only [← Nat.add_assoc] at g
  exact ⟨b, o, e, hS, hl, h.ok _ (List.getElem_mem hk), g 0 (by omega) _ rfl, g 1 (by omega) _ rfl, g 2 (by omega) _ rfl, g 3 (by omega) _ rfl, g 4 (by omega) _ rfl, g 5 (by omega) _ rfl, g 6 (by omega) _ rfl⟩
end
def plans (rs : List RP) : List Pl := rs.map (·.p)

theorem eqPs_len {l m : List RP} (h : l.length ≠ m.length) : eqL (plans l) (plans m) = false := eqL_len (by simpa [plans] using h)
theorem eqPs_at {l m : List RP} {k : Nat} (h1 : k < l.length) (h2 : k < m.length) (h : ¬ eqP l[k].p m[k].p = true) : eqL (plans l) (plans m) = false := by
  refine eqL_at (k := k) (by simpa [plans] using h1) (by simpa [plans] using h2) ?_
  unfold eqP at h
  simpa [plans] using h
theorem eqPs_all {l m : List RP} (hl : l.length = m.length) (h : ∀ j (h1 : j < l.length) (h2 : j < m.length), j < l.length → l[j].p = m[j].p) : eqL (plans l) (plans m) = true :=
  eqL_all (by simpa [plans] using hl) fun j h1 h2 _ => by
    have a : j < l.length := by simpa [plans] using h1
    have b : j < m.length := by simpa [plans] using h2
    simpa [plans] using h j a b a
theorem allP_step {l m : List RP} {k : Nat} (h : ∀ j (h1 : j < l.length) (h2 : j < m.length), j < k → l[j].p = m[j].p) (h1 : k < l.length) (h2 : k < m.length) (e : eqP l[k].p m[k].p = true) :
    ∀ j (h1 : j < l.length) (h2 : j < m.length), j < k + 1 → l[j].p = m[j].p := by
  intro j a b hj
  rcases Nat.lt_or_ge j k with g | g
  · exact h j a b g
  · obtain rfl : j = k := by omega
    unfold eqP at e
    simpa using e

set_option maxHeartbeats 1000000 in
theorem equalFunc_any (S S' : Nat → Prop) (A B : Option Addr) (l m : List RP) (c d : Nat) (w : World) (ha : PlansOk S w A l) (hb : PlansOk S' w B m)
    (hl : l.length ≤ 1000000000) (hm : m.length ≤ 1000000000) (hfl : ∀ r ∈ l, r.p.fits) (hfm : ∀ r ∈ m, r.p.fits) :
    Calls Try.prog 29 #[.slice A l.length c, .slice B m.length d, .func (.func 30) #[] #[]] w
      fun e w' => e = .returned (.bool (eqL (plans l) (plans m))) ∧ Below w.heap.size w w' := by
  by_cases hlen0 : l.length = m.length
  · have hlen := hid hlen0
    have hle : l.length ≤ m.length := by omega
    have h : ((l.length : Int) != (m.length : Int)) = false := by simp [hlen0]
    clear hlen0
    go_enter Try.func29, Try.ntmps29
    go_wp2_with fail
    go_loopw [17] (fun i wr => ∃ k : Nat, k ≤ l.length ∧ i = .int .i64 k ∧ Below w.heap.size w wr ∧ ∀ j (h1 : j < l.length) (h2 : j < m.length), j < k → l[j].p = m[j].p) (fun i _ => l.length - (intOf i).toNat)
    case atStart => exact ⟨0, by omega, rfl, Below.refl _ _, fun j _ _ hj => absurd hj (by omega)⟩
    case round =>
      obtain ⟨k, hk, rfl, hB, hall0⟩ := hrel
      have hall := hid hall0
      clear hall0
      by_cases hlt : k < l.length
      · have hlt2 : k < m.length := by omega
        obtain ⟨b1, o1, rfl, _, hb1, r1, a0, a1, a2, a3, a4, a5, a6⟩ := (ha.below hB).at_ hlt
        obtain ⟨b2, o2, rfl, _, hb2, r2, e0, e1, e2, e3, e4, e5, e6⟩ := (hb.below hB).at_ hlt2
        have f1 := hfl _ (List.getElem_mem hlt)
        have f2 := hfm _ (List.getElem_mem hlt2)
        have i1 : (k : Int) < (l.length : Int) := by omega
        have i2 : (k : Int) < (m.length : Int) := by omega
        clear ha hb hfl hfm
        go_wp2_with fail
        refine (same_any S S' l[k] m[k] _ ((r1.alloc _).alloc _) ((r2.alloc _).alloc _) f1 f2).mono ?_
        rintro e w1 ⟨rfl, hbw⟩
        have hB1 : Below w.heap.size w w1 := (((hB.alloc hB.size _).alloc (by have := hB.size; simp; omega) _)).trans (hbw.mono (by have := hB.size; simp; omega))
        go_wp2_with fail
        · go_ret
          exact ⟨by rw [eqPs_at hlt hlt2 (by simpa using (by assumption : (!eqP l[k].p m[k].p) = true))]; rfl, hB1⟩
        · go_roundw
          case rel =>
            have hfin := allP_step hall.out hlt hlt2 (by simpa using (by assumption : (!eqP l[k].p m[k].p) = false))
            exact ⟨k + 1, by omega, by go_num, hB1, hfin⟩
          case measure => simp [intOf]; omega
      · obtain rfl : k = l.length := by omega
        go_wp2_with fail
        go_ret
        exact ⟨by rw [eqPs_all hlen.out hall.out]; rfl, hB⟩
  · have h : ((l.length : Int) != (m.length : Int)) = true := by simp; omega
    go_enter Try.func29, Try.ntmps29
    go_wp2_with fail
    go_ret
    exact ⟨by rw [eqPs_len hlen0]; rfl, Below.refl _ _⟩

end Go.Proofs.Ytlnlffpkdeaimaa
