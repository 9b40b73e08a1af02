/- store: dump. -/
import Derived.Test.YtnbbdjbjbjlcpaaDoorSSort
import Derived.Shelf.SlSortCmp.NoneTotal
namespace Go.Proofs.YtnbbdjbjbjlcpaaDoor
open Go.RowKit Go.Sort Go.Shelf Go.Lib
set_option linter.unusedVariables false
set_option linter.unusedSimpArgs false

theorem info_item : (Tryd.prog.info? 64).map (fun i => (i.zero, i.size, i.bytes)) = some (some (.agg #[.string ⟨#[]⟩, .int .i64 0, .int .i64 0, .string ⟨#[]⟩]), 4, 48) := by kernel_rfl
theorem cmp_any (x y : Kv) (W : World) : Calls Tryd.prog 47 #[.agg (encI x).toArray, .agg (encI y).toArray] W fun e w' => e = .returned (.int .i64 (cfK x y)) ∧ ∃ q os', w' = grow (W.drewN q) os' := by
  have hc := fun W => strings_Compare x.1 y.1 W
  have hr : Hid (cfK x y = Lib.compareBytes x.1.data.toList y.1.data.toList) := hid rfl
  generalize Lib.compareBytes x.1.data.toList y.1.data.toList = r at hc hr
  obtain ⟨k, v⟩ := x
  obtain ⟨j, u⟩ := y
  simp only [encI] at hc ⊢
  go_enter Tryd.func47, Tryd.ntmps47
  go_wp2_with (go_at_call 48; refine (hc _).mono ?_; rintro e w' ⟨rfl, rfl⟩)
  go_ret
  exact ⟨by rw [hr.out]; rfl, 0, _, by rw [alloc_eq_grow, alloc_eq_grow, grow_grow]; rfl⟩
theorem sort_any {base : Nat} {A : Option Addr} {c : Nat} (out M : List Kv) (w : World) (ha : Asc M) (hp : out.Perm M) (hn : out.length ≤ 262144) (hown : w.ownsRow base 64 4 (.slice A out.length c) out.length (kvCells out)) :
    Calls Tryd.prog 46 #[.slice A out.length c, .func (.func 47) #[] #[]] w fun e w' => e = .returned (.tuple #[]) ∧ w'.ownsRow base 64 4 (.slice A out.length c) out.length (kvCells M) ∧ w.grownBy w' (Value.slice A out.length c).ownBlock := by
  rcases hown.2 with ⟨hnil, h0⟩ | ⟨g, cap, cur, hv, hbase, hb, h1, h2, h3, h4⟩
  · have hcon := AnyF.slices_SortFunc_none laysSort A c (.func (.func 47) #[] #[]) w
    change Calls Tryd.prog 46 _ _ _ at hcon
    rw [h0] at hown ⊢
    refine hcon.mono ?_
    rintro e w' ⟨rfl, rfl⟩
    obtain rfl := List.eq_nil_of_length_eq_zero h0
    obtain rfl : M = [] := by
      have := hp.length_eq
      exact List.eq_nil_of_length_eq_zero this.symm
    exact ⟨rfl, hown, World.grownBy.refl _ _⟩
  · injection hv with hA hn2 hc
    subst hA
    have eg : ∀ args w, (callFunc 47 args).run Tryd.prog w = .ok (.enter 47 args) w := enters_of Tryd.func47 (by kernel_rfl) rfl
    have hlt : g < w.heap.size := (Array.getElem?_eq_some_iff.1 hb).1
    have hcon := AnyQ.slices_SortFunc laysSort 4 Tryd.isAgg64 Tryd.sizeOf64 encI encI_len encI_one cfK swo_kv 47 #[] g 0 c out.toArray w eg (fun m os dk hs x y => by simpa using cmp_any x y _) (holds_kv (cap := cap) hb h4) hlt (by simp; omega)
    change Calls Tryd.prog 46 _ _ _ at hcon
    have e1 : out.toArray.size = out.length := by simp
    rw [e1] at hcon
    refine hcon.mono ?_
    rintro e w' ⟨rfl, d', n, os, hpm, hso, rfl⟩
    have hM := sorted_kv ha hp (by rw [e1]; exact hpm) (by rw [e1]; exact hso)
    have hd' : d' = M.toArray := by rw [← hM]
    subst hd'
    refine ⟨rfl, ?_, grownBy_sortedK _⟩
    have := ownsRow_sortedK (n := n) (os := os) (ss := out) (ts := M) hp.length_eq.symm hbase hb h1 h2 h3
    rw [hc]
    exact this
section
variable {s : St} {w : World} {vb : Nat}
set_option maxRecDepth 100000 in
set_option maxHeartbeats 4000000 in
theorem dump_any (h : MapF strE w vb (Dv s.L)) (hok : s.Ok) : Calls Tryd.prog 37 #[.map (some vb)] w fun e w' => ∃ A c, e = .returned (.slice A (dumpL s.L).length c) ∧ w'.ownsRow (w.heap.size + 1) 64 4 (.slice A (dumpL s.L).length c) (dumpL s.L).length (kvCells (dumpL s.L)) ∧ Below w.heap.size w w' := by
  obtain ⟨l, hml, hd⟩ := h
  have hvl := hml.lt
  have hll : l.length ≤ 262144 := by rw [map_len hok.asc hml hd]; exact hok.dlen
  obtain ⟨es, clock, hes, hpr, hst⟩ := id hml
  have hrg := run_range_map (P := Tryd.prog) w 56 9 50 vb es clock Tryd.underlying56 hes
  obtain ⟨i0, hi0, hz0, hz1, hz2⟩ := info_parts info_item
  have hM := hid hml
  have hD := hid hd
  have hP := hid hpr
  have hK := hid hok
  have hS := hid hst
  have hE := hid hes
  have hV := hid hvl
  have hL := hid hll
  clear hml hd hpr hok hst hes hvl hll
  go_enter Tryd.func37, Tryd.ntmps37
  go_wp2_with fail
  go_loopw [3] (fun v wr => ∃ (seen : Array Nat) (c0 : Nat) (out : List Kv) (A : Option Addr) (c : Nat), v = .slice A out.length c ∧ wr.heap[w.heap.size]? = some (.mapIter (some vb) clock seen c0) ∧ clock ≤ c0 ∧ wr.ownsRow (w.heap.size + 1) 64 4 (.slice A out.length c) out.length (kvCells out) ∧ Below w.heap.size w wr ∧ (doneOf es seen).Perm (out.map encP)) (fun _ wr => (leftOf es (wr.iterSeen w.heap.size)).size)
  case atStart => exact ⟨#[], clock, [], none, 0, rfl, heap_alloc_new _ _, Nat.le_refl _, World.ownsRow_nil _ _ _ _, (Below.refl _ _).alloc (Nat.le_refl _) _, by rw [done_none]; exact List.Perm.nil⟩
  case round =>
    clear hrg
    obtain ⟨seen, c0, out, A, c, rfl, hr, hc0, hown, hB0, hdone⟩ := hrel
    have hesr := (hB0.block _ hV.out).trans hE.out
    have hseen0 := hid (seen_of hr)
    have hol : out.length ≤ 262144 := by
      have h1 := hdone.length_eq
      have h2 := done_le (E := strE) (seen := seen) hP.out
      have := hL.out
      simp at h1
      omega
    rcases range_step (P := Tryd.prog) hr hesr hS.out hc0 with ⟨h0, hnx⟩ | ⟨e, wn, he, hns, hsh, hun, hszn, hrn, hesn, hnx, hent⟩
    · have hperm : out.Perm (dumpL s.L) := done_dump hK.out.asc hM.out hD.out hP.out (by rw [← done_all h0]; exact hdone)
      have hso := hid (sort_any (c := c) out (dumpL s.L) wr (dump_asc hK.out.asc) hperm hol hown)
      have hlen := hid hperm.length_eq
      have hB := hid hB0
      have hO := hid hown
      clear hperm h0 hr hesr hown hB0 hdone hol
      go_wp2_with fail
      refine hso.out.mono ?_
      rintro e w3 ⟨rfl, hown3, hg3⟩
      have hfin : Hid (w3.ownsRow (w.heap.size + 1) 64 4 (.slice A out.length c) out.length (kvCells (dumpL s.L)) ∧ Below w.heap.size w w3) := hid ⟨hown3, hB.out.grown hg3 hB.out.size fun k hk => by have := (hO.out.lt k hk).1; omega⟩
      clear hown3 hg3
      go_wp2_with fail
      go_ret
      rw [hlen.out] at hfin ⊢
      exact ⟨A, c, rfl, hfin.out.1, hfin.out.2⟩
    · obtain ⟨p, hp, hek, hev⟩ := done_list (E := strE) (w := w) (b := vb) (clock := clock) hP.out he
      have hget := (getK_mem hM.out.nodup).2 (show (p.1, p.2) ∈ l from hp)
      rw [hD.out] at hget
      obtain ⟨hdm, hev2⟩ := dv_some hK.out.asc hget
      obtain ⟨y, hy⟩ : ∃ y, y = p.1 := ⟨_, rfl⟩
      obtain ⟨v, hv⟩ : ∃ v, v = valK p.1 s.L := ⟨_, rfl⟩
      rw [← hv] at hev2
      have hek : e.key = .string y := by rw [hek, hy]; rfl
      have hev : e.val = .agg #[.int .i64 v.k, .int .i64 v.n, .string v.s] := by rw [hev, hev2]; rfl
      have hpush := hid ((done_push hS.out.2.1 he hns).trans (hdone.cons _))
      rw [hek, hev] at hnx hent hpush
      have hownn : wn.ownsRow (w.heap.size + 1) 64 4 (.slice A out.length c) out.length (kvCells out) := own_updB hown hun fun k hk _ e => by omega
      have hBn : Below w.heap.size w wn := hB0.trans (hun.below (B := w.heap.size) hB0.size fun k hk e => by omega)
      have hHB := hid hBn
      have hHO := hid hownn
      have hHr := hid hrn
      have hsh' := hid hsh
      have hol' := hid hol
      clear hp hget hdm hev2 hek hev hy hv hown hB0 hdone hr hesr hun hrn hesn hBn hownn he hns hsh hol
      clear hszn
      go_wp2_with (
        at_builtin
        refine wpList_append_rd _ rfl (.tmp 13) (.tmp 17) 53 rfl (w.heap.size + 1) 64 i0 _ 4 48 Tryd.underlying53 hi0 hz0 hz1 hz2 rfl (by omega) (.slice A out.length c) out.length (kvCells out) rfl ((hHO.out.alloc _).alloc _) (fun b => b = wn.heap.size + 1) (some ⟨wn.heap.size + 1, 0, none⟩) 1 1 (encI (y, v)) rfl (Rd.new _ 64 4 1 (encI (y, v)).toArray _ (by simp) rfl) (encI_one _) (by have := hol'.out; simp only [maxLen]; omega) (by have := hol'.out; omega) (by have h1 := hHB.out.size; have := (Array.getElem?_eq_some_iff.1 hHr.out).1; simp; omega) ?_
        intro v3 w3 hown3 hg3 hat3
        obtain ⟨A3, c3, rfl, hc3, _⟩ := own_form hown3)
      have hne : (Value.slice A out.length c).ownBlock ≠ some w.heap.size := fun e => by have := (hHO.out.lt _ e).1; omega
      have hrl : w.heap.size < wn.heap.size := (Array.getElem?_eq_some_iff.1 hHr.out).1
      have hr3 : w3.heap[w.heap.size]? = some (.mapIter (some vb) clock (seen.push e.born) clock) := (hg3.block _ (by simp; omega) (Ne.symm hne)).trans ((Below.heap_alloc _ _ _ (by simp; omega)).trans ((Below.heap_alloc _ _ _ hrl).trans hHr.out))
      go_roundw
      case rel =>
        refine ⟨seen.push e.born, clock, out ++ [(y, v)], A3, c3, by simp, hr3, Nat.le_refl _, by rw [kvCells_snoc, List.length_append]; exact hown3, ?_, ?_⟩
        · exact ((hHB.out.alloc hHB.out.size _).alloc (by have := hHB.out.size; simp; omega) _).grown hg3 (by have := hHB.out.size; simp; omega) fun k hk => by have := (hHO.out.lt k hk).1; omega
        · rw [List.map_append]
          exact hpush.out.trans (List.perm_append_comm (l₁ := [encP (y, v)]) (l₂ := out.map encP))
      case measure =>
        rw [seen_of hr3, hseen0.out]
        exact hsh'.out
end
end Go.Proofs.YtnbbdjbjbjlcpaaDoor
