/- Merge.Take. -/
import Derived.Test.YtlnlffpkdeaimaaArrive
namespace Go.Proofs.Ytlnlffpkdeaimaa
open Go.RowKit

def delA {κ α : Type} [DecidableEq κ] (k : κ) : List (κ × α) → List (κ × α)
  | [] => []
  | p :: l => if k = p.1 then l else p :: delA k l
theorem delK_hvals (k : Int × Int) (H : List ((Int × Int) × HV)) : delK k (hvals H) = hvals (delA k H) := by
  induction H with
  | nil => rfl
  | cons p l ih =>
    by_cases h : k = p.1
    · simp [hvals, delK, delA, h]
    · simp only [hvals, List.map_cons, delK, delA, h, if_false] at ih ⊢
      rw [ih]
theorem delA_sub {κ α : Type} [DecidableEq κ] (k : κ) (l : List (κ × α)) : (delA k l).Sublist l := by
  induction l with
  | nil => exact List.Sublist.refl _
  | cons p l ih =>
    by_cases h : k = p.1
    · simp only [delA, h, if_true]; exact List.sublist_cons_self _ _
    · simp only [delA, h, if_false]; exact ih.cons_cons _
theorem MergeAt.del {w w' : World} {g mb : Nat} {n e s e' s' : Int} {H : List ((Int × Int) × HV)} (h : MergeAt w g mb n e s H) (k : Int × Int)
    (hblk : Blk w' g 77 #[.int .i64 n, .int .i64 e', .int .i64 s', .map (some mb)]) (hmap : MapIs placeE w' mb (delK k (hvals H)))
    (hu : Upd (fun b => b = g ∨ b = mb) w w') : MergeAt w' g mb n e' s' (delA k H) where
  blk := hblk
  map := by rw [← delK_hvals]; exact hmap
  plans := fun x hx => (h.plans x ((delA_sub k H).subset hx)).keep fun b hb hl => hu.block b hl (by
    have := h.out x ((delA_sub k H).subset hx) b hb
    rintro (rfl | rfl)
    · exact this.1 rfl
    · exact this.2.1 rfl)
  apart := h.apart.sublist (delA_sub k H)
  out := fun x hx b hb => by
    have := h.out x ((delA_sub k H).subset hx) b hb
    exact ⟨this.1, this.2.1, Nat.lt_of_lt_of_le this.2.2 hu.size⟩
  fits := fun x hx => h.fits x ((delA_sub k H).subset hx)

theorem take_nil (w : World) :
    Calls Try.prog 17 #[.pointer none] w fun r w' => r = .returned (.tuple #[.agg #[.int .i64 0, .int .i64 0, .slice none 0 0], .bool false]) ∧ Below w.heap.size w w' := by
  go_enter Try.func17, Try.ntmps17
  go_wp2_with fail
  refine bodyPost_ret (v := .tuple #[.agg #[.int .i64 0, .int .i64 0, .slice none 0 0], .bool false]) (by simp [results, Try.results17, go_sem]) rfl ⟨rfl, ?_⟩
  exact (Below.refl _ _).alloc (Nat.le_refl _) _

set_option maxRecDepth 100000 in
set_option maxHeartbeats 1000000 in
theorem take_no (g mb : Nat) (n e s : Int) (H : List ((Int × Int) × HV)) (w : World) (h : MergeAt w g mb n e s H) (hget : getA (e, s) H = none) :
    Calls Try.prog 17 #[.pointer (some ⟨g, 0, none⟩)] w fun r w' => r = .returned (.tuple #[.agg #[.int .i64 0, .int .i64 0, .slice none 0 0], .bool false]) ∧ Below w.heap.size w w' := by
  obtain ⟨c0, c1, c2, c3⟩ := h.cells
  have hg := h.blk.lt
  have hgk : getK (e, s) (hvals H) = none := by rw [getK_hvals, hget]; rfl
  have hm1 := h.map.alloc (.cells #[.int .i64 0, .int .i64 0, .slice none 0 0] 42)
  have hlk : ∀ k, (Instr.lookup 73 (.map (some mb)) (.agg #[.int .i64 e, .int .i64 s]) true).run Try.prog ((w.alloc (.cells #[.int .i64 0, .int .i64 0, .slice none 0 0] 42)).drewN k) = .ok (.tuple #[.slice none 0 0, .bool false]) ((w.alloc (.cells #[.int .i64 0, .int .i64 0, .slice none 0 0] 42)).drewN k) := fun k => by
    have := (hm1.keep (w' := (w.alloc (.cells #[.int .i64 0, .int .i64 0, .slice none 0 0] 42)).drewN k) rfl).lookup_ok Try.underlying73 zero_plans (e, s)
    rw [hgk] at this
    exact this
  clear h hm1 hget hgk
  go_enter Try.func17, Try.ntmps17
  go_wp2_with fail
  go_quiet (fail)
  go_wp2_with fail
  refine bodyPost_ret (v := .tuple #[.agg #[.int .i64 0, .int .i64 0, .slice none 0 0], .bool false]) (by simp [results, Try.results17, go_sem]) rfl ⟨rfl, ?_⟩
  repeat' (refine Below.setCell ?_ (by simp) _)
  exact below_drewN ((Below.refl _ _).alloc (Nat.le_refl _) _) _

set_option maxRecDepth 100000 in
set_option maxHeartbeats 1000000 in
theorem take_yes (g mb : Nat) (n e s : Int) (H : List ((Int × Int) × HV)) (hv : HV) (w : World) (h : MergeAt w g mb n e s H) (hget : getA (e, s) H = some hv) (hs0 : 0 ≤ s) (hs1 : s ≤ 1000) (he0 : 0 ≤ e) (he1 : e ≤ 1000000000) :
    Calls Try.prog 17 #[.pointer (some ⟨g, 0, none⟩)] w fun r w' => ∃ e' s' : Int, (s + 1 = n ∧ e' = e + 1 ∧ s' = 0 ∨ s + 1 ≠ n ∧ e' = e ∧ s' = s + 1) ∧ r = .returned (.tuple #[.agg #[.int .i64 e, .int .i64 s, .slice hv.A hv.rs.length hv.c], .bool true]) ∧
      MergeAt w' g mb n e' s' (delA (e, s) H) ∧ Upd (fun b => b = g ∨ b = mb) w w' := by
  obtain ⟨c0, c1, c2, c3⟩ := h.cells
  have hg := h.blk.lt
  have hgk : getK (e, s) (hvals H) = some hv.val := by rw [getK_hvals, hget]; rfl
  have hm1 := h.map.alloc (.cells #[.int .i64 0, .int .i64 0, .slice none 0 0] 42)
  have hlk : ∀ k, (Instr.lookup 73 (.map (some mb)) (.agg #[.int .i64 e, .int .i64 s]) true).run Try.prog ((w.alloc (.cells #[.int .i64 0, .int .i64 0, .slice none 0 0] 42)).drewN k) = .ok (.tuple #[.slice hv.A hv.rs.length hv.c, .bool true]) ((w.alloc (.cells #[.int .i64 0, .int .i64 0, .slice none 0 0] 42)).drewN k) := fun k => by
    have := (hm1.keep (w' := (w.alloc (.cells #[.int .i64 0, .int .i64 0, .slice none 0 0] 42)).drewN k) rfl).lookup_ok Try.underlying73 zero_plans (e, s)
    rw [hgk] at this
    exact this
  have hgk := hid hgk
  have hget := hid hget
  have hh := h
  clear h
  go_enter Try.func17, Try.ntmps17
  go_wp2_with fail
  go_quiet (fail)
  go_wp2_with fail
  have hB1 : Below w.heap.size w ((w.alloc (.cells #[.int .i64 0, .int .i64 0, .slice none 0 0] 42)).drewN nq) := below_drewN ((Below.refl _ _).alloc (Nat.le_refl _) _) _
  have kr : Blk ((w.alloc (.cells #[.int .i64 0, .int .i64 0, .slice none 0 0] 42)).drewN nq) w.heap.size 42 #[.int .i64 0, .int .i64 0, .slice none 0 0] := (Blk.new _ _ _).drewN _
  clear hlk c0 c1 c2 c3 hm1
  generalize (w.alloc (.cells #[.int .i64 0, .int .i64 0, .slice none 0 0] 42)).drewN nq = W1 at *
  have hm1 := hh.below hB1
  obtain ⟨c0, c1, c2, c3⟩ := hm1.cells
  have hg1 : g < W1.heap.size := Nat.lt_of_lt_of_le hg hB1.size
  have hz1 := kr.lt
  have n1 := World.new_ne W1 ⟨g, 1, none⟩ c1
  have n2 := World.new_ne W1 ⟨g, 2, none⟩ c2
  go_region_held3 (fun w' => w'.cell? ⟨g, 1, none⟩ = some (.int .i64 e) ∧ w'.cell? ⟨g, 2, none⟩ = some (.int .i64 s)) (go_keep) (fail)
  have hB2 : Below W1.heap.size W1 (W1.alloc (.cells #[.int .i64 e, .int .i64 s, .slice hv.A hv.rs.length hv.c] 42)).drew := ((Below.refl _ _).alloc (Nat.le_refl _) _).drew
  have ko : Blk (W1.alloc (.cells #[.int .i64 e, .int .i64 s, .slice hv.A hv.rs.length hv.c] 42)).drew W1.heap.size 42 #[.int .i64 e, .int .i64 s, .slice hv.A hv.rs.length hv.c] := (Blk.new _ _ _).drew
  clear n1 n2 c0 c1 c2 c3
  go_wp2_with fail
  generalize (W1.alloc (.cells #[.int .i64 e, .int .i64 s, .slice hv.A hv.rs.length hv.c] 42)).drew = W2 at *
  have hm2 := hm1.below hB2
  have kr2 := kr.below_all hB2
  have hB02 := hB1.trans (hB2.mono hB1.size)
  obtain ⟨c0, c1, c2, c3⟩ := hm2.cells
  have hgm : g ≠ mb := fun e => hm2.map.ne_blk hm2.blk e.symm
  obtain ⟨W3, hrun0, hm3, hg3, hz3⟩ := (hm2.map.keep (w' := W2.drew) rfl).delete (kt := 75) Try.underlying73 0 (e, s)
  have hrun : (Builtin.delete_ #[73, 75] 0 #[.map (some mb), .agg #[.int .i64 e, .int .i64 s]]).run Try.prog W2.drew = .ok (.tuple #[]) W3 := hrun0
  clear hrun0
  have d1 : W3.cell? ⟨g, 1, none⟩ = some (.int .i64 e) := hg3.cell c1 (by simpa using hgm)
  have d2 : W3.cell? ⟨g, 2, none⟩ = some (.int .i64 s) := hg3.cell c2 (by simpa using hgm)
  have d3 : W3.cell? ⟨g, 3, none⟩ = some (.map (some mb)) := hg3.cell c3 (by simpa using hgm)
  have keepS : Hid (W3.cell? ⟨g, 1, none⟩ = some (.int .i64 e) ∧ W3.cell? ⟨g, 2, none⟩ = some (.int .i64 s) ∧ W3.cell? ⟨g, 3, none⟩ = some (.map (some mb))) := ⟨d1, d2, d3⟩
  go_region_held3 (fun w' => w'.cell? ⟨g, 1, none⟩ = some (.int .i64 e) ∧ w'.cell? ⟨g, 2, none⟩ = some (.int .i64 s) ∧ w'.cell? ⟨g, 3, none⟩ = some (.map (some mb))) (first | exact ⟨c1, c2, c3⟩ | exact keepS.out) (fail)
  have hu23 : Upd (fun b => b = mb) W2 W3 := ((Upd.refl _ W2).drew).grown hg3 (fun k hk _ => by injection hk with hk; exact hk.symm)
  have kb3 : Blk W3 g _ _ := hm2.blk.upd hu23 hgm
  have kr3 : Blk W3 w.heap.size _ _ := kr2.upd hu23 fun e => hm2.map.ne_blk kr2 e.symm
  have ko3 : Blk W3 W1.heap.size _ _ := ko.upd hu23 fun e => hm2.map.ne_blk ko e.symm
  have q3 := fun j => kb3.frozen j
  have q4 := fun j => kr3.frozen j
  have r0 : W3.cell? ⟨w.heap.size, 0, none⟩ = some (.int .i64 0) := kr3.cell 0
  have r1 : W3.cell? ⟨w.heap.size, 1, none⟩ = some (.int .i64 0) := kr3.cell 1
  have r2 : W3.cell? ⟨w.heap.size, 2, none⟩ = some (.slice none 0 0) := kr3.cell 2
  have o0 : W3.cell? ⟨W1.heap.size, 0, none⟩ = some (.int .i64 e) := ko3.cell 0
  have o1 : W3.cell? ⟨W1.heap.size, 1, none⟩ = some (.int .i64 s) := ko3.cell 1
  have o2 : W3.cell? ⟨W1.heap.size, 2, none⟩ = some (.slice hv.A hv.rs.length hv.c) := ko3.cell 2
  have d0 : W3.cell? ⟨g, 0, none⟩ = some (.int .i64 n) := kb3.cell 0
  have g1 : g ≠ w.heap.size := by omega
  have g2 : g ≠ W1.heap.size := by omega
  have g3 : w.heap.size ≠ W1.heap.size := by omega
  clear hrun c0 c1 c2 c3
  go_wp2_with fail
  have gm1 : mb ≠ g := Ne.symm hgm
  have gm2 : mb ≠ w.heap.size := fun e => hm2.map.ne_blk kr2 e
  have hu03 : Hid (∀ v k, Upd (fun b => b = g ∨ b = mb) w ((W3.setCell ⟨g, 2, none⟩ v).drewN k)) := fun v k =>
    (((Upd.of_below hB02 (fun k hk hB => absurd hk (by omega))).trans (hu23.mono (M' := fun b => b = g ∨ b = mb) fun _ _ h => .inr h) (fun _ _ h => h)).setCell (p := ⟨g, 2, none⟩) (fun _ => .inl rfl) _).drewN k
  have hB1' := hid hB1
  clear hB1 hB2 hB02 hm1 hm2 hu23 keepS hgk hget
  by_cases hsn : s + 1 = n
  · have hd : ((s + 1) == n) = true := by simpa using hsn
    have hsn := hid hsn
    go_quiet (fail)
    go_wp2_with fail
    refine bodyPost_ret (v := .tuple #[.agg #[.int .i64 e, .int .i64 s, .slice hv.A hv.rs.length hv.c], .bool true]) ?_ rfl ⟨e + 1, 0, .inl ⟨hsn.out, rfl, rfl⟩, rfl, ?_, ?_⟩
    · simp [results, Try.results17, go_sem, r0, r1, r2]
    · refine hh.del (e, s) ?_ ?_ ?_
      · exact ((((((kb3.set_ 2 _).drewN _).set_ 1 _).set_ 2 _).far g1 _).far g1 _).far g1 _ 
      · repeat' (refine MapIs.setCell ?_ _ _ (by first | exact gm1 | exact gm2))
        exact hm3.keep rfl
      · repeat' (refine Upd.setCell ?_ (by intro hk; first | exact .inl rfl | (simp at hk)) _)
        exact hu03.out _ _
    · repeat' (refine Upd.setCell ?_ (by intro hk; first | exact .inl rfl | (simp at hk)) _)
      exact hu03.out _ _
  · have hd : ((s + 1) == n) = false := by simpa using hsn
    have hsn := hid hsn
    go_quiet (fail)
    go_wp2_with fail
    refine bodyPost_ret (v := .tuple #[.agg #[.int .i64 e, .int .i64 s, .slice hv.A hv.rs.length hv.c], .bool true]) ?_ rfl ⟨e, s + 1, .inr ⟨hsn.out, rfl, rfl⟩, rfl, ?_, ?_⟩
    · simp [results, Try.results17, go_sem, r0, r1, r2]
    · refine hh.del (e, s) ?_ ?_ ?_
      · exact (((((kb3.set_ 2 _).drewN _).far g1 _).far g1 _).far g1 _)
      · repeat' (refine MapIs.setCell ?_ _ _ (by first | exact gm1 | exact gm2))
        exact hm3.keep rfl
      · repeat' (refine Upd.setCell ?_ (by intro hk; first | exact .inl rfl | (simp at hk)) _)
        exact hu03.out _ _
    · repeat' (refine Upd.setCell ?_ (by intro hk; first | exact .inl rfl | (simp at hk)) _)
      exact hu03.out _ _

end Go.Proofs.Ytlnlffpkdeaimaa
