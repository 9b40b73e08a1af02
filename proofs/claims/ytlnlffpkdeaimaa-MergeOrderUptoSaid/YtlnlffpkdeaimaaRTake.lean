/- The document's Merge.Take. -/
import Derived.Test.YtlnlffpkdeaimaaRef
import Derived.Deep.DeepCutAuto
namespace Go.Proofs.Ytlnlffpkdeaimaa
open Go.RowKit
set_option linter.unusedVariables false

theorem info_held' : (Try.prog.info? 86).map (fun i => (i.zero, i.size, i.bytes)) = some (some (.agg #[.int .i64 0, .int .i64 0, .slice none 0 0]), 3, 40) := by kernel_rfl

theorem hcells_take (L : List ((Int × Int) × HV)) (m : Nat) : (hcells L).take (m * 3) = hcells (L.take m) := by
  induction L generalizing m with
  | nil => simp [hcells]
  | cons p l ih =>
    cases m with
    | zero => simp [hcells]
    | succ m =>
      have := ih m
      simp only [hcells, List.flatMap_cons, List.take_succ_cons] at this ⊢
      rw [show (m + 1) * 3 = (hcell p).length + m * 3 by simp [hcell]; omega, List.take_length_add_append, this]
theorem hcells_drop (L : List ((Int × Int) × HV)) (m : Nat) : (hcells L).drop (m * 3) = hcells (L.drop m) := by
  induction L generalizing m with
  | nil => simp [hcells]
  | cons p l ih =>
    cases m with
    | zero => simp
    | succ m =>
      have := ih m
      simp only [hcells, List.flatMap_cons, List.drop_succ_cons] at this ⊢
      rw [show (m + 1) * 3 = (hcell p).length + m * 3 by simp [hcell]; omega, List.drop_length_add_append, this]
theorem Rd.pre {S : Nat → Prop} {w : World} {b o : Nat} {L : List ((Int × Int) × HV)} (h : Rd S w 3 (some ⟨b, o, none⟩) L.length (hcells L)) (m : Nat) (hm : m ≤ L.length) : Rd S w 3 (some ⟨b, o, none⟩) m (hcells (L.take m)) := by
  rw [← hcells_take]
  refine ⟨by rw [List.length_take, h.1]; omega, fun h0 => ?_⟩
  obtain ⟨b', o', e, hS, hl, hc⟩ := h.2 (by omega)
  refine ⟨b', o', e, hS, hl, fun j u hu => hc j u ?_⟩
  rw [List.getElem?_take] at hu
  split at hu
  · exact hu
  · cases hu
theorem Rd.suf {S : Nat → Prop} {w : World} {b o c : Nat} {L : List ((Int × Int) × HV)} (h : Rd S w 3 (some ⟨b, o, none⟩) L.length (hcells L)) (m : Nat) (hc : ¬ c = m) (hL : L.length ≤ c) : Rd S w 3 (some ⟨b, o + m * 3, none⟩) (L.length - m) (hcells (L.drop m)) := by
  rw [← hcells_drop]
  refine ⟨by rw [List.length_drop, h.1, Nat.sub_mul], fun h0 => ?_⟩
  obtain ⟨b', o', e, hS, hl, hcc⟩ := h.2 (by omega)
  injection e with e
  injection e with e1 e2 _
  subst e1; subst e2
  refine ⟨b, o + m * 3, rfl, hS, hl, fun j u hu => ?_⟩
  rw [List.getElem?_drop] at hu
  have := hcc _ u hu
  rwa [← Nat.add_assoc] at this

theorem at_q (S : Nat → Prop) (g : Nat) (A : Option Addr) (c : Nat) (L : List ((Int × Int) × HV)) (x t : Int) (w : World) (k : Nat) (c3 : w.cell? ⟨g, 3, none⟩ = some (.slice A L.length c)) (hr : Rd S w 3 A L.length (hcells L)) (hl : L.length ≤ 1000000000) :
    Calls Try.prog 33 #[.pointer (some ⟨g, 0, none⟩), .int .i64 x, .int .i64 t] (w.drewN k) fun e w' => e = .returned (.int .i64 (idxA (x, t) L 0)) ∧ w' = w.drewN k :=
  (at_any S g A c L x t (w.drewN k) c3 hr hl).mono fun _ _ ⟨h1, h2⟩ => ⟨h1, h2.symm⟩

set_option maxRecDepth 100000 in
set_option maxHeartbeats 1000000 in
theorem rtake_no (S : Nat → Prop) (g : Nat) (n e s : Int) (AL : Option Addr) (cL : Nat) (L : List ((Int × Int) × HV)) (w : World) (h : RAt S w g n e s AL cL L) (hL : L.length ≤ 1000000) (hget : getA (e, s) L = none) :
    Calls Try.prog 18 #[.pointer (some ⟨g, 0, none⟩)] w fun r w' => r = .returned (.tuple #[.agg #[.int .i64 0, .int .i64 0, .slice none 0 0], .bool false]) ∧ Below w.heap.size w w' := by
  have h2 : idxA (e, s) L 0 = -1 := by
    rcases idxA_getA (e, s) L 0 with ⟨_, h2⟩ | ⟨m, v, hm, h1, _⟩
    · exact h2
    · rw [hget] at h1; cases h1
  have hB1 : Below w.heap.size w (w.alloc (.cells #[.int .i64 0, .int .i64 0, .slice none 0 0] 42)) := (Below.refl _ _).alloc (Nat.le_refl _) _
  have h1 := h.below hB1
  obtain ⟨c0, c1, c2, c3⟩ := h1.cells
  have hcall := fun k => at_q S g AL cL L e s _ k c3 h1.row.rd (by omega)
  rw [h2] at hcall
  have hcall := hid hcall
  have hB1 := hid hB1
  clear h h1 hget h2
  go_enter Try.func18, Try.ntmps18
  go_wp2_with fail
  go_quiet ((go_at_call 33; exact Calls.quiet_of_same (hcall.out _)))
  go_wp2_with fail
  refine bodyPost_ret (v := .tuple #[.agg #[.int .i64 0, .int .i64 0, .slice none 0 0], .bool false]) (by simp [results, Try.results18, go_sem]) rfl ⟨rfl, ?_⟩
  repeat' (refine Below.setCell ?_ (by simp) _)
  exact below_drewN hB1.out _

/-- an entry has been taken out of the list -/
def RMid (W : World) (g : Nat) (n e s : Int) (L' : List ((Int × Int) × HV)) (wx : World) : Prop :=
  ∃ A' c', Blk wx g 57 #[.int .i64 n, .int .i64 e, .int .i64 s, .slice A' L'.length c'] ∧ wx.ownsRow W.heap.size 86 3 (.slice A' L'.length c') L'.length (hcells L') ∧ Upd (fun k => k = g) W wx

set_option maxRecDepth 100000 in
set_option maxHeartbeats 2000000 in
theorem rtake_yes (S : Nat → Prop) (g : Nat) (n e s : Int) (AL : Option Addr) (cL : Nat) (L : List ((Int × Int) × HV)) (hv : HV) (w : World) (h : RAt S w g n e s AL cL L) (hL : L.length ≤ 1000000) (hget : getA (e, s) L = some hv) (hs0 : 0 ≤ s) (hs1 : s ≤ 1000) (he0 : 0 ≤ e) (he1 : e ≤ 1000000000) :
    Calls Try.prog 18 #[.pointer (some ⟨g, 0, none⟩)] w fun r w' => ∃ (e' s' : Int) (S' : Nat → Prop) (AL' : Option Addr) (cL' : Nat), (s + 1 = n ∧ e' = e + 1 ∧ s' = 0 ∨ s + 1 ≠ n ∧ e' = e ∧ s' = s + 1) ∧ (∀ k, S' k → S k ∨ w.heap.size ≤ k) ∧ r = .returned (.tuple #[.agg #[.int .i64 e, .int .i64 s, .slice hv.A hv.rs.length hv.c], .bool true]) ∧
      RAt S' w' g n e' s' AL' cL' (delA (e, s) L) ∧ Upd (fun k => k = g) w w' := by
  rcases idxA_getA (e, s) L 0 with ⟨h1, _⟩ | ⟨m, v, hm, h1, h2, h3, h4⟩
  · rw [hget] at h1; cases h1
  obtain rfl : hv = v := by rw [hget] at h1; exact Option.some.inj h1
  have h2 : idxA (e, s) L 0 = (m : Int) := by simpa using h2
  have hg := h.blk.lt
  have hB1 : Below w.heap.size w (w.alloc (.cells #[.int .i64 0, .int .i64 0, .slice none 0 0] 42)) := (Below.refl _ _).alloc (Nat.le_refl _) _
  have hr1 := h.below hB1
  obtain ⟨c0, c1, c2, c3⟩ := hr1.cells
  have hcall := fun k => at_q S g AL cL L e s _ k c3 hr1.row.rd (by omega)
  rw [h2] at hcall
  have hcall := hid hcall
  have h3 := hid h3
  have h4 := hid h4
  have hSout := hid h.out
  have hh := h
  clear h hget h2 h1
  go_enter Try.func18, Try.ntmps18
  go_wp2_with fail
  go_quiet ((go_at_call 33; exact Calls.quiet_of_same (hcall.out _)))
  have hm0 : decide ((m : Int) < 0) = false := by simp
  go_wp2_with fail
  have hB1 : Below w.heap.size w ((w.alloc (.cells #[.int .i64 0, .int .i64 0, .slice none 0 0] 42)).drewN nq) := below_drewN hB1 _
  have kr : Blk ((w.alloc (.cells #[.int .i64 0, .int .i64 0, .slice none 0 0] 42)).drewN nq) w.heap.size 42 #[.int .i64 0, .int .i64 0, .slice none 0 0] := (Blk.new _ _ _).drewN _
  clear hcall c0 c1 c2 c3 hr1
  generalize (w.alloc (.cells #[.int .i64 0, .int .i64 0, .slice none 0 0] 42)).drewN nq = W1 at *
  have hr1 := hh.below hB1
  obtain ⟨c0, c1, c2, c3⟩ := hr1.cells
  have hg1 : g < W1.heap.size := Nat.lt_of_lt_of_le hg hB1.size
  have hz1 := kr.lt
  obtain ⟨b, o, rfl, hbS, hlb, a0, a1, a2⟩ := hrow_at hr1.row.rd hm
  rw [h3.out] at a2
  have i1 : (m : Int) < (L.length : Int) := by omega
  have n1 := World.new_ne W1 ⟨g, 1, none⟩ c1
  have n2 := World.new_ne W1 ⟨b, o + m * 3 + 2, none⟩ a2
  go_region_held3 (fun w' => w'.cell? ⟨g, 1, none⟩ = some (.int .i64 e) ∧ w'.cell? ⟨g, 2, none⟩ = some (.int .i64 s) ∧ w'.cell? ⟨g, 3, none⟩ = some (.slice (some ⟨b, o, none⟩) L.length cL) ∧ w'.cell? ⟨b, o + m * 3 + 2, none⟩ = some (.slice hv.A hv.rs.length hv.c)) (go_keep) (fail)
  have hB2 : Below W1.heap.size W1 (W1.alloc (.cells #[.int .i64 e, .int .i64 s, .slice hv.A hv.rs.length hv.c] 42)).drew := ((Below.refl _ _).alloc (Nat.le_refl _) _).drew
  have ko : Blk (W1.alloc (.cells #[.int .i64 e, .int .i64 s, .slice hv.A hv.rs.length hv.c] 42)).drew W1.heap.size 42 #[.int .i64 e, .int .i64 s, .slice hv.A hv.rs.length hv.c] := (Blk.new _ _ _).drew
  clear n1 n2 c0 c1 c2 c3 a0 a1 a2
  go_upto_region 5 with fail
  generalize (W1.alloc (.cells #[.int .i64 e, .int .i64 s, .slice hv.A hv.rs.length hv.c] 42)).drew = W2 at *
  have hr2 := hr1.below hB2
  have kr2 := kr.below_all hB2
  have hB02 := hB1.trans (hB2.mono hB1.size)
  obtain ⟨c0, c1, c2, c3⟩ := hr2.cells
  have hcap := hr2.row.1
  have i2 : m ≤ cL := by obtain ⟨_, _, hq, h1, _⟩ := own_form hcap; simp at hq; omega
  have i3 : m + 1 ≤ L.length := by omega
  have i4 : L.length ≤ cL := by obtain ⟨_, _, hq, h1, _⟩ := own_form hcap; simp at hq; omega
  have hw1 : IntKind.i64.wrap ((m : Int) + 1) = (m : Int) + 1 := IntWalk.i64_in _ (by omega)
  have hg2 := hr2.blk.lt
  have j1 : (0 : Int) ≤ (m : Int) + 1 := by omega
  have j2 : (m : Int) + 1 ≤ (L.length : Int) := by omega
  obtain ⟨ih, hih, hh0, hh1, hh2⟩ := info_parts info_held'
  have hr2' := hid hr2
  have hpre := hr2.row.rd.pre m (by omega)
  have hsuf := hid hr2.row.rd
  have qg := hr2.blk.frozen 3
  clear hr1 hh hr2 hcap
  go_cut [] (fun wx => RMid W2 g n e s (L.take m ++ L.drop (m + 1)) wx)
  case first =>
   by_cases hcc : cL = m + 1
   · obtain rfl := hcc
     have i5 : L.length ≤ m + 1 := i4
     have j3 : (m : Int) ≤ (m : Int) + 1 := by omega
     have j4 : m ≤ m + 1 := by omega
     go_region_law
       (first
         | (refine step_append_rd _ rfl (.tmp 38) (.tmp 44) 55 rfl W2.heap.size 86 ih _ 3 40 Try.underlying55 hih hh0 hh1 hh2 rfl (by omega) (.slice (some ⟨W2.heap.size, 0, none⟩) 0 0) 0 [] rfl ?_ S (some ⟨b, o, none⟩) m (m + 1) (hcells (L.take m)) rfl ?_ ?_ ?_ ?_ ?_ m (Nat.zero_add m) (hcells (L.take m)) rfl ?_
            go_must (
              · exact World.ownsRow.drew (own_empty W2 _ 3)
              · exact (hpre.alloc _).drew
              · exact hcells_one _
              · simp only [maxLen]; omega
              · omega
              · simp
              intro A2 c2 w2 hown2 hg2' hat2
              have hb2 : Below W2.heap.size W2 w2 := (((Below.refl _ W2).alloc (Nat.le_refl _) (.cells #[] 86)).drew).grown hg2' (by simp) fun k hk => Nat.le_of_eq (by simpa [Value.ownBlock] using hk)
              have G3 : w2.cell? ⟨g, 3, none⟩ = some (.slice (some ⟨b, o, none⟩) L.length (m + 1)) := (hb2.cell (p := ⟨g, 3, none⟩) hg2).trans c3
              have hb2 := hid hb2
              clear hg2'))
         | (refine step_append_rd w2 rfl (.tmp 45) (.tmp 52) 55 rfl W2.heap.size 86 ih _ 3 40 Try.underlying55 hih hh0 hh1 hh2 rfl (by omega) (.slice A2 m c2) m (hcells (L.take m)) rfl ?_ S (some ⟨b, o, none⟩) 0 0 (hcells (L.drop (m + 1))) rfl ?_ ?_ ?_ ?_ ?_ (L.length - 1) (by omega) (hcells (L.take m) ++ hcells (L.drop (m + 1))) rfl ?_
            go_must (
              · exact hown2
              · exact ⟨by rw [List.drop_eq_nil_of_le (by omega)]; rfl, fun h => absurd h (by omega)⟩
              · exact hcells_one _
              · simp only [maxLen]; omega
              · omega
              · exact hb2.out.size
              intro A3 c3' w3 hown3 hg3 hat3
              have hb3 : Below W2.heap.size W2 w3 := hb2.out.grown hg3 hb2.out.size fun k hk => (hown2.lt k hk).1
              have G4 : w3.cell? ⟨g, 3, none⟩ = some (.slice (some ⟨b, o, none⟩) L.length (m + 1)) := (hb3.cell (p := ⟨g, 3, none⟩) hg2).trans c3
              have Q4 : w3.frozen? ⟨g, 3, none⟩ = false := (hb3.frozen (p := ⟨g, 3, none⟩) hg2).trans qg
              have hb3 := hid hb3)))
     all_goals
       go_wp2_with fail
       go_meet
       have hL1 : (L.take m ++ L.drop (m + 1)).length = L.length - 1 := by simp; omega
       refine ⟨A3, c3', ?_, ?_, ?_⟩
       · rw [hL1]
         have hk := ((hr2'.out.blk.below_all hb3.out).set_ 3 (.slice A3 (L.length - 1) c3'))
         simpa using hk
       · rw [hL1, hcells_app]
         exact ownsRow_setCell_below hown3 (by simpa using hg2) _
       · exact (Upd.of_below' hb3.out (fun k => k = g)).setCell (fun _ => rfl) _

   · go_region_law
       (first
         | (refine step_append_rd _ rfl (.tmp 38) (.tmp 44) 55 rfl W2.heap.size 86 ih _ 3 40 Try.underlying55 hih hh0 hh1 hh2 rfl (by omega) (.slice (some ⟨W2.heap.size, 0, none⟩) 0 0) 0 [] rfl ?_ S (some ⟨b, o, none⟩) m cL (hcells (L.take m)) rfl ?_ ?_ ?_ ?_ ?_ m (Nat.zero_add m) (hcells (L.take m)) rfl ?_
            go_must (
              · exact World.ownsRow.drew (own_empty W2 _ 3)
              · exact (hpre.alloc _).drew
              · exact hcells_one _
              · simp only [maxLen]; omega
              · omega
              · simp
              intro A2 c2 w2 hown2 hg2' hat2
              have hb2 : Below W2.heap.size W2 w2 := (((Below.refl _ W2).alloc (Nat.le_refl _) (.cells #[] 86)).drew).grown hg2' (by simp) fun k hk => Nat.le_of_eq (by simpa [Value.ownBlock] using hk)
              have G3 : w2.cell? ⟨g, 3, none⟩ = some (.slice (some ⟨b, o, none⟩) L.length cL) := (hb2.cell (p := ⟨g, 3, none⟩) hg2).trans c3
              have hb2 := hid hb2
              clear hg2'))
         | (refine step_append_rd w2 rfl (.tmp 45) (.tmp 52) 55 rfl W2.heap.size 86 ih _ 3 40 Try.underlying55 hih hh0 hh1 hh2 rfl (by omega) (.slice A2 m c2) m (hcells (L.take m)) rfl ?_ S (some ⟨b, o + (m + 1) * 3, none⟩) (L.length - (m + 1)) (cL - (m + 1)) (hcells (L.drop (m + 1))) rfl ?_ ?_ ?_ ?_ ?_ (L.length - 1) (by omega) (hcells (L.take m) ++ hcells (L.drop (m + 1))) rfl ?_
            go_must (
              · exact hown2
              · exact (hsuf.out.below_all hb2.out).suf (m + 1) hcc i4
              · exact hcells_one _
              · simp only [maxLen]; omega
              · omega
              · exact hb2.out.size
              intro A3 c3' w3 hown3 hg3 hat3
              have hb3 : Below W2.heap.size W2 w3 := hb2.out.grown hg3 hb2.out.size fun k hk => (hown2.lt k hk).1
              have G4 : w3.cell? ⟨g, 3, none⟩ = some (.slice (some ⟨b, o, none⟩) L.length cL) := (hb3.cell (p := ⟨g, 3, none⟩) hg2).trans c3
              have Q4 : w3.frozen? ⟨g, 3, none⟩ = false := (hb3.frozen (p := ⟨g, 3, none⟩) hg2).trans qg
              have hb3 := hid hb3)))
     all_goals
       go_wp2_with fail
       go_meet
       have hL1 : (L.take m ++ L.drop (m + 1)).length = L.length - 1 := by simp; omega
       refine ⟨A3, c3', ?_, ?_, ?_⟩
       · rw [hL1]
         have hk := ((hr2'.out.blk.below_all hb3.out).set_ 3 (.slice A3 (L.length - 1) c3'))
         simpa using hk
       · rw [hL1, hcells_app]
         exact ownsRow_setCell_below hown3 (by simpa using hg2) _
       · exact (Upd.of_below' hb3.out (fun k => k = g)).setCell (fun _ => rfl) _

  case rest =>
    obtain ⟨A', c', hk3, hown3, hu3⟩ := hcut
    have hr2 := hr2'.out
    have kr3 : Blk wc w.heap.size _ _ := kr2.upd hu3 (by omega)
    have ko3 : Blk wc W1.heap.size _ _ := ko.upd hu3 (by omega)
    have d0 : wc.cell? ⟨g, 0, none⟩ = some (.int .i64 n) := hk3.cell 0
    have d1 : wc.cell? ⟨g, 1, none⟩ = some (.int .i64 e) := hk3.cell 1
    have d2 : wc.cell? ⟨g, 2, none⟩ = some (.int .i64 s) := hk3.cell 2
    have q3 := fun j => hk3.frozen j
    have q4 := fun j => kr3.frozen j
    have r0 : wc.cell? ⟨w.heap.size, 0, none⟩ = some (.int .i64 0) := kr3.cell 0
    have r1 : wc.cell? ⟨w.heap.size, 1, none⟩ = some (.int .i64 0) := kr3.cell 1
    have r2 : wc.cell? ⟨w.heap.size, 2, none⟩ = some (.slice none 0 0) := kr3.cell 2
    have o0 : wc.cell? ⟨W1.heap.size, 0, none⟩ = some (.int .i64 e) := ko3.cell 0
    have o1 : wc.cell? ⟨W1.heap.size, 1, none⟩ = some (.int .i64 s) := ko3.cell 1
    have o2 : wc.cell? ⟨W1.heap.size, 2, none⟩ = some (.slice hv.A hv.rs.length hv.c) := ko3.cell 2
    have g1 : g ≠ w.heap.size := by omega
    have g2 : g ≠ W1.heap.size := by omega
    have g3 : w.heap.size ≠ W1.heap.size := by omega
    clear c0 c1 c2 c3 qg hsuf hpre
    go_wp2_with fail
    have hu03 : Hid (∀ v k, Upd (fun b => b = g) w ((wc.setCell ⟨g, 2, none⟩ v).drewN k)) := fun v k =>
      (((Upd.of_below hB02 (fun k hk hB => absurd hk (by omega))).trans hu3 (fun _ _ h => h)).setCell (p := ⟨g, 2, none⟩) (fun _ => rfl) _).drewN k
    have hfit : ∀ h ∈ L.take m ++ L.drop (m + 1), h ∈ L := by
      intro h hh
      rcases List.mem_append.1 hh with hh | hh
      · exact List.mem_of_mem_take hh
      · exact List.mem_of_mem_drop hh
    have hR : Hid (∀ (wf : World) (e' s' : Int), Blk wf g 57 #[.int .i64 n, .int .i64 e', .int .i64 s', .slice A' (L.take m ++ L.drop (m + 1)).length c'] → (∃ v k, Upd (fun b => b = g ∨ b = w.heap.size) ((wc.setCell ⟨g, 2, none⟩ v).drewN k) wf) → RAt (fun k => S k ∨ W2.heap.size ≤ k ∧ k < wc.heap.size) wf g n e' s' A' c' (L.take m ++ L.drop (m + 1))) := by
      rintro wf e' s' hb ⟨v, k, hu⟩
      have keepX : ∀ b, b ≠ g → b ≠ w.heap.size → b < wc.heap.size → wf.heap[b]? = wc.heap[b]? := fun b h1 h2 h3 => by
        have e1 := hu.block b (by simpa using h3) (by rintro (e | e); exact h1 e; exact h2 e)
        exact e1.trans (Below.heap_setCell wc ⟨g, 2, none⟩ v b h1)
      have hzf : wc.heap.size ≤ wf.heap.size := by have := hu.size; simpa using this
      have hz02 := hB02.size
      have hzs := kr2.lt
      have hz23 := hu3.size
      refine ⟨hb, ?_, ?_, ?_, ?_⟩
      · refine OwnS.keep (w := wc) ⟨own_base (Nat.zero_le _) hown3, fun b hb => .inr (hown3.lt b hb)⟩ fun b hb hl => keepX b ?_ ?_ hl
        · rcases hb with hb | hb
          · exact (hSout.out b hb).1
          · omega
        · rcases hb with hb | hb
          · have := (hSout.out b hb).2; omega
          · omega
      · intro x hx
        have hx2 := hr2.plans x (hfit x hx)
        refine ((hx2.keep (w' := wc) fun b hb hl => hu3.block b hl (hSout.out b hb).1).more (S' := fun k => S k ∨ W2.heap.size ≤ k ∧ k < wc.heap.size) fun b hb _ => .inl hb).keep fun b hb hl => keepX b ?_ ?_ hl
        · rcases hb with hb | hb
          · exact (hSout.out b hb).1
          · omega
        · rcases hb with hb | hb
          · have := (hSout.out b hb).2; omega
          · omega
      · intro k hk
        rcases hk with hk | hk
        · have := hSout.out k hk; exact ⟨this.1, by omega⟩
        · exact ⟨by omega, by omega⟩
      · exact fun x hx => hr2.fits x (hfit x hx)
    have hB02 := hid hB02
    clear hu3 hr2 hown3
    by_cases hsn : s + 1 = n
    · have hd : ((s + 1) == n) = true := by simpa using hsn
      have hsn := hid hsn
      go_quiet (fail)
      go_wp2_with fail
      refine bodyPost_ret (v := .tuple #[.agg #[.int .i64 e, .int .i64 s, .slice hv.A hv.rs.length hv.c], .bool true]) ?_ rfl ⟨e + 1, 0, fun k => S k ∨ W2.heap.size ≤ k ∧ k < wc.heap.size, A', c', .inl ⟨hsn.out, rfl, rfl⟩, fun k hk => hk.imp id (fun h => Nat.le_trans hB02.out.size h.1), rfl, ?_, ?_⟩
      · simp [results, Try.results18, go_sem, r0, r1, r2]
      · rw [h4.out]
        refine hR.out _ _ _ ?_ ⟨.int .i64 n, nq, ?_⟩
        · exact ((((((hk3.set_ 2 _).drewN _).set_ 2 _).set_ 1 _).far g1 _).far g1 _).far g1 _
        · repeat' (refine Upd.setCell ?_ (by intro hk; first | exact .inl rfl | exact .inr rfl) _)
          exact Upd.refl _ _
      · repeat' (refine Upd.setCell ?_ (by intro hk; first | rfl | (simp at hk)) _)
        exact hu03.out _ _
    · have hd : ((s + 1) == n) = false := by simpa using hsn
      have hsn := hid hsn
      go_quiet (fail)
      go_wp2_with fail
      refine bodyPost_ret (v := .tuple #[.agg #[.int .i64 e, .int .i64 s, .slice hv.A hv.rs.length hv.c], .bool true]) ?_ rfl ⟨e, s + 1, fun k => S k ∨ W2.heap.size ≤ k ∧ k < wc.heap.size, A', c', .inr ⟨hsn.out, rfl, rfl⟩, fun k hk => hk.imp id (fun h => Nat.le_trans hB02.out.size h.1), rfl, ?_, ?_⟩
      · simp [results, Try.results18, go_sem, r0, r1, r2]
      · rw [h4.out]
        refine hR.out _ _ _ ?_ ⟨.int .i64 (s + 1), nq, ?_⟩
        · exact (((((hk3.set_ 2 _).drewN _).far g1 _).far g1 _).far g1 _)
        · repeat' (refine Upd.setCell ?_ (by intro hk; first | exact .inl rfl | exact .inr rfl) _)
          exact Upd.refl _ _
      · repeat' (refine Upd.setCell ?_ (by intro hk; first | rfl | (simp at hk)) _)
        exact hu03.out _ _

end Go.Proofs.Ytlnlffpkdeaimaa
