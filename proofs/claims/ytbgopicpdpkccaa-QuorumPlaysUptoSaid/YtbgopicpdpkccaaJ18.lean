/- Texts of the proof, joined: GRDrop. -/
import Derived.Test.YtbgopicpdpkccaaJ12
namespace Go.Proofs.Ytbgopicpdpkccaa
open Go.RowKit
set_option linter.unusedVariables false
set_option linter.unusedSimpArgs false

theorem mcells_take (L : List Ml) (m : Nat) : (mcells L).take (m * 9) = mcells (L.take m) := by
  induction L generalizing m with
  | nil => simp [mcells]
  | cons p l ih =>
    cases m with
    | zero => simp [mcells]
    | succ m =>
      have := ih m
      simp only [mcells, List.flatMap_cons, List.take_succ_cons] at this ⊢
      rw [show (m + 1) * 9 = (p.cells).length + m * 9 by simp [Ml.cells]; omega, List.take_length_add_append, this]
theorem mcells_drop (L : List Ml) (m : Nat) : (mcells L).drop (m * 9) = mcells (L.drop m) := by
  induction L generalizing m with
  | nil => simp [mcells]
  | cons p l ih =>
    cases m with
    | zero => simp
    | succ m =>
      have := ih m
      simp only [mcells, List.flatMap_cons, List.drop_succ_cons] at this ⊢
      rw [show (m + 1) * 9 = (p.cells).length + m * 9 by simp [Ml.cells]; omega, List.drop_length_add_append, this]
theorem Rd.preM {S : Nat → Prop} {w : World} {b o : Nat} {L : List Ml} (h : Rd S w 9 (some ⟨b, o, none⟩) L.length (mcells L)) (m : Nat) (hm : m ≤ L.length) : Rd S w 9 (some ⟨b, o, none⟩) m (mcells (L.take m)) := by
  rw [← mcells_take]
  refine ⟨by rw [List.length_take, h.1]; omega, fun h0 => ?_⟩
  obtain ⟨b', o', e, hS, hl, hc⟩ := h.2 (by omega)
  refine ⟨b', o', e, hS, hl, fun j u hu => hc j u ?_⟩
  rw [List.getElem?_take] at hu
  split at hu
  · exact hu
  · cases hu
theorem Rd.sufM {S : Nat → Prop} {w : World} {b o : Nat} {L : List Ml} (h : Rd S w 9 (some ⟨b, o, none⟩) L.length (mcells L)) (m : Nat) : Rd S w 9 (some ⟨b, o + m * 9, none⟩) (L.length - m) (mcells (L.drop m)) := by
  rw [← mcells_drop]
  refine ⟨by rw [List.length_drop, h.1, Nat.sub_mul], fun h0 => ?_⟩
  obtain ⟨b', o', e, hS, hl, hcc⟩ := h.2 (by omega)
  injection e with e
  injection e with e1 e2 _
  subst e1; subst e2
  refine ⟨b, o + m * 9, rfl, hS, hl, fun j u hu => ?_⟩
  rw [List.getElem?_drop] at hu
  have := hcc _ u hu
  rwa [← Nat.add_assoc] at this
section
variable {S : Nat → Prop} {w : World} {r : Nat} {G : Gr}
set_option maxRecDepth 100000 in
set_option maxHeartbeats 4000000 in
theorem rdrop_yes (m : Nat) (h : RAt S w r G) (hm : m < G.mail.length) (hl : G.mail.length ≤ 100000) : Calls Try.prog 46 #[.pointer (some ⟨r, 0, none⟩), .int .i64 m] w fun e w' => e = .returned (.bool true) ∧ RGo S w r (G.gone m) w' := by
  obtain ⟨An, cn, Am, cL, a, q⟩ := h
  have hSlt := q.lt
  have hfin : ∀ A3 c3' w3, Below w.heap.size w w3 → w3.ownsRow w.heap.size 78 9 (.slice A3 (G.mail.length - 1) c3') (G.mail.length - 1) (mcells (G.mail.take m ++ G.mail.drop (m + 1))) → RGo S w r (G.gone m) (w3.setCell ⟨r, 1, none⟩ (.slice A3 (G.mail.length - 1) c3')) := by
    intro A3 c3' w3 hb ho
    have hl1 : (G.mail.take m ++ G.mail.drop (m + 1)).length = G.mail.length - 1 := by simp; omega
    have hgl := q.blk.lt
    have hu : Upd (fun k => k = r) w (w3.setCell ⟨r, 1, none⟩ (.slice A3 (G.mail.length - 1) c3')) := (Upd.of_below' hb (fun k => k = r)).setCell (p := ⟨r, 1, none⟩) (fun _ => rfl) _
    have hrow2 := ownsRow_setCell_below ho (a := ⟨r, 1, none⟩) hgl (.slice A3 (G.mail.length - 1) c3')
    have hblk := (q.blk.below_all hb).set_ 1 (.slice A3 (G.mail.length - 1) c3')
    have hsz : (w3.setCell ⟨r, 1, none⟩ (.slice A3 (G.mail.length - 1) c3')).heap.size = w3.heap.size := by simp
    have hz := hb.size
    refine ⟨fun k => S k ∨ w.heap.size ≤ k ∧ k < w3.heap.size, ⟨_, _, A3, c3', a, q.post hu (fun k hk => .inl hk) (fun k h => .inl h) (fun k hk => ?_) (by rw [hl1]; exact hblk) ?_⟩, fun k h => h.imp id (·.1), hu.mono fun k _ h => h ▸ q.inS⟩
    · rw [hsz]
      rcases hk with hk | hk
      · have := hSlt k hk; omega
      · exact hk.2
    · rw [hl1]
      exact ⟨own_base (Nat.zero_le _) hrow2, fun k hk => .inr (by have := ho.lt k hk; omega)⟩
  have hfin := hid hfin
  obtain ⟨c0, c1⟩ := q.cells
  have qg := q.blk.frozen 1
  have hg2 := q.blk.lt
  obtain ⟨b, cur, rfl, hbk⟩ := own_formS q.mrow.1 (by omega)
  have hrd := q.mrow.rd
  have hbl := hbk.lt
  have hpre := hrd.preM m (by omega)
  have hsuf := hid hrd
  obtain ⟨ip, hip, hp0, hp1, hp2⟩ := info_parts info_mail
  have i4 : G.mail.length ≤ cL := by obtain ⟨_, _, hq, h1, _⟩ := own_form q.mrow.1; simp at hq; omega
  have i2 : m ≤ cL := by omega
  have i3 : m + 1 ≤ G.mail.length := by omega
  have hw1 : IntKind.i64.wrap ((m : Int) + 1) = (m : Int) + 1 := IntWalk.i64_in _ (by omega)
  have j1 : (0 : Int) ≤ (m : Int) + 1 := by omega
  have j2 : (m : Int) + 1 ≤ (G.mail.length : Int) := by omega
  have i1 : (m : Int) < (G.mail.length : Int) := by omega
  have hm2 : ¬ G.mail.length ≤ m := by omega
  clear q hrd c0 hbk hSlt
  go_enter Try.func46, Try.ntmps46
  by_cases hcc : cL = m + 1
  · obtain rfl := hcc
    have i5 : G.mail.length ≤ m + 1 := i4
    have j3 : (m : Int) ≤ (m : Int) + 1 := by omega
    have j4 : m ≤ m + 1 := by omega
    go_upto_region 3 with fail
    go_region_law
      (first
        | (refine step_append_rd _ rfl (.tmp 17) (.tmp 23) 58 rfl w.heap.size 78 ip _ 9 80 Try.underlying58 hip hp0 hp1 hp2 rfl (by omega) (.slice (some ⟨w.heap.size, 0, none⟩) 0 0) 0 [] rfl ?_ S (some ⟨b, 0, none⟩) m (m + 1) (mcells (G.mail.take m)) rfl ?_ ?_ ?_ ?_ ?_ m (Nat.zero_add m) (mcells (G.mail.take m)) rfl ?_
           go_must (
             · exact World.ownsRow.drew (own_empty w _ 9)
             · exact (hpre.alloc _).drew
             · exact mcells_one _
             · simp only [maxLen]; omega
             · omega
             · simp
             intro A2 c2 w2 hown2 hg2' hat2
             have hb2' : Below w.heap.size w w2 := (((Below.refl _ w).alloc (Nat.le_refl _) (.cells #[] 78)).drew).grown hg2' (by simp) fun k hk => Nat.le_of_eq (by simpa [Value.ownBlock] using hk)
             have G3 : w2.cell? ⟨r, 1, none⟩ = some (.slice (some ⟨b, 0, none⟩) G.mail.length (m + 1)) := (hb2'.cell (p := ⟨r, 1, none⟩) hg2).trans c1
             have hb2 := hid hb2'
             clear hg2' hb2'))
        | (refine step_append_rd w2 rfl (.tmp 24) (.tmp 31) 58 rfl w.heap.size 78 ip _ 9 80 Try.underlying58 hip hp0 hp1 hp2 rfl (by omega) (.slice A2 m c2) m (mcells (G.mail.take m)) rfl ?_ S (some ⟨b, 0, none⟩) 0 0 (mcells (G.mail.drop (m + 1))) rfl ?_ ?_ ?_ ?_ ?_ (G.mail.length - 1) (by omega) (mcells (G.mail.take m) ++ mcells (G.mail.drop (m + 1))) rfl ?_
           go_must (
             · exact hown2
             · exact ⟨by rw [List.drop_eq_nil_of_le (by omega)]; rfl, fun h => absurd h (by omega)⟩
             · exact mcells_one _
             · simp only [maxLen]; omega
             · omega
             · exact hb2.out.size
             intro A3 c3' w3 hown3 hg3 hat3
             have hb3' : Below w.heap.size w w3 := hb2.out.grown hg3 hb2.out.size fun k hk => (hown2.lt k hk).1
             have G4 : w3.cell? ⟨r, 1, none⟩ = some (.slice (some ⟨b, 0, none⟩) G.mail.length (m + 1)) := (hb3'.cell (p := ⟨r, 1, none⟩) hg2).trans c1
             have Q4 : w3.frozen? ⟨r, 1, none⟩ = false := (hb3'.frozen (p := ⟨r, 1, none⟩) hg2).trans qg
             have hb3 := hid hb3'
             clear hb3')))
    all_goals
      go_wp2_with fail
      go_ret
      exact ⟨rfl, hfin.out _ _ _ hb3.out (by rw [← mcells_app] at hown3; exact hown3)⟩
  · go_upto_region 3 with fail
    go_region_law
      (first
        | (refine step_append_rd _ rfl (.tmp 17) (.tmp 23) 58 rfl w.heap.size 78 ip _ 9 80 Try.underlying58 hip hp0 hp1 hp2 rfl (by omega) (.slice (some ⟨w.heap.size, 0, none⟩) 0 0) 0 [] rfl ?_ S (some ⟨b, 0, none⟩) m cL (mcells (G.mail.take m)) rfl ?_ ?_ ?_ ?_ ?_ m (Nat.zero_add m) (mcells (G.mail.take m)) rfl ?_
           go_must (
             · exact World.ownsRow.drew (own_empty w _ 9)
             · exact (hpre.alloc _).drew
             · exact mcells_one _
             · simp only [maxLen]; omega
             · omega
             · simp
             intro A2 c2 w2 hown2 hg2' hat2
             have hb2' : Below w.heap.size w w2 := (((Below.refl _ w).alloc (Nat.le_refl _) (.cells #[] 78)).drew).grown hg2' (by simp) fun k hk => Nat.le_of_eq (by simpa [Value.ownBlock] using hk)
             have G3 : w2.cell? ⟨r, 1, none⟩ = some (.slice (some ⟨b, 0, none⟩) G.mail.length cL) := (hb2'.cell (p := ⟨r, 1, none⟩) hg2).trans c1
             have hb2 := hid hb2'
             clear hg2' hb2'))
        | (refine step_append_rd w2 rfl (.tmp 24) (.tmp 31) 58 rfl w.heap.size 78 ip _ 9 80 Try.underlying58 hip hp0 hp1 hp2 rfl (by omega) (.slice A2 m c2) m (mcells (G.mail.take m)) rfl ?_ S (some ⟨b, (m + 1) * 9, none⟩) (G.mail.length - (m + 1)) (cL - (m + 1)) (mcells (G.mail.drop (m + 1))) rfl ?_ ?_ ?_ ?_ ?_ (G.mail.length - 1) (by omega) (mcells (G.mail.take m) ++ mcells (G.mail.drop (m + 1))) rfl ?_
           go_must (
             · exact hown2
             · exact (by have := (hsuf.out.below_all hb2.out).sufM (m + 1); rwa [Nat.zero_add] at this)
             · exact mcells_one _
             · simp only [maxLen]; omega
             · omega
             · exact hb2.out.size
             intro A3 c3' w3 hown3 hg3 hat3
             have hb3' : Below w.heap.size w w3 := hb2.out.grown hg3 hb2.out.size fun k hk => (hown2.lt k hk).1
             have G4 : w3.cell? ⟨r, 1, none⟩ = some (.slice (some ⟨b, 0, none⟩) G.mail.length cL) := (hb3'.cell (p := ⟨r, 1, none⟩) hg2).trans c1
             have Q4 : w3.frozen? ⟨r, 1, none⟩ = false := (hb3'.frozen (p := ⟨r, 1, none⟩) hg2).trans qg
             have hb3 := hid hb3'
             clear hb3')))
    all_goals
      go_wp2_with fail
      go_ret
      exact ⟨rfl, hfin.out _ _ _ hb3.out (by rw [← mcells_app] at hown3; exact hown3)⟩
theorem rdrop_ex (k : Int) (h : RAt S w r G) (hl : G.mail.length ≤ 100000) : Calls Try.prog 46 #[.pointer (some ⟨r, 0, none⟩), .int .i64 k] w fun e w' => e = .returned (.bool (G.inB k)) ∧ RGo S w r (G.drop k) w' := by
  unfold Gr.drop Gr.inB
  by_cases h1 : 0 ≤ k ∧ k < G.mail.length
  · obtain ⟨j, rfl⟩ := Int.eq_ofNat_of_zero_le h1.1
    have hj : j < G.mail.length := by omega
    rw [if_pos h1, decide_eq_true h1, Int.toNat_natCast]
    exact rdrop_yes j h hj hl
  · rw [if_neg h1, decide_eq_false h1]
    exact (rdrop_no k h (by omega)).mono fun e w' ⟨he, hw⟩ => ⟨he, by subst hw; exact RGo.stay h⟩
end

end Go.Proofs.Ytbgopicpdpkccaa

