/- live, and the laws of no drawn input: MergeNames. -/
import Derived.Test.YtlnlffpkdeaimaaTake
namespace Go.Proofs.Ytlnlffpkdeaimaa
open Go.RowKit

theorem MergeAt.alloc {w : World} {g mb : Nat} {n e s : Int} {H : List ((Int × Int) × HV)} (h : MergeAt w g mb n e s H) (o : Obj) : MergeAt (w.alloc o) g mb n e s H := h.below ((Below.refl _ _).alloc (Nat.le_refl _) o)
theorem MergeAt.hset {w : World} {g mb : Nat} {n e s : Int} {H : List ((Int × Int) × HV)} (h : MergeAt w g mb n e s H) (p : Addr) (u : Value) (h1 : p.block ≠ g) (h2 : p.block ≠ mb) (h3 : ∀ x ∈ H, ¬ x.2.S p.block) : MergeAt (w.setCell p u) g mb n e s H :=
  h.upd (M := fun k => k = p.block) ((Upd.refl (fun k => k = p.block) w).setCell (fun _ => rfl) u) (fun e => h1 e.symm) (fun e => h2 e.symm) (fun x hx _ hk e => h3 x hx (e ▸ hk))
theorem plans_one {rs : List RP} {r0 : RP} (h : plans rs = plans [r0]) : ∃ r, rs = [r] ∧ r.p = r0.p := by
  cases rs with
  | nil => simp [plans] at h
  | cons r l =>
    cases l with
    | nil => exact ⟨r, rfl, by simpa [plans] using h⟩
    | cons r' l => simp [plans] at h
def rp7 : RP := ⟨⟨0, 0, ⟨#[]⟩, [], 7, [], []⟩, none, 0, none, 0, none, 0⟩

set_option maxRecDepth 100000 in
set_option maxHeartbeats 2000000 in
theorem live_any (w : World) : Calls Try.prog 8 #[] w fun e w' => e = .returned (.bool true) ∧ Below w.heap.size w w' := by
  go_enter Try.func8, Try.ntmps8
  go_wp2_with fail
  refine (mnew_ok 2 _ (by omega) (by omega)).mono ?_
  rintro e w1 ⟨g, mb, rfl, ⟨hg0, hm0⟩, h1, hb1⟩
  go_wp2_with fail
  refine (mnum_any _ _).mono ?_
  rintro e w' ⟨rfl, rfl⟩
  go_wp2_with fail
  have ok7 : PlansOk (fun b => b = w1.heap.size) (w1.alloc (.cells rp7.cells.toArray 71)) (some ⟨w1.heap.size, 0, none⟩) [rp7] := by
    refine ⟨by simpa [pcells] using Rd.new w1 71 7 1 rp7.cells.toArray _ rfl rfl, fun r hr => ?_⟩
    obtain rfl := List.mem_singleton.1 hr
    exact ⟨Rd.nil_, Rd.nil_, Rd.nil_⟩
  have fit7 : ∀ r ∈ [rp7], r.p.fits := fun r hr => by
    obtain rfl := List.mem_singleton.1 hr
    exact ⟨by decide, by decide, by decide⟩
  refine (arrive_new _ g mb 2 0 0 0 1 [] (some ⟨w1.heap.size, 0, none⟩) 1 [rp7] _ (h1.alloc _) (by omega) (by omega) ok7 (by decide) fit7 (by omega) (by omega) (by omega) rfl (by omega) rfl).mono ?_
  rintro e w2 ⟨⟨A1, c1, rs1, S1⟩, ⟨hp1, hS1⟩, rfl, h2, hu2⟩
  obtain ⟨r7, rfl, hr70⟩ := plans_one hp1
  have hr7 := hid hr70
  clear hp1 ok7 fit7 hr70
  go_wp2_with fail
  refine (mnum_any _ _).mono ?_
  rintro e w' ⟨rfl, rfl⟩
  go_wp2_with fail
  refine (take_no g mb 2 0 0 _ _ h2 rfl).mono ?_
  rintro e w3 ⟨rfl, hb3⟩
  go_wp2_with fail
  have h3 := (h2.below hb3).alloc (.cells #[.int .i64 0, .int .i64 0, .slice none 0 0] 42)
  refine (arrive_new Nil g mb 2 0 0 0 0 _ none 0 [] _ h3 (by omega) (by omega) ⟨Rd.nil_, by simp⟩ (by decide) (by simp) (by omega) (by omega) (by omega) rfl (by omega) rfl).mono ?_
  rintro e w4 ⟨⟨A2, c2, rs2, S2⟩, ⟨hp2, hS2⟩, rfl, h4, hu4⟩
  obtain rfl : rs2 = [] := by simpa [plans] using hp2
  clear hp2
  go_wp2_with fail
  refine (take_yes g mb 2 0 0 _ ⟨A2, c2, [], S2⟩ _ h4 rfl (by omega) (by omega) (by omega) (by omega)).mono ?_
  rintro e w5 ⟨e5, s5, hc5, rfl, h5, hu5⟩
  obtain ⟨rfl, rfl⟩ : e5 = 0 ∧ s5 = 1 := by omega
  go_wp2_with fail
  have h6 := h5.alloc (.cells #[.int .i64 0, .int .i64 0, .slice A2 0 c2] 42)
  refine (take_yes g mb 2 0 1 _ ⟨A1, c1, [r7], S1⟩ _ h6 rfl (by omega) (by omega) (by omega) (by omega)).mono ?_
  rintro e w7 ⟨e7, s7, hc7, rfl, h7, hu7⟩
  go_wp2_with fail
  have hps0 := (h6.plans ((0, 1), ⟨A1, c1, [r7], S1⟩) (by simp [delA])).keep (w' := w7) fun b hb hl => hu7.block b hl (by
    have := h6.out ((0, 1), ⟨A1, c1, [r7], S1⟩) (by simp [delA]) b hb
    rintro (e | e)
    · exact this.1 e
    · exact this.2.1 e)
  have hps := hps0.keep (w' := w7.alloc (.cells #[.int .i64 0, .int .i64 1, .slice A1 1 c1] 42)) fun b _ hl => Below.heap_alloc _ _ _ hl
  obtain ⟨b, o, hA, _, hb, _, _, _, _, _, a4, _, _⟩ := hps.ok'.at_ (k := 0) (by simp)
  obtain rfl : A1 = some ⟨b, o, none⟩ := hA
  have e7 : r7.p.how = 7 := by rw [hr7.out]; rfl
  simp only [List.getElem_cons_zero, Nat.zero_mul, Nat.add_zero, e7] at a4
  have hg5 : g < w5.heap.size := h5.blk.lt
  have hm5 : mb < w5.heap.size := h5.map.lt
  have hk5 : Blk w7 w5.heap.size 42 #[.int .i64 0, .int .i64 0, .slice A2 0 c2] := (Blk.new w5 _ _).upd hu7 (by rintro (e | e) <;> omega)
  have hk5' := hk5.alloc (.cells #[.int .i64 0, .int .i64 1, .slice (some ⟨b, o, none⟩) 1 c1] 42)
  have hk7 := Blk.new w7 42 #[.int .i64 0, .int .i64 1, .slice (some ⟨b, o, none⟩) 1 c1]
  have x1 : (w7.alloc (.cells #[.int .i64 0, .int .i64 1, .slice (some ⟨b, o, none⟩) 1 c1] 42)).cell? ⟨w5.heap.size, 1, none⟩ = some (.int .i64 0) := hk5'.cell 1
  have x2 : (w7.alloc (.cells #[.int .i64 0, .int .i64 1, .slice (some ⟨b, o, none⟩) 1 c1] 42)).cell? ⟨w7.heap.size, 1, none⟩ = some (.int .i64 1) := hk7.cell 1
  have x3 : (w7.alloc (.cells #[.int .i64 0, .int .i64 1, .slice (some ⟨b, o, none⟩) 1 c1] 42)).cell? ⟨w7.heap.size, 2, none⟩ = some (.slice (some ⟨b, o, none⟩) 1 c1) := hk7.cell 2
  have hz1 := hb1.size
  have hz2 := hu2.size
  have hz3 := hb3.size
  have hz4 := hu4.size
  have hz5 := hu5.size
  have hz7 := hu7.size
  simp only [World.size_alloc] at hz1 hz2 hz3 hz4 hz5 hz7
  have hfin : Upd (fun k => k = g ∨ k = mb) w1 (w7.alloc (.cells #[.int .i64 0, .int .i64 1, .slice (some ⟨b, o, none⟩) 1 c1] 42)) := by
    refine Upd.alloc ?_ _
    refine Upd.trans ?_ hu7 (fun _ _ h => h)
    refine Upd.alloc ?_ _
    refine Upd.trans ?_ hu5 (fun _ _ h => h)
    refine Upd.trans ?_ (hu4.mono (M' := fun k => k = g ∨ k = mb) fun _ _ h => .inr h) (fun _ _ h => h)
    refine Upd.alloc ?_ _
    refine Upd.trans ?_ (Upd.of_below' hb3 (fun k => k = g ∨ k = mb)) (fun _ _ h => h)
    refine Upd.trans ?_ (hu2.mono (M' := fun k => k = g ∨ k = mb) fun _ _ h => .inr h) (fun _ _ h => h)
    exact (Upd.refl _ _).alloc _
  have hB : Below w.heap.size w (w7.alloc (.cells #[.int .i64 0, .int .i64 1, .slice (some ⟨b, o, none⟩) 1 c1] 42)) :=
    hb1.trans (hfin.below hz1 fun k hk e => by rcases e with e | e <;> omega)
  clear hfin hps hps0 hk5 hk5' hk7 h1 h2 h3 h4 h5 h6 h7 hu2 hu4 hu5 hu7 hb1 hb3 hc5 hc7
  refine (mnum_any _ _).mono ?_
  rintro e w' ⟨rfl, rfl⟩
  go_wp2_with fail
  go_ret
  exact ⟨rfl, hB⟩

theorem names_any (w : World) : Calls Try.prog 3 #[] w fun e w' => e = .returned (.bool true) ∧ Below w.heap.size w w' := by
  go_enter Try.func3, Try.ntmps3
  go_wp2_with (first
    | (go_at_call 7; refine (mnum_any _ _).mono ?_; rintro e w' ⟨rfl, rfl⟩)
    | (go_at_call 8; refine (live_any _).mono ?_; rintro e w1 ⟨rfl, hb⟩))
  go_ret
  exact ⟨rfl, hb⟩

end Go.Proofs.Ytlnlffpkdeaimaa
