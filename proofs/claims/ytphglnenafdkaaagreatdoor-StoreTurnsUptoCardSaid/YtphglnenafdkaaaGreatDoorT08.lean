/- Texts of the proof, joined: SOwn, SStory, SView, SEq, SLive, SRApply, SRDump. -/
import Derived.Test.YtphglnenafdkaaaGreatDoorT05
import Derived.Test.YtphglnenafdkaaaGreatDoorT07
import Derived.Test.YtphglnenafdkaaaGreatDoorT06
namespace Go.Proofs.YtphglnenafdkaaaGreatDoor
open Go.RowKit
set_option linter.unusedVariables false
set_option linter.unusedSimpArgs false

theorem info_str4 : (Tryz.prog.info? 9).map (fun i => (i.zero, i.size, i.bytes)) = some (some (.string ⟨#[]⟩), 1, 16) := by kernel_rfl
theorem info_write : (Tryz.prog.info? 40).map (fun i => (i.zero, i.size, i.bytes)) = some (some (.agg #[.string ⟨#[]⟩, .bool false, .int .i64 0, .int .i64 0, .string ⟨#[]⟩]), 5, 56) := by kernel_rfl
theorem strs_one (ks : List ByteArray) : ∀ v ∈ strs ks, v.oneCell' = true := by
  intro v hv
  obtain ⟨x, _, rfl⟩ := List.mem_map.1 hv
  rfl
theorem wrCells_one (ws : List Wr) : ∀ v ∈ wrCells ws, v.oneCell' = true := by
  intro v hv
  obtain ⟨x, _, hx⟩ := List.mem_flatMap.1 hv
  simp only [List.mem_cons, List.not_mem_nil, or_false] at hx
  rcases hx with rfl | rfl | rfl | rfl | rfl <;> rfl
theorem wrCells_len (ws : List Wr) : (wrCells ws).length = ws.length * 5 := by
  unfold wrCells
  induction ws with
  | nil => rfl
  | cons x l ih => rw [List.flatMap_cons, List.length_append, ih]; simp; omega
/-- a row's first n -/
theorem Rd.pre_own {w : World} {base : Nat} {e : TypeId} {size n c : Nat} {A : Option Addr} {xs ys : List Value} (h : w.ownsRow base e size (.slice A (n + 1) c) (n + 1) (xs ++ ys)) (hx : xs.length = n * size) : Rd (fun b => base ≤ b) w size A n xs := by
  have h1 := Rd.of_own' h
  refine ⟨hx, fun hn => ?_⟩
  obtain ⟨b, o, e1, hS, hl, hc⟩ := h1.2 (by omega)
  refine ⟨b, o, e1, hS, hl, fun j u hu => hc j u ?_⟩
  rw [List.getElem?_append_left (List.getElem?_eq_some_iff.1 hu).1]
  exact hu
section
variable {w w' : World}
set_option maxRecDepth 100000 in
set_option maxHeartbeats 4000000 in
theorem own_any {Sx : Nat → Prop} (a : SA) (h : a.ok Sx w) (h1 : a.ks.length ≤ 100000) (h2 : a.ws.length ≤ 100000) : Calls Tryz.prog 16 #[.agg #[.int .i64 a.kind, .slice a.A1 a.ks.length a.c1, .slice a.A2 a.ws.length a.c2]] w fun e w' => ∃ B1 d1 B2 d2, e = .returned (.agg #[.int .i64 a.kind, .slice B1 a.ks.length d1, .slice B2 a.ws.length d2]) ∧ Rd (fun b => w.heap.size ≤ b) w' 1 B1 a.ks.length (strs a.ks) ∧ Rd (fun b => w.heap.size ≤ b) w' 5 B2 a.ws.length (wrCells a.ws) ∧ Below w.heap.size w w' := by
  have hb0 : Below w.heap.size w ((w.alloc (.cells #[.int .i64 a.kind, .slice a.A1 a.ks.length a.c1, .slice a.A2 a.ws.length a.c2] 51)).alloc (.cells #[.int .i64 0, .slice none 0 0, .slice none 0 0] 51)) := below_two _ _
  have k1 : Blk ((w.alloc (.cells #[.int .i64 a.kind, .slice a.A1 a.ks.length a.c1, .slice a.A2 a.ws.length a.c2] 51)).alloc (.cells #[.int .i64 0, .slice none 0 0, .slice none 0 0] 51)) w.heap.size 51 #[.int .i64 a.kind, .slice a.A1 a.ks.length a.c1, .slice a.A2 a.ws.length a.c2] := (Blk.new w _ _).alloc _
  have k2 : Blk ((w.alloc (.cells #[.int .i64 a.kind, .slice a.A1 a.ks.length a.c1, .slice a.A2 a.ws.length a.c2] 51)).alloc (.cells #[.int .i64 0, .slice none 0 0, .slice none 0 0] 51)) (w.heap.size + 1) 51 #[.int .i64 0, .slice none 0 0, .slice none 0 0] := Blk.new' _ _ _ (by simp)
  have hB := hid hb0
  have K1 := hid k1
  have K2 := hid k2
  have hk5 := hid (h.1.all.below_all hb0)
  have hw5 := hid (h.2.all.below_all hb0)
  have hn1 := hid h1
  have hn2 := hid h2
  clear hb0 k1 k2 h h1 h2
  go_enter Tryz.func16, Tryz.ntmps16
  go_upto_region 1 with fail
  generalize (w.alloc (.cells #[.int .i64 a.kind, .slice a.A1 a.ks.length a.c1, .slice a.A2 a.ws.length a.c2] 51)).alloc (.cells #[.int .i64 0, .slice none 0 0, .slice none 0 0] 51) = w5 at *
  generalize hm : w.heap.size = m at *
  go_cut [] (fun wx => ∃ (A3 : Option Addr) (c3 : Nat) (w3 : World), w3.ownsRow w5.heap.size 9 1 (.slice A3 (a.ks.length + 1) c3) (a.ks.length + 1) (strs a.ks ++ #[.string ⟨#[98, 101, 104, 105, 110, 100]⟩].toList) ∧ Below w5.heap.size w5 w3 ∧ wx = w3.setCell ⟨m, 1, none⟩ (.slice A3 a.ks.length c3))
  case first =>
    have hrd := hk5
    have hnb := hn1
    have hone := hid (strs_one a.ks)
    obtain ⟨ip, hip, hp0, hp1, hp2⟩ := info_parts info_str4
    have hkeep : Hid (∀ w', Below w5.heap.size w5 w' → w'.cell? ⟨m, 1, none⟩ = some (.slice a.A1 a.ks.length a.c1)) := hid fun w' h => (K1.out.below_all h).cell 1
    have fq : Hid (∀ w', Below w5.heap.size w5 w' → w'.frozen? ⟨m, 1, none⟩ = false) := hid fun w' h => (K1.out.below_all h).frozen 1
    have hHeld := hkeep.out w5.drew (Below.refl _ _).drew
    refine wp_region_heldE (S := fun w' => w'.cell? ⟨m, 1, none⟩ = some (.slice a.A1 a.ks.length a.c1)) 11 (by kernel_rfl) ?_
    refine wpAnyE_take [2, 3, 5, 9, 10, 11] (i := 1) (v := ?v7) rfl (by kernel_rfl) (by kernel_rfl) (by kernel_rfl) (by rfl) (by kernel_rfl) (by kernel_rfl) (fun _ _ _ h => h) (Or.inl ⟨by rfl, ?hy7⟩) (hHeld) ?rest7
    case hy7 => intro w hSw; (try dsimp only at hSw); go_simp; try with_reducible rfl
    (try simp only [Act.put, List.setIfInBounds_toArray, List.set_cons_zero, List.set_cons_succ, List.getElem_toArray, List.getElem_cons_zero, List.getElem_cons_succ])
    refine wpAnyE_take [3, 5, 9, 10, 11] (i := 2) (v := ?v8) rfl (by kernel_rfl) (by kernel_rfl) (by kernel_rfl) (by rfl) (by kernel_rfl) (by kernel_rfl) (fun _ _ _ h => h) (Or.inl ⟨by rfl, ?hy8⟩) (hHeld) ?rest8
    case hy8 => intro w hSw; (try dsimp only at hSw); go_simp; try with_reducible rfl
    (try simp only [Act.put, List.setIfInBounds_toArray, List.set_cons_zero, List.set_cons_succ, List.getElem_toArray, List.getElem_cons_zero, List.getElem_cons_succ])
    refine wpAnyE_take [7, 8, 9, 10, 11] (i := 6) (v := ?v9) rfl (by kernel_rfl) (by kernel_rfl) (by kernel_rfl) (by rfl) (by kernel_rfl) (by kernel_rfl) (fun _ _ _ h => h) (Or.inl ⟨by rfl, ?hy9⟩) (hHeld) ?rest9
    case hy9 => intro w hSw; (try dsimp only at hSw); go_simp; try with_reducible rfl
    (try simp only [Act.put, List.setIfInBounds_toArray, List.set_cons_zero, List.set_cons_succ, List.getElem_toArray, List.getElem_cons_zero, List.getElem_cons_succ])
    refine wpAnyE_take [8, 9, 10, 11] (i := 7) (v := ?v10) rfl (by kernel_rfl) (by kernel_rfl) (by kernel_rfl) (by rfl) (by kernel_rfl) (by kernel_rfl) (fun _ _ _ h => h) (Or.inl ⟨by rfl, ?hy10⟩) (hHeld) ?rest10
    case hy10 => intro w hSw; (try dsimp only at hSw); go_simp; try with_reducible rfl
    (try simp only [Act.put, List.setIfInBounds_toArray, List.set_cons_zero, List.set_cons_succ, List.getElem_toArray, List.getElem_cons_zero, List.getElem_cons_succ])
    refine wpAnyE_take [9, 10, 11] (i := 8) (v := ?v11) rfl (by kernel_rfl) (by kernel_rfl) (by kernel_rfl) (by rfl) (by kernel_rfl) (by kernel_rfl) (fun _ _ _ h => h) (Or.inl ⟨by rfl, ?hy11⟩) (hHeld) ?rest11
    case hy11 => intro w hSw; (try dsimp only at hSw); go_simp; try with_reducible rfl
    (try simp only [Act.put, List.setIfInBounds_toArray, List.set_cons_zero, List.set_cons_succ, List.getElem_toArray, List.getElem_cons_zero, List.getElem_cons_succ])
    refine wpAnyE_ready (rs := [0, 4]) (by kernel_rfl) (by simp) ?_
    refine AllReadyE.cons rfl (fun K hK => ?_) (AllReadyE.cons rfl (fun K hK => ?_) AllReadyE.nil)
    · go_simp
      refine hK.out _ _ (fun _ => hkeep.out _ (((Below.refl _ w5).alloc (Nat.le_refl _) _).drew)) ?_
      clear hK K
      (try simp only [Act.put, List.setIfInBounds_toArray, List.set_cons_zero, List.set_cons_succ, List.getElem_toArray, List.getElem_cons_zero, List.getElem_cons_succ])
      refine wpAnyE_ready (rs := [3, 4]) (by kernel_rfl) (by simp) ?_
      refine AllReadyE.cons rfl (fun K hK => ?_) (AllReadyE.cons rfl (fun K hK => ?_) AllReadyE.nil)
      · refine step_append_rd _ rfl (.tmp 3) (.tmp 5) 25 rfl w5.heap.size 9 ip _ 1 16 Tryz.underlying25 hip hp0 hp1 hp2 rfl (by omega) (.slice (some ⟨w5.heap.size, 0, none⟩) 0 0) 0 [] rfl ?_ (fun b => b < m) a.A1 a.ks.length a.c1 (strs a.ks) rfl ?_ ?_ ?_ ?_ ?_ a.ks.length (Nat.zero_add _) (strs a.ks) rfl ?_
        · exact (own_empty w5 _ 1).drew
        · exact hrd.out.below_all (((Below.refl _ w5).alloc (Nat.le_refl _) (.cells #[] 9)).drew)
        · exact hone.out
        · have := hnb.out; simp only [maxLen]; omega
        · have := hnb.out; omega
        · exact below_sz (((Below.refl _ w5).alloc (Nat.le_refl _) (.cells #[] 9)).drew)
        intro A2 c2 w2 hown2 hg2 hat2
        have hbA : Hid (Below w5.heap.size w5 w2) := hid (below_gr (((Below.refl _ w5).alloc (Nat.le_refl _) (.cells #[] 9)).drew) hg2 (fun k hk => by simp [Value.ownBlock] at hk; omega))
        clear hg2 hat2
        refine hK.out _ _ (fun _ => hkeep.out _ hbA.out) ?_
        clear hK K
        (try simp only [Act.put, List.setIfInBounds_toArray, List.set_cons_zero, List.set_cons_succ, List.getElem_toArray, List.getElem_cons_zero, List.getElem_cons_succ])
        refine wpAnyE_ready (rs := [4]) (by kernel_rfl) (by simp) ?_
        refine AllReadyE.cons rfl (fun K hK => ?_) AllReadyE.nil
        go_simp
        refine hK.out _ _ (fun _ => hkeep.out _ (below_al hbA.out _)) ?_
        clear hK K
        (try simp only [Act.put, List.setIfInBounds_toArray, List.set_cons_zero, List.set_cons_succ, List.getElem_toArray, List.getElem_cons_zero, List.getElem_cons_succ])
        refine wpAnyE_ready (rs := [5]) (by kernel_rfl) (by simp) ?_
        refine AllReadyE.cons rfl (fun K hK => ?_) AllReadyE.nil
        refine step_append_rd _ rfl (.tmp 6) (.tmp 7) 25 rfl w5.heap.size 9 ip _ 1 16 Tryz.underlying25 hip hp0 hp1 hp2 rfl (by omega) (.slice A2 a.ks.length c2) a.ks.length (strs a.ks) rfl ?_ (fun b => b = w2.heap.size) (some ⟨w2.heap.size, 0, none⟩) 1 1 #[.string ⟨#[98, 101, 104, 105, 110, 100]⟩].toList rfl ?_ ?_ ?_ ?_ ?_ (a.ks.length + 1) rfl ((strs a.ks) ++ #[.string ⟨#[98, 101, 104, 105, 110, 100]⟩].toList) rfl ?_
        · exact hown2.alloc _
        · exact Rd.new w2 9 1 1 #[.string ⟨#[98, 101, 104, 105, 110, 100]⟩] w2.heap.size rfl rfl
        · intro v hv; simp at hv; rcases hv with rfl <;> rfl
        · have := hnb.out; simp only [maxLen]; omega
        · have := hnb.out; omega
        · exact below_sz (below_al hbA.out _)
        intro A3 c3 w3 hown3 hg3 hat3
        have hbB : Hid (Below w5.heap.size w5 w3) := hid (below_gr (below_al hbA.out _) hg3 (fun k hk => (hown2.lt k hk).1))
        obtain ⟨A9, c9, he9, hc9, hm9⟩ := own_form hown3
        injection he9 with e1 e2 e3
        subst e1; subst e3
        have j1 : ((a.ks.length : Nat) : Int) ≤ (c3 : Int) := by omega
        have j2 : a.ks.length ≤ c3 := by omega
        have j3 : (c3 : Int) ≤ 9223372036854775807 := by simp only [maxLen] at hm9; omega
        have r4 : w3.cell? ⟨m, 1, none⟩ = some (.slice a.A1 a.ks.length a.c1) := hkeep.out _ hbB.out
        have q4 := fq.out _ hbB.out
        have hO3 := hid hown3
        clear hg3 hat3 hown3 hown2
        refine hK.out _ _ (fun _ => hkeep.out _ hbB.out) ?_
        clear hK K
        (try simp only [Act.put, List.setIfInBounds_toArray, List.set_cons_zero, List.set_cons_succ, List.getElem_toArray, List.getElem_cons_zero, List.getElem_cons_succ])
        refine wpAnyE_take [10, 11] (i := 9) (v := ?v1) rfl (by kernel_rfl) (by kernel_rfl) (by kernel_rfl) (by rfl) (by kernel_rfl) (by kernel_rfl) (fun _ _ _ h => h) (Or.inl ⟨by rfl, ?hy1⟩) (hkeep.out _ hbB.out) ?rest1
        case hy1 => intro w hSw; (try dsimp only at hSw); go_simp; try with_reducible rfl
        (try simp only [Act.put, List.setIfInBounds_toArray, List.set_cons_zero, List.set_cons_succ, List.getElem_toArray, List.getElem_cons_zero, List.getElem_cons_succ])
        refine wpAnyE_take [11] (i := 10) (v := ?v2) rfl (by kernel_rfl) (by kernel_rfl) (by kernel_rfl) (by rfl) (by kernel_rfl) (by kernel_rfl) (fun _ _ _ h => h) (Or.inl ⟨by rfl, ?hy2⟩) (hkeep.out _ hbB.out) ?rest2
        case hy2 => intro w hSw; (try dsimp only at hSw); go_simp; try with_reducible rfl
        (try simp only [Act.put, List.setIfInBounds_toArray, List.set_cons_zero, List.set_cons_succ, List.getElem_toArray, List.getElem_cons_zero, List.getElem_cons_succ])
        refine wpAnyE_ready (rs := [11]) (by kernel_rfl) (by simp) ?_
        refine AllReadyE.cons rfl (fun K hK => ?_) AllReadyE.nil
        go_simp
        refine hK.out _ _ (fun h => absurd rfl h) ?_
        clear hK K
        (try simp only [Act.put, List.setIfInBounds_toArray, List.set_cons_zero, List.set_cons_succ, List.getElem_toArray, List.getElem_cons_zero, List.getElem_cons_succ])
        refine wpAnyE_done (by kernel_rfl) ?_ _
        go_wp2_with fail
        go_meet
        exact ⟨A3, c3, w3, hO3.out, hbB.out, rfl⟩
      · go_simp
        refine hK.out _ _ (fun _ => hkeep.out _ ((((Below.refl _ w5).alloc (Nat.le_refl _) _).drew).alloc (by simp) _)) ?_
        clear hK K
        (try simp only [Act.put, List.setIfInBounds_toArray, List.set_cons_zero, List.set_cons_succ, List.getElem_toArray, List.getElem_cons_zero, List.getElem_cons_succ])
        refine wpAnyE_ready (rs := [3]) (by kernel_rfl) (by simp) ?_
        refine AllReadyE.cons rfl (fun K hK => ?_) AllReadyE.nil
        refine step_append_rd _ rfl (.tmp 3) (.tmp 5) 25 rfl w5.heap.size 9 ip _ 1 16 Tryz.underlying25 hip hp0 hp1 hp2 rfl (by omega) (.slice (some ⟨w5.heap.size, 0, none⟩) 0 0) 0 [] rfl ?_ (fun b => b < m) a.A1 a.ks.length a.c1 (strs a.ks) rfl ?_ ?_ ?_ ?_ ?_ a.ks.length (Nat.zero_add _) (strs a.ks) rfl ?_
        · exact (own_empty w5 _ 1).drew.alloc _
        · exact hrd.out.below_all ((((Below.refl _ w5).alloc (Nat.le_refl _) (.cells #[] 9)).drew).alloc (by simp) (.cells #[.string ⟨#[98, 101, 104, 105, 110, 100]⟩] 9))
        · exact hone.out
        · have := hnb.out; simp only [maxLen]; omega
        · have := hnb.out; omega
        · exact below_sz ((((Below.refl _ w5).alloc (Nat.le_refl _) (.cells #[] 9)).drew).alloc (by simp) (.cells #[.string ⟨#[98, 101, 104, 105, 110, 100]⟩] 9))
        intro A2 c2 w2 hown2 hg2 hat2
        have hbA : Hid (Below w5.heap.size w5 w2) := hid (below_gr ((((Below.refl _ w5).alloc (Nat.le_refl _) (.cells #[] 9)).drew).alloc (by simp) (.cells #[.string ⟨#[98, 101, 104, 105, 110, 100]⟩] 9)) hg2 (fun k hk => by simp [Value.ownBlock] at hk; omega))
        have hI : Hid (Rd (fun b => b = w5.heap.size + 1) w2 1 (some ⟨w5.heap.size + 1, 0, none⟩) 1 #[.string ⟨#[98, 101, 104, 105, 110, 100]⟩].toList) := hid ((Rd.new (w5.alloc (.cells #[] 9)).drew 9 1 1 #[.string ⟨#[98, 101, 104, 105, 110, 100]⟩] (w5.heap.size + 1) (by simp) rfl).grown_ hg2 (fun b hb => by simp [Value.ownBlock, hb]))
        clear hg2 hat2
        refine hK.out _ _ (fun _ => hkeep.out _ hbA.out) ?_
        clear hK K
        (try simp only [Act.put, List.setIfInBounds_toArray, List.set_cons_zero, List.set_cons_succ, List.getElem_toArray, List.getElem_cons_zero, List.getElem_cons_succ])
        refine wpAnyE_ready (rs := [5]) (by kernel_rfl) (by simp) ?_
        refine AllReadyE.cons rfl (fun K hK => ?_) AllReadyE.nil
        refine step_append_rd _ rfl (.tmp 6) (.tmp 7) 25 rfl w5.heap.size 9 ip _ 1 16 Tryz.underlying25 hip hp0 hp1 hp2 rfl (by omega) (.slice A2 a.ks.length c2) a.ks.length (strs a.ks) rfl ?_ (fun b => b = w5.heap.size + 1) (some ⟨w5.heap.size + 1, 0, none⟩) 1 1 #[.string ⟨#[98, 101, 104, 105, 110, 100]⟩].toList rfl ?_ ?_ ?_ ?_ ?_ (a.ks.length + 1) rfl ((strs a.ks) ++ #[.string ⟨#[98, 101, 104, 105, 110, 100]⟩].toList) rfl ?_
        · exact hown2
        · exact hI.out
        · intro v hv; simp at hv; rcases hv with rfl <;> rfl
        · have := hnb.out; simp only [maxLen]; omega
        · have := hnb.out; omega
        · exact below_sz hbA.out
        intro A3 c3 w3 hown3 hg3 hat3
        have hbB : Hid (Below w5.heap.size w5 w3) := hid (below_gr hbA.out hg3 (fun k hk => (hown2.lt k hk).1))
        obtain ⟨A9, c9, he9, hc9, hm9⟩ := own_form hown3
        injection he9 with e1 e2 e3
        subst e1; subst e3
        have j1 : ((a.ks.length : Nat) : Int) ≤ (c3 : Int) := by omega
        have j2 : a.ks.length ≤ c3 := by omega
        have j3 : (c3 : Int) ≤ 9223372036854775807 := by simp only [maxLen] at hm9; omega
        have r4 : w3.cell? ⟨m, 1, none⟩ = some (.slice a.A1 a.ks.length a.c1) := hkeep.out _ hbB.out
        have q4 := fq.out _ hbB.out
        have hO3 := hid hown3
        clear hg3 hat3 hown3 hown2
        refine hK.out _ _ (fun _ => hkeep.out _ hbB.out) ?_
        clear hK K
        (try simp only [Act.put, List.setIfInBounds_toArray, List.set_cons_zero, List.set_cons_succ, List.getElem_toArray, List.getElem_cons_zero, List.getElem_cons_succ])
        refine wpAnyE_take [10, 11] (i := 9) (v := ?v3) rfl (by kernel_rfl) (by kernel_rfl) (by kernel_rfl) (by rfl) (by kernel_rfl) (by kernel_rfl) (fun _ _ _ h => h) (Or.inl ⟨by rfl, ?hy3⟩) (hkeep.out _ hbB.out) ?rest3
        case hy3 => intro w hSw; (try dsimp only at hSw); go_simp; try with_reducible rfl
        (try simp only [Act.put, List.setIfInBounds_toArray, List.set_cons_zero, List.set_cons_succ, List.getElem_toArray, List.getElem_cons_zero, List.getElem_cons_succ])
        refine wpAnyE_take [11] (i := 10) (v := ?v4) rfl (by kernel_rfl) (by kernel_rfl) (by kernel_rfl) (by rfl) (by kernel_rfl) (by kernel_rfl) (fun _ _ _ h => h) (Or.inl ⟨by rfl, ?hy4⟩) (hkeep.out _ hbB.out) ?rest4
        case hy4 => intro w hSw; (try dsimp only at hSw); go_simp; try with_reducible rfl
        (try simp only [Act.put, List.setIfInBounds_toArray, List.set_cons_zero, List.set_cons_succ, List.getElem_toArray, List.getElem_cons_zero, List.getElem_cons_succ])
        refine wpAnyE_ready (rs := [11]) (by kernel_rfl) (by simp) ?_
        refine AllReadyE.cons rfl (fun K hK => ?_) AllReadyE.nil
        go_simp
        refine hK.out _ _ (fun h => absurd rfl h) ?_
        clear hK K
        (try simp only [Act.put, List.setIfInBounds_toArray, List.set_cons_zero, List.set_cons_succ, List.getElem_toArray, List.getElem_cons_zero, List.getElem_cons_succ])
        refine wpAnyE_done (by kernel_rfl) ?_ _
        go_wp2_with fail
        go_meet
        exact ⟨A3, c3, w3, hO3.out, hbB.out, rfl⟩
    · go_simp
      refine hK.out _ _ (fun _ => hkeep.out _ (((Below.refl _ w5).alloc (Nat.le_refl _) _).drew)) ?_
      clear hK K
      (try simp only [Act.put, List.setIfInBounds_toArray, List.set_cons_zero, List.set_cons_succ, List.getElem_toArray, List.getElem_cons_zero, List.getElem_cons_succ])
      refine wpAnyE_ready (rs := [0]) (by kernel_rfl) (by simp) ?_
      refine AllReadyE.cons rfl (fun K hK => ?_) AllReadyE.nil
      go_simp
      refine hK.out _ _ (fun _ => hkeep.out _ ((((Below.refl _ w5).alloc (Nat.le_refl _) _).drew).alloc (by simp) _)) ?_
      clear hK K
      (try simp only [Act.put, List.setIfInBounds_toArray, List.set_cons_zero, List.set_cons_succ, List.getElem_toArray, List.getElem_cons_zero, List.getElem_cons_succ])
      refine wpAnyE_ready (rs := [3]) (by kernel_rfl) (by simp) ?_
      refine AllReadyE.cons rfl (fun K hK => ?_) AllReadyE.nil
      refine step_append_rd _ rfl (.tmp 3) (.tmp 5) 25 rfl w5.heap.size 9 ip _ 1 16 Tryz.underlying25 hip hp0 hp1 hp2 rfl (by omega) (.slice (some ⟨w5.heap.size + 1, 0, none⟩) 0 0) 0 [] rfl ?_ (fun b => b < m) a.A1 a.ks.length a.c1 (strs a.ks) rfl ?_ ?_ ?_ ?_ ?_ a.ks.length (Nat.zero_add _) (strs a.ks) rfl ?_
      · exact own_base (by simp) (own_empty' (w5.alloc (.cells #[.string ⟨#[98, 101, 104, 105, 110, 100]⟩] 9)).drew _ 1 (w5.heap.size + 1) (by simp))
      · exact hrd.out.below_all ((((Below.refl _ w5).alloc (Nat.le_refl _) (.cells #[.string ⟨#[98, 101, 104, 105, 110, 100]⟩] 9)).drew).alloc (by simp) (.cells #[] 9))
      · exact hone.out
      · have := hnb.out; simp only [maxLen]; omega
      · have := hnb.out; omega
      · exact below_sz ((((Below.refl _ w5).alloc (Nat.le_refl _) (.cells #[.string ⟨#[98, 101, 104, 105, 110, 100]⟩] 9)).drew).alloc (by simp) (.cells #[] 9))
      intro A2 c2 w2 hown2 hg2 hat2
      have hbA : Hid (Below w5.heap.size w5 w2) := hid (below_gr ((((Below.refl _ w5).alloc (Nat.le_refl _) (.cells #[.string ⟨#[98, 101, 104, 105, 110, 100]⟩] 9)).drew).alloc (by simp) (.cells #[] 9)) hg2 (fun k hk => by simp [Value.ownBlock] at hk; omega))
      have hI : Hid (Rd (fun b => b = w5.heap.size) w2 1 (some ⟨w5.heap.size, 0, none⟩) 1 #[.string ⟨#[98, 101, 104, 105, 110, 100]⟩].toList) := hid (((Rd.new w5 9 1 1 #[.string ⟨#[98, 101, 104, 105, 110, 100]⟩] w5.heap.size rfl rfl).drew.alloc (.cells #[] 9)).grown_ hg2 (fun b hb => by simp [Value.ownBlock, hb]))
      clear hg2 hat2
      refine hK.out _ _ (fun _ => hkeep.out _ hbA.out) ?_
      clear hK K
      (try simp only [Act.put, List.setIfInBounds_toArray, List.set_cons_zero, List.set_cons_succ, List.getElem_toArray, List.getElem_cons_zero, List.getElem_cons_succ])
      refine wpAnyE_ready (rs := [5]) (by kernel_rfl) (by simp) ?_
      refine AllReadyE.cons rfl (fun K hK => ?_) AllReadyE.nil
      refine step_append_rd _ rfl (.tmp 6) (.tmp 7) 25 rfl w5.heap.size 9 ip _ 1 16 Tryz.underlying25 hip hp0 hp1 hp2 rfl (by omega) (.slice A2 a.ks.length c2) a.ks.length (strs a.ks) rfl ?_ (fun b => b = w5.heap.size) (some ⟨w5.heap.size, 0, none⟩) 1 1 #[.string ⟨#[98, 101, 104, 105, 110, 100]⟩].toList rfl ?_ ?_ ?_ ?_ ?_ (a.ks.length + 1) rfl ((strs a.ks) ++ #[.string ⟨#[98, 101, 104, 105, 110, 100]⟩].toList) rfl ?_
      · exact hown2
      · exact hI.out
      · intro v hv; simp at hv; rcases hv with rfl <;> rfl
      · have := hnb.out; simp only [maxLen]; omega
      · have := hnb.out; omega
      · exact below_sz hbA.out
      intro A3 c3 w3 hown3 hg3 hat3
      have hbB : Hid (Below w5.heap.size w5 w3) := hid (below_gr hbA.out hg3 (fun k hk => (hown2.lt k hk).1))
      obtain ⟨A9, c9, he9, hc9, hm9⟩ := own_form hown3
      injection he9 with e1 e2 e3
      subst e1; subst e3
      have j1 : ((a.ks.length : Nat) : Int) ≤ (c3 : Int) := by omega
      have j2 : a.ks.length ≤ c3 := by omega
      have j3 : (c3 : Int) ≤ 9223372036854775807 := by simp only [maxLen] at hm9; omega
      have r4 : w3.cell? ⟨m, 1, none⟩ = some (.slice a.A1 a.ks.length a.c1) := hkeep.out _ hbB.out
      have q4 := fq.out _ hbB.out
      have hO3 := hid hown3
      clear hg3 hat3 hown3 hown2
      refine hK.out _ _ (fun _ => hkeep.out _ hbB.out) ?_
      clear hK K
      (try simp only [Act.put, List.setIfInBounds_toArray, List.set_cons_zero, List.set_cons_succ, List.getElem_toArray, List.getElem_cons_zero, List.getElem_cons_succ])
      refine wpAnyE_take [10, 11] (i := 9) (v := ?v5) rfl (by kernel_rfl) (by kernel_rfl) (by kernel_rfl) (by rfl) (by kernel_rfl) (by kernel_rfl) (fun _ _ _ h => h) (Or.inl ⟨by rfl, ?hy5⟩) (hkeep.out _ hbB.out) ?rest5
      case hy5 => intro w hSw; (try dsimp only at hSw); go_simp; try with_reducible rfl
      (try simp only [Act.put, List.setIfInBounds_toArray, List.set_cons_zero, List.set_cons_succ, List.getElem_toArray, List.getElem_cons_zero, List.getElem_cons_succ])
      refine wpAnyE_take [11] (i := 10) (v := ?v6) rfl (by kernel_rfl) (by kernel_rfl) (by kernel_rfl) (by rfl) (by kernel_rfl) (by kernel_rfl) (fun _ _ _ h => h) (Or.inl ⟨by rfl, ?hy6⟩) (hkeep.out _ hbB.out) ?rest6
      case hy6 => intro w hSw; (try dsimp only at hSw); go_simp; try with_reducible rfl
      (try simp only [Act.put, List.setIfInBounds_toArray, List.set_cons_zero, List.set_cons_succ, List.getElem_toArray, List.getElem_cons_zero, List.getElem_cons_succ])
      refine wpAnyE_ready (rs := [11]) (by kernel_rfl) (by simp) ?_
      refine AllReadyE.cons rfl (fun K hK => ?_) AllReadyE.nil
      go_simp
      refine hK.out _ _ (fun h => absurd rfl h) ?_
      clear hK K
      (try simp only [Act.put, List.setIfInBounds_toArray, List.set_cons_zero, List.set_cons_succ, List.getElem_toArray, List.getElem_cons_zero, List.getElem_cons_succ])
      refine wpAnyE_done (by kernel_rfl) ?_ _
      go_wp2_with fail
      go_meet
      exact ⟨A3, c3, w3, hO3.out, hbB.out, rfl⟩
  case rest =>
    obtain ⟨A3, c3, w3, hO3, hb3, rfl⟩ := hcut
    have hu1 : Upd (fun j => j = m) w5 (w3.setCell ⟨m, 1, none⟩ (.slice A3 a.ks.length c3)) := (Upd.of_below (M := fun j => j = m) hb3 fun k hk h => by omega).setCell (p := ⟨m, 1, none⟩) (fun _ => rfl) _
    have hml : m < w5.heap.size := K1.out.lt
    have hbs := hB.out.size
    have hm2 := hid K2.out.lt
    have K1a := hid ((K1.out.below_all hb3).set_ 1 (.slice A3 a.ks.length c3))
    have K2a : Hid (Blk (w3.setCell ⟨m, 1, none⟩ (.slice A3 a.ks.length c3)) (m + 1) 51 #[.int .i64 0, .slice none 0 0, .slice none 0 0]) := hid (K2.out.upd hu1 (by omega))
    have hw5a : Hid (Rd (fun b => b < m) (w3.setCell ⟨m, 1, none⟩ (.slice A3 a.ks.length c3)) 5 a.A2 a.ws.length (wrCells a.ws)) := hid ((hw5.out.below_all hb3).setCell (by simp only; omega) _)
    have hR1 : Hid (Rd (fun b => w5.heap.size ≤ b) (w3.setCell ⟨m, 1, none⟩ (.slice A3 a.ks.length c3)) 1 A3 a.ks.length (strs a.ks)) := hid ((Rd.pre_own hO3 (by simp [strs])).setCell (by simp only; omega) _)
    have hBa : Hid (Below m w (w3.setCell ⟨m, 1, none⟩ (.slice A3 a.ks.length c3))) := hid ((hB.out.trans (hb3.mono (by omega))).setCell (p := ⟨m, 1, none⟩) (Nat.le_refl _) _)
    generalize w3.setCell ⟨m, 1, none⟩ (.slice A3 a.ks.length c3) = w6 at *
    have hs65 : Hid (w5.heap.size ≤ w6.heap.size) := hid hu1.size
    clear hO3 hb3 hu1 hbs K1 K2 hB hk5 hw5
    go_upto_region 2 with fail
    go_cut [] (fun wx => ∃ (A3 : Option Addr) (c3 : Nat) (w3 : World), w3.ownsRow w6.heap.size 40 5 (.slice A3 (a.ws.length + 1) c3) (a.ws.length + 1) (wrCells a.ws ++ #[.string ⟨#[98, 101, 104, 105, 110, 100]⟩, .bool false, .int .i64 0, .int .i64 0, .string ⟨#[]⟩].toList) ∧ Below w6.heap.size w6 w3 ∧ wx = w3.setCell ⟨m, 2, none⟩ (.slice A3 a.ws.length c3))
    case first =>
      have hrd := hw5a
      have hnb := hn2
      have hone := hid (wrCells_one a.ws)
      obtain ⟨ip, hip, hp0, hp1, hp2⟩ := info_parts info_write
      have hkeep : Hid (∀ w', Below w6.heap.size w6 w' → w'.cell? ⟨m, 2, none⟩ = some (.slice a.A2 a.ws.length a.c2)) := hid fun w' h => (K1a.out.below_all h).cell 2
      have fq : Hid (∀ w', Below w6.heap.size w6 w' → w'.frozen? ⟨m, 2, none⟩ = false) := hid fun w' h => (K1a.out.below_all h).frozen 2
      have hHeld := hkeep.out w6.drew (Below.refl _ _).drew
      refine wp_region_heldE (S := fun w' => w'.cell? ⟨m, 2, none⟩ = some (.slice a.A2 a.ws.length a.c2)) 12 (by kernel_rfl) ?_
      refine wpAnyE_take [2, 3, 6, 10, 11, 12] (i := 1) (v := ?v18) rfl (by kernel_rfl) (by kernel_rfl) (by kernel_rfl) (by rfl) (by kernel_rfl) (by kernel_rfl) (fun _ _ _ h => h) (Or.inl ⟨by rfl, ?hy18⟩) (hHeld) ?rest18
      case hy18 => intro w hSw; (try dsimp only at hSw); go_simp; try with_reducible rfl
      (try simp only [Act.put, List.setIfInBounds_toArray, List.set_cons_zero, List.set_cons_succ, List.getElem_toArray, List.getElem_cons_zero, List.getElem_cons_succ])
      refine wpAnyE_take [3, 6, 10, 11, 12] (i := 2) (v := ?v19) rfl (by kernel_rfl) (by kernel_rfl) (by kernel_rfl) (by rfl) (by kernel_rfl) (by kernel_rfl) (fun _ _ _ h => h) (Or.inl ⟨by rfl, ?hy19⟩) (hHeld) ?rest19
      case hy19 => intro w hSw; (try dsimp only at hSw); go_simp; try with_reducible rfl
      (try simp only [Act.put, List.setIfInBounds_toArray, List.set_cons_zero, List.set_cons_succ, List.getElem_toArray, List.getElem_cons_zero, List.getElem_cons_succ])
      refine wpAnyE_take [5, 6, 10, 11, 12] (i := 4) (v := ?v20) rfl (by kernel_rfl) (by kernel_rfl) (by kernel_rfl) (by rfl) (by kernel_rfl) (by kernel_rfl) (fun _ _ _ h => h) (Or.inl ⟨by rfl, ?hy20⟩) (hHeld) ?rest20
      case hy20 => intro w hSw; (try dsimp only at hSw); go_simp; try with_reducible rfl
      (try simp only [Act.put, List.setIfInBounds_toArray, List.set_cons_zero, List.set_cons_succ, List.getElem_toArray, List.getElem_cons_zero, List.getElem_cons_succ])
      refine wpAnyE_take [8, 9, 10, 11, 12] (i := 7) (v := ?v21) rfl (by kernel_rfl) (by kernel_rfl) (by kernel_rfl) (by rfl) (by kernel_rfl) (by kernel_rfl) (fun _ _ _ h => h) (Or.inl ⟨by rfl, ?hy21⟩) (hHeld) ?rest21
      case hy21 => intro w hSw; (try dsimp only at hSw); go_simp; try with_reducible rfl
      (try simp only [Act.put, List.setIfInBounds_toArray, List.set_cons_zero, List.set_cons_succ, List.getElem_toArray, List.getElem_cons_zero, List.getElem_cons_succ])
      refine wpAnyE_take [9, 10, 11, 12] (i := 8) (v := ?v22) rfl (by kernel_rfl) (by kernel_rfl) (by kernel_rfl) (by rfl) (by kernel_rfl) (by kernel_rfl) (fun _ _ _ h => h) (Or.inl ⟨by rfl, ?hy22⟩) (hHeld) ?rest22
      case hy22 => intro w hSw; (try dsimp only at hSw); go_simp; try with_reducible rfl
      (try simp only [Act.put, List.setIfInBounds_toArray, List.set_cons_zero, List.set_cons_succ, List.getElem_toArray, List.getElem_cons_zero, List.getElem_cons_succ])
      refine wpAnyE_take [10, 11, 12] (i := 9) (v := ?v23) rfl (by kernel_rfl) (by kernel_rfl) (by kernel_rfl) (by rfl) (by kernel_rfl) (by kernel_rfl) (fun _ _ _ h => h) (Or.inl ⟨by rfl, ?hy23⟩) (hHeld) ?rest23
      case hy23 => intro w hSw; (try dsimp only at hSw); go_simp; try with_reducible rfl
      (try simp only [Act.put, List.setIfInBounds_toArray, List.set_cons_zero, List.set_cons_succ, List.getElem_toArray, List.getElem_cons_zero, List.getElem_cons_succ])
      refine wpAnyE_ready (rs := [0, 5]) (by kernel_rfl) (by simp) ?_
      refine AllReadyE.cons rfl (fun K hK => ?_) (AllReadyE.cons rfl (fun K hK => ?_) AllReadyE.nil)
      · go_simp
        refine hK.out _ _ (fun _ => hkeep.out _ (((Below.refl _ w6).alloc (Nat.le_refl _) _).drew)) ?_
        clear hK K
        (try simp only [Act.put, List.setIfInBounds_toArray, List.set_cons_zero, List.set_cons_succ, List.getElem_toArray, List.getElem_cons_zero, List.getElem_cons_succ])
        refine wpAnyE_ready (rs := [3, 5]) (by kernel_rfl) (by simp) ?_
        refine AllReadyE.cons rfl (fun K hK => ?_) (AllReadyE.cons rfl (fun K hK => ?_) AllReadyE.nil)
        · refine step_append_rd _ rfl (.tmp 14) (.tmp 16) 26 rfl w6.heap.size 40 ip _ 5 56 Tryz.underlying26 hip hp0 hp1 hp2 rfl (by omega) (.slice (some ⟨w6.heap.size, 0, none⟩) 0 0) 0 [] rfl ?_ (fun b => b < m) a.A2 a.ws.length a.c2 (wrCells a.ws) rfl ?_ ?_ ?_ ?_ ?_ a.ws.length (Nat.zero_add _) (wrCells a.ws) rfl ?_
          · exact (own_empty w6 _ 5).drew
          · exact hrd.out.below_all (((Below.refl _ w6).alloc (Nat.le_refl _) (.cells #[] 40)).drew)
          · exact hone.out
          · have := hnb.out; simp only [maxLen]; omega
          · have := hnb.out; omega
          · exact below_sz (((Below.refl _ w6).alloc (Nat.le_refl _) (.cells #[] 40)).drew)
          intro A2 c2 w2 hown2 hg2 hat2
          have hbA : Hid (Below w6.heap.size w6 w2) := hid (below_gr (((Below.refl _ w6).alloc (Nat.le_refl _) (.cells #[] 40)).drew) hg2 (fun k hk => by simp [Value.ownBlock] at hk; omega))
          clear hg2 hat2
          refine hK.out _ _ (fun _ => hkeep.out _ hbA.out) ?_
          clear hK K
          (try simp only [Act.put, List.setIfInBounds_toArray, List.set_cons_zero, List.set_cons_succ, List.getElem_toArray, List.getElem_cons_zero, List.getElem_cons_succ])
          refine wpAnyE_ready (rs := [5]) (by kernel_rfl) (by simp) ?_
          refine AllReadyE.cons rfl (fun K hK => ?_) AllReadyE.nil
          go_simp
          refine hK.out _ _ (fun _ => hkeep.out _ (below_al hbA.out _)) ?_
          clear hK K
          (try simp only [Act.put, List.setIfInBounds_toArray, List.set_cons_zero, List.set_cons_succ, List.getElem_toArray, List.getElem_cons_zero, List.getElem_cons_succ])
          refine wpAnyE_ready (rs := [6]) (by kernel_rfl) (by simp) ?_
          refine AllReadyE.cons rfl (fun K hK => ?_) AllReadyE.nil
          refine step_append_rd _ rfl (.tmp 17) (.tmp 19) 26 rfl w6.heap.size 40 ip _ 5 56 Tryz.underlying26 hip hp0 hp1 hp2 rfl (by omega) (.slice A2 a.ws.length c2) a.ws.length (wrCells a.ws) rfl ?_ (fun b => b = w2.heap.size) (some ⟨w2.heap.size, 0, none⟩) 1 1 #[.string ⟨#[98, 101, 104, 105, 110, 100]⟩, .bool false, .int .i64 0, .int .i64 0, .string ⟨#[]⟩].toList rfl ?_ ?_ ?_ ?_ ?_ (a.ws.length + 1) rfl ((wrCells a.ws) ++ #[.string ⟨#[98, 101, 104, 105, 110, 100]⟩, .bool false, .int .i64 0, .int .i64 0, .string ⟨#[]⟩].toList) rfl ?_
          · exact hown2.alloc _
          · exact Rd.new w2 40 5 1 #[.string ⟨#[98, 101, 104, 105, 110, 100]⟩, .bool false, .int .i64 0, .int .i64 0, .string ⟨#[]⟩] w2.heap.size rfl rfl
          · intro v hv; simp at hv; rcases hv with rfl | rfl | rfl | rfl | rfl <;> rfl
          · have := hnb.out; simp only [maxLen]; omega
          · have := hnb.out; omega
          · exact below_sz (below_al hbA.out _)
          intro A3 c3 w3 hown3 hg3 hat3
          have hbB : Hid (Below w6.heap.size w6 w3) := hid (below_gr (below_al hbA.out _) hg3 (fun k hk => (hown2.lt k hk).1))
          obtain ⟨A9, c9, he9, hc9, hm9⟩ := own_form hown3
          injection he9 with e1 e2 e3
          subst e1; subst e3
          have j1 : ((a.ws.length : Nat) : Int) ≤ (c3 : Int) := by omega
          have j2 : a.ws.length ≤ c3 := by omega
          have j3 : (c3 : Int) ≤ 9223372036854775807 := by simp only [maxLen] at hm9; omega
          have r4 : w3.cell? ⟨m, 2, none⟩ = some (.slice a.A2 a.ws.length a.c2) := hkeep.out _ hbB.out
          have q4 := fq.out _ hbB.out
          have hO3 := hid hown3
          clear hg3 hat3 hown3 hown2
          refine hK.out _ _ (fun _ => hkeep.out _ hbB.out) ?_
          clear hK K
          (try simp only [Act.put, List.setIfInBounds_toArray, List.set_cons_zero, List.set_cons_succ, List.getElem_toArray, List.getElem_cons_zero, List.getElem_cons_succ])
          refine wpAnyE_take [11, 12] (i := 10) (v := ?v12) rfl (by kernel_rfl) (by kernel_rfl) (by kernel_rfl) (by rfl) (by kernel_rfl) (by kernel_rfl) (fun _ _ _ h => h) (Or.inl ⟨by rfl, ?hy12⟩) (hkeep.out _ hbB.out) ?rest12
          case hy12 => intro w hSw; (try dsimp only at hSw); go_simp; try with_reducible rfl
          (try simp only [Act.put, List.setIfInBounds_toArray, List.set_cons_zero, List.set_cons_succ, List.getElem_toArray, List.getElem_cons_zero, List.getElem_cons_succ])
          refine wpAnyE_take [12] (i := 11) (v := ?v13) rfl (by kernel_rfl) (by kernel_rfl) (by kernel_rfl) (by rfl) (by kernel_rfl) (by kernel_rfl) (fun _ _ _ h => h) (Or.inl ⟨by rfl, ?hy13⟩) (hkeep.out _ hbB.out) ?rest13
          case hy13 => intro w hSw; (try dsimp only at hSw); go_simp; try with_reducible rfl
          (try simp only [Act.put, List.setIfInBounds_toArray, List.set_cons_zero, List.set_cons_succ, List.getElem_toArray, List.getElem_cons_zero, List.getElem_cons_succ])
          refine wpAnyE_ready (rs := [12]) (by kernel_rfl) (by simp) ?_
          refine AllReadyE.cons rfl (fun K hK => ?_) AllReadyE.nil
          go_simp
          refine hK.out _ _ (fun h => absurd rfl h) ?_
          clear hK K
          (try simp only [Act.put, List.setIfInBounds_toArray, List.set_cons_zero, List.set_cons_succ, List.getElem_toArray, List.getElem_cons_zero, List.getElem_cons_succ])
          refine wpAnyE_done (by kernel_rfl) ?_ _
          go_wp2_with fail
          go_meet
          exact ⟨A3, c3, w3, hO3.out, hbB.out, rfl⟩
        · go_simp
          refine hK.out _ _ (fun _ => hkeep.out _ ((((Below.refl _ w6).alloc (Nat.le_refl _) _).drew).alloc (by simp) _)) ?_
          clear hK K
          (try simp only [Act.put, List.setIfInBounds_toArray, List.set_cons_zero, List.set_cons_succ, List.getElem_toArray, List.getElem_cons_zero, List.getElem_cons_succ])
          refine wpAnyE_ready (rs := [3]) (by kernel_rfl) (by simp) ?_
          refine AllReadyE.cons rfl (fun K hK => ?_) AllReadyE.nil
          refine step_append_rd _ rfl (.tmp 14) (.tmp 16) 26 rfl w6.heap.size 40 ip _ 5 56 Tryz.underlying26 hip hp0 hp1 hp2 rfl (by omega) (.slice (some ⟨w6.heap.size, 0, none⟩) 0 0) 0 [] rfl ?_ (fun b => b < m) a.A2 a.ws.length a.c2 (wrCells a.ws) rfl ?_ ?_ ?_ ?_ ?_ a.ws.length (Nat.zero_add _) (wrCells a.ws) rfl ?_
          · exact (own_empty w6 _ 5).drew.alloc _
          · exact hrd.out.below_all ((((Below.refl _ w6).alloc (Nat.le_refl _) (.cells #[] 40)).drew).alloc (by simp) (.cells #[.string ⟨#[98, 101, 104, 105, 110, 100]⟩, .bool false, .int .i64 0, .int .i64 0, .string ⟨#[]⟩] 40))
          · exact hone.out
          · have := hnb.out; simp only [maxLen]; omega
          · have := hnb.out; omega
          · exact below_sz ((((Below.refl _ w6).alloc (Nat.le_refl _) (.cells #[] 40)).drew).alloc (by simp) (.cells #[.string ⟨#[98, 101, 104, 105, 110, 100]⟩, .bool false, .int .i64 0, .int .i64 0, .string ⟨#[]⟩] 40))
          intro A2 c2 w2 hown2 hg2 hat2
          have hbA : Hid (Below w6.heap.size w6 w2) := hid (below_gr ((((Below.refl _ w6).alloc (Nat.le_refl _) (.cells #[] 40)).drew).alloc (by simp) (.cells #[.string ⟨#[98, 101, 104, 105, 110, 100]⟩, .bool false, .int .i64 0, .int .i64 0, .string ⟨#[]⟩] 40)) hg2 (fun k hk => by simp [Value.ownBlock] at hk; omega))
          have hI : Hid (Rd (fun b => b = w6.heap.size + 1) w2 5 (some ⟨w6.heap.size + 1, 0, none⟩) 1 #[.string ⟨#[98, 101, 104, 105, 110, 100]⟩, .bool false, .int .i64 0, .int .i64 0, .string ⟨#[]⟩].toList) := hid ((Rd.new (w6.alloc (.cells #[] 40)).drew 40 5 1 #[.string ⟨#[98, 101, 104, 105, 110, 100]⟩, .bool false, .int .i64 0, .int .i64 0, .string ⟨#[]⟩] (w6.heap.size + 1) (by simp) rfl).grown_ hg2 (fun b hb => by simp [Value.ownBlock, hb]))
          clear hg2 hat2
          refine hK.out _ _ (fun _ => hkeep.out _ hbA.out) ?_
          clear hK K
          (try simp only [Act.put, List.setIfInBounds_toArray, List.set_cons_zero, List.set_cons_succ, List.getElem_toArray, List.getElem_cons_zero, List.getElem_cons_succ])
          refine wpAnyE_ready (rs := [6]) (by kernel_rfl) (by simp) ?_
          refine AllReadyE.cons rfl (fun K hK => ?_) AllReadyE.nil
          refine step_append_rd _ rfl (.tmp 17) (.tmp 19) 26 rfl w6.heap.size 40 ip _ 5 56 Tryz.underlying26 hip hp0 hp1 hp2 rfl (by omega) (.slice A2 a.ws.length c2) a.ws.length (wrCells a.ws) rfl ?_ (fun b => b = w6.heap.size + 1) (some ⟨w6.heap.size + 1, 0, none⟩) 1 1 #[.string ⟨#[98, 101, 104, 105, 110, 100]⟩, .bool false, .int .i64 0, .int .i64 0, .string ⟨#[]⟩].toList rfl ?_ ?_ ?_ ?_ ?_ (a.ws.length + 1) rfl ((wrCells a.ws) ++ #[.string ⟨#[98, 101, 104, 105, 110, 100]⟩, .bool false, .int .i64 0, .int .i64 0, .string ⟨#[]⟩].toList) rfl ?_
          · exact hown2
          · exact hI.out
          · intro v hv; simp at hv; rcases hv with rfl | rfl | rfl | rfl | rfl <;> rfl
          · have := hnb.out; simp only [maxLen]; omega
          · have := hnb.out; omega
          · exact below_sz hbA.out
          intro A3 c3 w3 hown3 hg3 hat3
          have hbB : Hid (Below w6.heap.size w6 w3) := hid (below_gr hbA.out hg3 (fun k hk => (hown2.lt k hk).1))
          obtain ⟨A9, c9, he9, hc9, hm9⟩ := own_form hown3
          injection he9 with e1 e2 e3
          subst e1; subst e3
          have j1 : ((a.ws.length : Nat) : Int) ≤ (c3 : Int) := by omega
          have j2 : a.ws.length ≤ c3 := by omega
          have j3 : (c3 : Int) ≤ 9223372036854775807 := by simp only [maxLen] at hm9; omega
          have r4 : w3.cell? ⟨m, 2, none⟩ = some (.slice a.A2 a.ws.length a.c2) := hkeep.out _ hbB.out
          have q4 := fq.out _ hbB.out
          have hO3 := hid hown3
          clear hg3 hat3 hown3 hown2
          refine hK.out _ _ (fun _ => hkeep.out _ hbB.out) ?_
          clear hK K
          (try simp only [Act.put, List.setIfInBounds_toArray, List.set_cons_zero, List.set_cons_succ, List.getElem_toArray, List.getElem_cons_zero, List.getElem_cons_succ])
          refine wpAnyE_take [11, 12] (i := 10) (v := ?v14) rfl (by kernel_rfl) (by kernel_rfl) (by kernel_rfl) (by rfl) (by kernel_rfl) (by kernel_rfl) (fun _ _ _ h => h) (Or.inl ⟨by rfl, ?hy14⟩) (hkeep.out _ hbB.out) ?rest14
          case hy14 => intro w hSw; (try dsimp only at hSw); go_simp; try with_reducible rfl
          (try simp only [Act.put, List.setIfInBounds_toArray, List.set_cons_zero, List.set_cons_succ, List.getElem_toArray, List.getElem_cons_zero, List.getElem_cons_succ])
          refine wpAnyE_take [12] (i := 11) (v := ?v15) rfl (by kernel_rfl) (by kernel_rfl) (by kernel_rfl) (by rfl) (by kernel_rfl) (by kernel_rfl) (fun _ _ _ h => h) (Or.inl ⟨by rfl, ?hy15⟩) (hkeep.out _ hbB.out) ?rest15
          case hy15 => intro w hSw; (try dsimp only at hSw); go_simp; try with_reducible rfl
          (try simp only [Act.put, List.setIfInBounds_toArray, List.set_cons_zero, List.set_cons_succ, List.getElem_toArray, List.getElem_cons_zero, List.getElem_cons_succ])
          refine wpAnyE_ready (rs := [12]) (by kernel_rfl) (by simp) ?_
          refine AllReadyE.cons rfl (fun K hK => ?_) AllReadyE.nil
          go_simp
          refine hK.out _ _ (fun h => absurd rfl h) ?_
          clear hK K
          (try simp only [Act.put, List.setIfInBounds_toArray, List.set_cons_zero, List.set_cons_succ, List.getElem_toArray, List.getElem_cons_zero, List.getElem_cons_succ])
          refine wpAnyE_done (by kernel_rfl) ?_ _
          go_wp2_with fail
          go_meet
          exact ⟨A3, c3, w3, hO3.out, hbB.out, rfl⟩
      · go_simp
        refine hK.out _ _ (fun _ => hkeep.out _ (((Below.refl _ w6).alloc (Nat.le_refl _) _).drew)) ?_
        clear hK K
        (try simp only [Act.put, List.setIfInBounds_toArray, List.set_cons_zero, List.set_cons_succ, List.getElem_toArray, List.getElem_cons_zero, List.getElem_cons_succ])
        refine wpAnyE_ready (rs := [0]) (by kernel_rfl) (by simp) ?_
        refine AllReadyE.cons rfl (fun K hK => ?_) AllReadyE.nil
        go_simp
        refine hK.out _ _ (fun _ => hkeep.out _ ((((Below.refl _ w6).alloc (Nat.le_refl _) _).drew).alloc (by simp) _)) ?_
        clear hK K
        (try simp only [Act.put, List.setIfInBounds_toArray, List.set_cons_zero, List.set_cons_succ, List.getElem_toArray, List.getElem_cons_zero, List.getElem_cons_succ])
        refine wpAnyE_ready (rs := [3]) (by kernel_rfl) (by simp) ?_
        refine AllReadyE.cons rfl (fun K hK => ?_) AllReadyE.nil
        refine step_append_rd _ rfl (.tmp 14) (.tmp 16) 26 rfl w6.heap.size 40 ip _ 5 56 Tryz.underlying26 hip hp0 hp1 hp2 rfl (by omega) (.slice (some ⟨w6.heap.size + 1, 0, none⟩) 0 0) 0 [] rfl ?_ (fun b => b < m) a.A2 a.ws.length a.c2 (wrCells a.ws) rfl ?_ ?_ ?_ ?_ ?_ a.ws.length (Nat.zero_add _) (wrCells a.ws) rfl ?_
        · exact own_base (by simp) (own_empty' (w6.alloc (.cells #[.string ⟨#[98, 101, 104, 105, 110, 100]⟩, .bool false, .int .i64 0, .int .i64 0, .string ⟨#[]⟩] 40)).drew _ 5 (w6.heap.size + 1) (by simp))
        · exact hrd.out.below_all ((((Below.refl _ w6).alloc (Nat.le_refl _) (.cells #[.string ⟨#[98, 101, 104, 105, 110, 100]⟩, .bool false, .int .i64 0, .int .i64 0, .string ⟨#[]⟩] 40)).drew).alloc (by simp) (.cells #[] 40))
        · exact hone.out
        · have := hnb.out; simp only [maxLen]; omega
        · have := hnb.out; omega
        · exact below_sz ((((Below.refl _ w6).alloc (Nat.le_refl _) (.cells #[.string ⟨#[98, 101, 104, 105, 110, 100]⟩, .bool false, .int .i64 0, .int .i64 0, .string ⟨#[]⟩] 40)).drew).alloc (by simp) (.cells #[] 40))
        intro A2 c2 w2 hown2 hg2 hat2
        have hbA : Hid (Below w6.heap.size w6 w2) := hid (below_gr ((((Below.refl _ w6).alloc (Nat.le_refl _) (.cells #[.string ⟨#[98, 101, 104, 105, 110, 100]⟩, .bool false, .int .i64 0, .int .i64 0, .string ⟨#[]⟩] 40)).drew).alloc (by simp) (.cells #[] 40)) hg2 (fun k hk => by simp [Value.ownBlock] at hk; omega))
        have hI : Hid (Rd (fun b => b = w6.heap.size) w2 5 (some ⟨w6.heap.size, 0, none⟩) 1 #[.string ⟨#[98, 101, 104, 105, 110, 100]⟩, .bool false, .int .i64 0, .int .i64 0, .string ⟨#[]⟩].toList) := hid (((Rd.new w6 40 5 1 #[.string ⟨#[98, 101, 104, 105, 110, 100]⟩, .bool false, .int .i64 0, .int .i64 0, .string ⟨#[]⟩] w6.heap.size rfl rfl).drew.alloc (.cells #[] 40)).grown_ hg2 (fun b hb => by simp [Value.ownBlock, hb]))
        clear hg2 hat2
        refine hK.out _ _ (fun _ => hkeep.out _ hbA.out) ?_
        clear hK K
        (try simp only [Act.put, List.setIfInBounds_toArray, List.set_cons_zero, List.set_cons_succ, List.getElem_toArray, List.getElem_cons_zero, List.getElem_cons_succ])
        refine wpAnyE_ready (rs := [6]) (by kernel_rfl) (by simp) ?_
        refine AllReadyE.cons rfl (fun K hK => ?_) AllReadyE.nil
        refine step_append_rd _ rfl (.tmp 17) (.tmp 19) 26 rfl w6.heap.size 40 ip _ 5 56 Tryz.underlying26 hip hp0 hp1 hp2 rfl (by omega) (.slice A2 a.ws.length c2) a.ws.length (wrCells a.ws) rfl ?_ (fun b => b = w6.heap.size) (some ⟨w6.heap.size, 0, none⟩) 1 1 #[.string ⟨#[98, 101, 104, 105, 110, 100]⟩, .bool false, .int .i64 0, .int .i64 0, .string ⟨#[]⟩].toList rfl ?_ ?_ ?_ ?_ ?_ (a.ws.length + 1) rfl ((wrCells a.ws) ++ #[.string ⟨#[98, 101, 104, 105, 110, 100]⟩, .bool false, .int .i64 0, .int .i64 0, .string ⟨#[]⟩].toList) rfl ?_
        · exact hown2
        · exact hI.out
        · intro v hv; simp at hv; rcases hv with rfl | rfl | rfl | rfl | rfl <;> rfl
        · have := hnb.out; simp only [maxLen]; omega
        · have := hnb.out; omega
        · exact below_sz hbA.out
        intro A3 c3 w3 hown3 hg3 hat3
        have hbB : Hid (Below w6.heap.size w6 w3) := hid (below_gr hbA.out hg3 (fun k hk => (hown2.lt k hk).1))
        obtain ⟨A9, c9, he9, hc9, hm9⟩ := own_form hown3
        injection he9 with e1 e2 e3
        subst e1; subst e3
        have j1 : ((a.ws.length : Nat) : Int) ≤ (c3 : Int) := by omega
        have j2 : a.ws.length ≤ c3 := by omega
        have j3 : (c3 : Int) ≤ 9223372036854775807 := by simp only [maxLen] at hm9; omega
        have r4 : w3.cell? ⟨m, 2, none⟩ = some (.slice a.A2 a.ws.length a.c2) := hkeep.out _ hbB.out
        have q4 := fq.out _ hbB.out
        have hO3 := hid hown3
        clear hg3 hat3 hown3 hown2
        refine hK.out _ _ (fun _ => hkeep.out _ hbB.out) ?_
        clear hK K
        (try simp only [Act.put, List.setIfInBounds_toArray, List.set_cons_zero, List.set_cons_succ, List.getElem_toArray, List.getElem_cons_zero, List.getElem_cons_succ])
        refine wpAnyE_take [11, 12] (i := 10) (v := ?v16) rfl (by kernel_rfl) (by kernel_rfl) (by kernel_rfl) (by rfl) (by kernel_rfl) (by kernel_rfl) (fun _ _ _ h => h) (Or.inl ⟨by rfl, ?hy16⟩) (hkeep.out _ hbB.out) ?rest16
        case hy16 => intro w hSw; (try dsimp only at hSw); go_simp; try with_reducible rfl
        (try simp only [Act.put, List.setIfInBounds_toArray, List.set_cons_zero, List.set_cons_succ, List.getElem_toArray, List.getElem_cons_zero, List.getElem_cons_succ])
        refine wpAnyE_take [12] (i := 11) (v := ?v17) rfl (by kernel_rfl) (by kernel_rfl) (by kernel_rfl) (by rfl) (by kernel_rfl) (by kernel_rfl) (fun _ _ _ h => h) (Or.inl ⟨by rfl, ?hy17⟩) (hkeep.out _ hbB.out) ?rest17
        case hy17 => intro w hSw; (try dsimp only at hSw); go_simp; try with_reducible rfl
        (try simp only [Act.put, List.setIfInBounds_toArray, List.set_cons_zero, List.set_cons_succ, List.getElem_toArray, List.getElem_cons_zero, List.getElem_cons_succ])
        refine wpAnyE_ready (rs := [12]) (by kernel_rfl) (by simp) ?_
        refine AllReadyE.cons rfl (fun K hK => ?_) AllReadyE.nil
        go_simp
        refine hK.out _ _ (fun h => absurd rfl h) ?_
        clear hK K
        (try simp only [Act.put, List.setIfInBounds_toArray, List.set_cons_zero, List.set_cons_succ, List.getElem_toArray, List.getElem_cons_zero, List.getElem_cons_succ])
        refine wpAnyE_done (by kernel_rfl) ?_ _
        go_wp2_with fail
        go_meet
        exact ⟨A3, c3, w3, hO3.out, hbB.out, rfl⟩
    case rest =>
      obtain ⟨B3, e3, w8, hO3, hb3, rfl⟩ := hcut
      have hu1 : Upd (fun j => j = m) w6 (w8.setCell ⟨m, 2, none⟩ (.slice B3 a.ws.length e3)) := (Upd.of_below (M := fun j => j = m) hb3 fun k hk h => by omega).setCell (p := ⟨m, 2, none⟩) (fun _ => rfl) _
      have h65 := hs65.out
      have K1b := hid ((K1a.out.below_all hb3).set_ 2 (.slice B3 a.ws.length e3))
      have K2b : Hid (Blk (w8.setCell ⟨m, 2, none⟩ (.slice B3 a.ws.length e3)) (m + 1) 51 #[.int .i64 0, .slice none 0 0, .slice none 0 0]) := hid (K2a.out.upd hu1 (by omega))
      have hR2 : Hid (Rd (fun b => w6.heap.size ≤ b) (w8.setCell ⟨m, 2, none⟩ (.slice B3 a.ws.length e3)) 5 B3 a.ws.length (wrCells a.ws)) := hid ((Rd.pre_own hO3 (wrCells_len _)).setCell (by simp only; omega) _)
      have hR1b : Hid (Rd (fun b => w5.heap.size ≤ b) (w8.setCell ⟨m, 2, none⟩ (.slice B3 a.ws.length e3)) 1 A3 a.ks.length (strs a.ks)) := hid (hR1.out.upd hu1 (fun b hb e => by omega))
      have hBb : Hid (Below m w (w8.setCell ⟨m, 2, none⟩ (.slice B3 a.ws.length e3))) := hid ((hBa.out.trans (hb3.mono (by have := hBa.out.size; omega))).setCell (p := ⟨m, 2, none⟩) (Nat.le_refl _) _)
      have hm1 := hid (show m + 1 < w5.heap.size ∧ m < w5.heap.size from ⟨hm2.out, hml⟩)
      generalize w8.setCell ⟨m, 2, none⟩ (.slice B3 a.ws.length e3) = w9 at *
      clear hO3 hb3 hu1 K1a K2a hw5a hR1 hBa
      have y0 : w9.cell? ⟨m, 0, none⟩ = some (.int .i64 a.kind) := K1b.out.cell 0
      have y1 : w9.cell? ⟨m, 1, none⟩ = some (.slice A3 a.ks.length c3) := K1b.out.cell 1
      have y2 : w9.cell? ⟨m, 2, none⟩ = some (.slice B3 a.ws.length e3) := K1b.out.cell 2
      have z0 : w9.cell? ⟨m + 1, 0, none⟩ = some (.int .i64 0) := K2b.out.cell 0
      have z1 : w9.cell? ⟨m + 1, 1, none⟩ = some (.slice none 0 0) := K2b.out.cell 1
      have z2 : w9.cell? ⟨m + 1, 2, none⟩ = some (.slice none 0 0) := K2b.out.cell 2
      have zf := K2b.out.frozen
      go_wp2_with fail
      have kfin := ((K2b.out.set_ 0 (.int .i64 a.kind)).set_ 1 (.slice A3 a.ks.length c3)).set_ 2 (.slice B3 a.ws.length e3)
      have hfin1 : Rd (fun b => w.heap.size ≤ b) (((w9.setCell ⟨m + 1, 0, none⟩ (.int .i64 a.kind)).setCell ⟨m + 1, 1, none⟩ (.slice A3 a.ks.length c3)).setCell ⟨m + 1, 2, none⟩ (.slice B3 a.ws.length e3)) 1 A3 a.ks.length (strs a.ks) := (((hR1b.out.setCell (p := ⟨m + 1, 0, none⟩) (by have := hm1.out; simp only; omega) _).setCell (p := ⟨m + 1, 1, none⟩) (by have := hm1.out; simp only; omega) _).setCell (p := ⟨m + 1, 2, none⟩) (by have := hm1.out; simp only; omega) _).more fun b hb _ => by have := hm1.out; omega
      have hfin2 : Rd (fun b => w.heap.size ≤ b) (((w9.setCell ⟨m + 1, 0, none⟩ (.int .i64 a.kind)).setCell ⟨m + 1, 1, none⟩ (.slice A3 a.ks.length c3)).setCell ⟨m + 1, 2, none⟩ (.slice B3 a.ws.length e3)) 5 B3 a.ws.length (wrCells a.ws) := (((hR2.out.setCell (p := ⟨m + 1, 0, none⟩) (by have := hm1.out; have := hs65.out; simp only; omega) _).setCell (p := ⟨m + 1, 1, none⟩) (by have := hm1.out; have := hs65.out; simp only; omega) _).setCell (p := ⟨m + 1, 2, none⟩) (by have := hm1.out; have := hs65.out; simp only; omega) _).more fun b hb _ => by have := hm1.out; have := hs65.out; omega
      refine bodyPost_ret (v := .agg #[.int .i64 a.kind, .slice A3 a.ks.length c3, .slice B3 a.ws.length e3]) ?_ rfl ?_
      · exact results_cell_row (P := Tryz.prog) rfl _ _ (m + 1) 51 _ (0, 0) _ rfl kfin Tryz.underlying51 rfl (by kernel_rfl)
      · exact ⟨A3, c3, B3, e3, rfl, hfin1, hfin2, by rw [hm]; exact ((hBb.out.setCell (p := ⟨m + 1, 0, none⟩) (by simp) _).setCell (p := ⟨m + 1, 1, none⟩) (by simp) _).setCell (p := ⟨m + 1, 2, none⟩) (by simp) _⟩
end
end Go.Proofs.YtphglnenafdkaaaGreatDoor

namespace Go.Proofs.YtphglnenafdkaaaGreatDoor
open Go.RowKit
set_option linter.unusedVariables false

theorem SActs.all {S : Nat → Prop} {w : World} {A : Option Addr} {us : List SA} (h : SActs S w A us) : SActs (fun b => b < w.heap.size) w A us := ⟨h.row.all, fun a ha => ⟨(h.ok a ha).1.all, (h.ok a ha).2.all⟩⟩
def okKs (ks : List ByteArray) : Prop := ∀ k ∈ ks, k.size ≤ 9223372036854775806
def okWs (ws : List Wr) : Prop := ∀ x ∈ ws, x.key.size ≤ 9223372036854775806 ∧ x.v.s.size ≤ 9223372036854775806
section
variable {w w' : World} {B : Nat}
theorem cell_bel {b o : Nat} {v : Value} (h : Below B w w') (hb : b < B) (hc : w.cell? ⟨b, o, none⟩ = some v) : w'.cell? ⟨b, o, none⟩ = some v := (Upd.of_below (M := fun j => B ≤ j) h fun _ _ h => h).cell hc (by omega)
end
end Go.Proofs.YtphglnenafdkaaaGreatDoor

namespace Go.Proofs.YtphglnenafdkaaaGreatDoor
open Go.RowKit
set_option linter.unusedVariables false
set_option linter.unusedSimpArgs false

/-- a view at block g: its values' map has what L had -/
structure VIn (S : Nat → Prop) (w : World) (g : Nat) (L : List Kv) (vb : Nat) : Prop where
  blk : Blk w g 99 #[.map (some vb)]
  vals : MapF strE w vb (Dv L)
  inS : S g ∧ S vb
  lt : ∀ j, S j → j < w.heap.size
def VAt (S : Nat → Prop) (w : World) (g : Nat) (L : List Kv) : Prop := ∃ vb, VIn S w g L vb
section
variable {S : Nat → Prop} {w w' : World} {g vb : Nat} {L : List Kv}
theorem VIn.keep (h : VIn S w g L vb) (hk : ∀ b, S b → w'.heap[b]? = w.heap[b]?) (hs : w.heap.size ≤ w'.heap.size) : VIn S w' g L vb :=
  ⟨(hk _ h.inS.1).trans h.blk, h.vals.keep (hk _ h.inS.2), h.inS, fun j hj => Nat.lt_of_lt_of_le (h.lt j hj) hs⟩
theorem VAt.below (h : VAt S w g L) (hb : Below w.heap.size w w') : VAt S w' g L := by obtain ⟨_, h⟩ := h; exact ⟨_, h.keep (fun b hb' => hb.block b (h.lt b hb')) hb.size⟩
theorem VAt.upd {M : Nat → Prop} (h : VAt S w g L) (hu : Upd M w w') (hM : ∀ b, S b → ¬ M b) : VAt S w' g L := by obtain ⟨_, h⟩ := h; exact ⟨_, h.keep (fun b hb => hu.block b (h.lt b hb) (hM b hb)) hu.size⟩
theorem VAt.lt (h : VAt S w g L) : ∀ j, S j → j < w.heap.size := by obtain ⟨_, h⟩ := h; exact h.lt
end
theorem valK_zero {s : St} (h : s.Ok) {k : ByteArray} (h0 : (valK k s.L).k = 0) : valK k s.L = vl0 := by
  cases hh : hasK k s.L with
  | false => exact valK_none hh
  | true =>
    obtain ⟨x, hx, hk⟩ := hasK_mem.1 hh
    have h1 := valK_mem h.asc hx
    rw [hk] at h1
    have h2 := h.val x hx
    rw [← h1] at h2
    unfold Vl.ok at h2
    rw [if_pos h0] at h2
    simp at h2
    have e : valK k s.L = ⟨(valK k s.L).k, (valK k s.L).n, (valK k s.L).s⟩ := rfl
    rw [e, h0, h2.1, h2.2]; rfl
theorem dv_get {s : St} (h : s.Ok) (k : ByteArray) : (Dv s.L k).getD (.agg #[.int .i64 0, .int .i64 0, .string ⟨#[]⟩]) = .agg #[.int .i64 (valK k s.L).k, .int .i64 (valK k s.L).n, .string (valK k s.L).s] := by
  unfold Dv
  by_cases h0 : (valK k s.L).k = 0
  · rw [if_pos h0, valK_zero h h0]; rfl
  · rw [if_neg h0]; rfl
theorem zero_val (w : World) : (zeroValue 38).run Tryz.prog w = .ok (.agg #[.int .i64 0, .int .i64 0, .string ⟨#[]⟩]) w := by kernel_rfl
section
variable {S : Nat → Prop} {w w' : World} {g : Nat} {s : St}
set_option maxRecDepth 100000 in
theorem vget_any (k : ByteArray) (h : VAt S w g s.L) (hok : s.Ok) : Calls Tryz.prog 29 #[.pointer (some ⟨g, 0, none⟩), .string k] w fun e w' => e = .returned (.agg #[.int .i64 (valK k s.L).k, .int .i64 (valK k s.L).n, .string (valK k s.L).s]) ∧ Below w.heap.size w w' := by
  have hB : Below w.heap.size w (w.alloc (.cells #[.int .i64 0, .int .i64 0, .string ⟨#[]⟩] 38)) := (Below.refl _ _).alloc (Nat.le_refl _) _
  obtain ⟨vb, h2⟩ := h.below hB
  have hl0 := h2.vals.lookup Tryz.underlying74 zero_val k
  rw [dv_get hok] at hl0
  have hl : (Instr.lookup 74 (.map (some vb)) (.string k) false).run Tryz.prog _ = .ok _ _ := hl0
  have c2 : (w.alloc (.cells #[.int .i64 0, .int .i64 0, .string ⟨#[]⟩] 38)).cell? ⟨g, 0, none⟩ = some (.map (some vb)) := h2.blk.cell 0
  generalize (valK k s.L).k = a at *
  generalize (valK k s.L).n = b at *
  generalize (valK k s.L).s = c at *
  clear h h2 hB hl0 hok
  go_enter Tryz.func29, Tryz.ntmps29
  go_wp2_with fail
  refine bodyPost_ret (v := .agg #[.int .i64 a, .int .i64 b, .string c]) ?_ rfl ?_
  · exact results_cell_row (P := Tryz.prog) rfl _ _ w.heap.size 38 _ (0, 0) _ rfl (Blk.new w _ _) Tryz.underlying38 rfl (by kernel_rfl)
  · exact ⟨rfl, (Below.refl _ _).alloc (Nat.le_refl _) _⟩
set_option maxRecDepth 100000 in
theorem dumpM_any (h : PAt S w g s) : Calls Tryz.prog 32 #[.pointer (some ⟨g, 0, none⟩)] w fun e w' => ∃ A c, e = .returned (.slice A (dumpL s.L).length c) ∧ w'.ownsRow (w.heap.size + 1) 70 4 (.slice A (dumpL s.L).length c) (dumpL s.L).length (kvCells (dumpL s.L)) ∧ Below w.heap.size w w' := by
  obtain ⟨cb, cc, mb, vb, h⟩ := h
  have c2 := h.cells.2.2
  have hd := hid (dump_any h.vals h.ok)
  clear h
  go_enter Tryz.func32, Tryz.ntmps32
  go_wp2_with fail
  refine hd.out.mono ?_
  rintro e w2 ⟨A, c, rfl, h1, h2⟩
  have h1 := hid h1
  have h2 := hid h2
  go_wp2_with fail
  go_ret
  exact ⟨A, c, rfl, h1.out, h2.out⟩
set_option maxRecDepth 100000 in
set_option maxHeartbeats 4000000 in
theorem view_any (h : PAt S w g s) : Calls Tryz.prog 19 #[.pointer (some ⟨g, 0, none⟩)] w fun e w' => ∃ S' v, e = .returned (.pointer (some ⟨v, 0, none⟩)) ∧ VAt S' w' v s.L ∧ (∀ j, S' j → w.heap.size ≤ j) ∧ Below w.heap.size w w' := by
  obtain ⟨cb, cc, mb, vb, h⟩ := h
  have hok := hid h.ok
  have hb0 : Below w.heap.size w ((w.alloc (.map #[] 0)).alloc (.cells #[.map (some w.heap.size)] 99)) := below_two _ _
  have h2 := h.below hb0
  have c2 := h2.cells.2.2
  obtain ⟨l, hml, hd⟩ := h2.vals
  obtain ⟨es, clock, hes, hpr, hst⟩ := id hml
  have hmm := @run_makeMap Tryz.prog
  have hrg := run_range_map (P := Tryz.prog) ((w.alloc (.map #[] 0)).alloc (.cells #[.map (some w.heap.size)] 99)) 74 9 38 vb es clock Tryz.underlying74 hes
  have kv0 := hid (Blk.new' (w.alloc (.map #[] 0)) 99 #[.map (some w.heap.size)] (g := w.heap.size + 1) (by simp))
  have hm0 := hid ((MapF.new (E := strE) w).keep (Below.heap_alloc (w.alloc (.map #[] 0)) (.cells #[.map (some w.heap.size)] 99) _ (by simp)))
  have hsz := hid (show ((w.alloc (.map #[] 0)).alloc (.cells #[.map (some w.heap.size)] 99)).heap.size = w.heap.size + 2 by simp)
  have hM := hid hml
  have hD := hid hd
  have hP := hid hpr
  have hS := hid hst
  have hE := hid hes
  have hV := hid h.vals.lt
  have hB1 := hid hb0
  clear h h2 hml hd hpr hst hes hb0
  go_enter Tryz.func19, Tryz.ntmps19
  go_upto_region 4 with fail
  generalize (w.alloc (.map #[] 0)).alloc (.cells #[.map (some w.heap.size)] 99) = W1 at *
  go_wp2_with fail
  have hvlt : Hid (vb < W1.heap.size) := hid (by have := hV.out; have := hsz.out; omega)
  rw [hsz.out]
  go_loopw [] (fun wr => ∃ (seen : Array Nat) (c0 : Nat) (out : List (ByteArray × Value)), wr.heap[w.heap.size + 2]? = some (.mapIter (some vb) clock seen c0) ∧ clock ≤ c0 ∧ MapF strE wr w.heap.size (fun y => getK y out) ∧ Blk wr (w.heap.size + 1) 99 #[.map (some w.heap.size)] ∧ Below w.heap.size w wr ∧ (doneOf es seen).Perm (encs strE out) ∧ (∀ x ∈ out, ∃ v : Vl, x.2 = vlV v)) (fun wr => (leftOf es (wr.iterSeen (w.heap.size + 2))).size)
  case atStart =>
    refine ⟨#[], clock, [], ?_, Nat.le_refl _, ?_, kv0.out.alloc _, hB1.out.alloc hB1.out.size _, by rw [done_none]; exact List.Perm.nil, fun x hx => by cases hx⟩
    · rw [← hsz.out]; exact heap_alloc_new _ _
    · exact (hm0.out.keep (Below.heap_alloc _ _ _ (by have := hsz.out; omega))).congr fun y => rfl
  case round =>
    clear hrg
    obtain ⟨seen, c0, out, hr, hc0, hmo, hkv, hB0, hdone, hvs⟩ := hrel
    have hesr := (hB0.block _ hV.out).trans ((hB1.out.block _ hV.out).symm.trans hE.out)
    have hseen0 := hid (seen_of hr)
    rcases range_step (P := Tryz.prog) hr hesr hS.out hc0 with ⟨h0, hnx⟩ | ⟨e, wn, he, hns, hsh, hun, hszn, hrn, hesn, hnx, hent⟩
    · have hpl : l.Perm out := encs_inj (E := strE) W1 (by rw [← hP.out, ← done_all h0]; exact hdone)
      have hfin : Hid (VAt (fun j => w.heap.size ≤ j ∧ j < wr.heap.size) wr (w.heap.size + 1) s.L) := hid ⟨_, hkv, hmo.congr fun y => by
        rw [← hD.out]
        have hno : (out.map (·.1)).Nodup := (hpl.map _).nodup_iff.1 hM.out.nodup
        cases hg : getK y l with
        | none =>
          rw [getK_none] at hg ⊢
          exact fun p hp => hg p (hpl.symm.subset hp)
        | some u => exact (getK_mem hno).2 (hpl.subset ((getK_mem hM.out.nodup).1 hg)), ⟨⟨by omega, hkv.lt⟩, ⟨Nat.le_refl _, hmo.lt⟩⟩, fun j hj => hj.2⟩
      have hB := hid hB0
      clear hpl h0 hr hesr hmo hkv hB0 hdone hvs
      go_wp2_with fail
      go_ret
      exact ⟨_, _, rfl, hfin.out, fun j hj => hj.1, hB.out⟩
    · obtain ⟨p, hp, hek, hev⟩ := done_list (E := strE) (w := W1) (b := vb) (clock := clock) hP.out he
      have hget := (getK_mem hM.out.nodup).2 (show (p.1, p.2) ∈ l from hp)
      rw [hD.out] at hget
      obtain ⟨hdm, hev2⟩ := dv_some hok.out.asc hget
      obtain ⟨y, hy⟩ : ∃ y, y = p.1 := ⟨_, rfl⟩
      obtain ⟨v, hv⟩ : ∃ v, v = valK p.1 s.L := ⟨_, rfl⟩
      rw [← hv] at hev2
      have hek : e.key = .string y := by rw [hek, hy]; rfl
      have hev : e.val = .agg #[.int .i64 v.k, .int .i64 v.n, .string v.s] := by rw [hev, hev2]; rfl
      have hpush := hid ((done_push hS.out.2.1 he hns).trans (hdone.cons _))
      rw [hek, hev] at hnx hent hpush
      have hwl : w.heap.size + 2 < wn.heap.size := (Array.getElem?_eq_some_iff.1 hrn).1
      have hmon := hmo.upd hun (fun e => by omega)
      have hkvn := hkv.upd hun (fun e => by omega)
      have hBn : Below w.heap.size w wn := hB0.trans (hun.below (B := w.heap.size) hB0.size fun k hk e => by omega)
      have hvs' := hid hvs
      have hsh' := hid hsh
      clear hp hget hdm hev2 hek hev hy hv hmo hkv hB0 hdone hr hesr hun hesn he hns hsh hszn hvs
      go_upto_region 7 with fail
      have kz := Blk.new wn 38 #[.int .i64 v.k, .int .i64 v.n, .string v.s]
      have hkv5 := hid (hkvn.alloc (.cells #[.int .i64 v.k, .int .i64 v.n, .string v.s] 38))
      have hmo5 := hmon.keep (Below.heap_alloc wn (.cells #[.int .i64 v.k, .int .i64 v.n, .string v.s] 38) _ (by omega))
      have hr5 := (Below.heap_alloc wn (.cells #[.int .i64 v.k, .int .i64 v.n, .string v.s] 38) _ hwl).trans hrn
      have hB5 := hid (hBn.alloc hBn.size (.cells #[.int .i64 v.k, .int .i64 v.n, .string v.s] 38))
      generalize wn.alloc (.cells #[.int .i64 v.k, .int .i64 v.n, .string v.s] 38) = w5 at *
      have x0 := kz.cell 0
      have x1 := kz.cell 1
      have x2 := kz.cell 2
      simp only [List.getElem?_toArray, List.getElem?_cons_zero, List.getElem?_cons_succ] at x0 x1 x2
      have v0 : w5.cell? ⟨w.heap.size + 1, 0, none⟩ = some (.map (some w.heap.size)) := hkv5.out.cell 0
      generalize wn.heap.size = m at *
      have hmod : MapF strE w5.drew w.heap.size _ := hmo5
      obtain ⟨w6, hmu0, hm60, hg60, _⟩ := hmod.update Tryz.underlying74 y (.agg #[.int .i64 v.k, .int .i64 v.n, .string v.s])
      have hmu : (Instr.mapUpdate 74 (.map (some w.heap.size)) (.string y) (.agg #[.int .i64 v.k, .int .i64 v.n, .string v.s])).run Tryz.prog w5.drew = .ok () w6 := hmu0
      have hu6 : Upd (fun j => j = w.heap.size) w5 w6 := (Upd.refl (fun j => j = w.heap.size) w5).drew.trans (upd_grown hg60 fun j hj => by injection hj with hj; exact hj.symm) fun _ _ h => h
      have hm6 := hid hm60
      have hU6 := hid hu6
      have hr6 := hid ((hu6.block _ (Array.getElem?_eq_some_iff.1 hr5).1 (by omega)).trans hr5)
      clear kz hmon hkvn hBn hmo5 hmod hmu0 hm60 hg60 hu6 hwl hrn hr5
      go_still_tail 6, (by kernel_rfl)
      change wpList _ _ _ _ _ w5.drew
      go_wp2_with fail
      go_roundw
      case rel =>
        refine ⟨seen.push e.born, clock, (y, vlV v) :: out, hr6.out, Nat.le_refl _, hm6.out.congr fun z => by rw [getK_cons]; rfl, hkv5.out.upd hU6.out (by omega), hB5.out.trans (hU6.out.below (B := w.heap.size) hB5.out.size fun k hk e => by omega), hpush.out, fun x hx => ?_⟩
        rcases List.mem_cons.1 hx with rfl | hx
        · exact ⟨v, rfl⟩
        · exact hvs'.out x hx
      case measure =>
        rw [seen_of hr6.out, hseen0.out]
        exact hsh'.out
end
end Go.Proofs.YtphglnenafdkaaaGreatDoor

namespace Go.Proofs.YtphglnenafdkaaaGreatDoor
open Go.RowKit
set_option linter.unusedVariables false
set_option linter.unusedSimpArgs false

theorem run_eqVal9998 (a b : Vl) (w : World) :
    (Op.equalIn 9999 38 (.agg #[.int .i64 a.k, .int .i64 a.n, .string a.s]) (.agg #[.int .i64 b.k, .int .i64 b.n, .string b.s])).run Tryz.prog w = .ok (decide (a = b)) w := by
  have ht : Tryz.prog.underlying 38 = some (.struct (Tryz.prog.fieldsOf 38)) := by kernel_rfl
  have hp : Tryz.prog.stoodInHeld 38 = false := by kernel_rfl
  rw [run_equalIn_agg w 9998 _ _ _ ht hp]
  have e : decide (a = b) = (a.k == b.k && (a.n == b.n && (a.s.toList == b.s.toList))) := by
    rw [bytes_dec, Bool.eq_iff_iff]
    simp only [decide_eq_true_eq, Bool.and_eq_true, beq_iff_eq]
    exact ⟨fun e => by subst e; simp, fun ⟨h1, h2, h3⟩ => by cases a; cases b; simp_all⟩
  rw [e]
  clear ht hp e
  simp only [Program.fieldsOf, Tryz.underlying38]
  go_simp
  by_cases h1 : a.k = b.k <;> by_cases h2 : a.n = b.n <;> by_cases h3 : a.s.toList = b.s.toList <;> simp [h1, h2, h3]
set_option maxRecDepth 100000 in
theorem run_eqItem (a b : Kv) (w : World) :
    (Op.equalIn 10000 70 (.agg #[.string a.1, .int .i64 a.2.k, .int .i64 a.2.n, .string a.2.s]) (.agg #[.string b.1, .int .i64 b.2.k, .int .i64 b.2.n, .string b.2.s])).run Tryz.prog w = .ok (decide (a = b)) w := by
  have ht : Tryz.prog.underlying 70 = some (.struct (Tryz.prog.fieldsOf 70)) := by kernel_rfl
  have hp : Tryz.prog.stoodInHeld 70 = false := by kernel_rfl
  have hv : ∀ w, (Op.equalIn 9999 38 (.agg #[.int .i64 a.2.k, .int .i64 a.2.n, .string a.2.s]) (.agg #[.int .i64 b.2.k, .int .i64 b.2.n, .string b.2.s])).run Tryz.prog w = .ok (decide (a.2 = b.2)) w := run_eqVal9998 a.2 b.2
  have e : decide (a = b) = ((a.1.toList == b.1.toList) && decide (a.2 = b.2)) := by
    rw [bytes_dec, Bool.eq_iff_iff]
    simp only [decide_eq_true_eq, Bool.and_eq_true]
    exact ⟨fun e => by subst e; simp, fun ⟨h1, h2⟩ => by obtain ⟨a1, a2⟩ := a; obtain ⟨b1, b2⟩ := b; simp_all⟩
  rw [e]
  generalize decide (a.2 = b.2) = r at *
  have he : (Op.equalIn 10000 70 (.agg #[.string a.1, .int .i64 a.2.k, .int .i64 a.2.n, .string a.2.s]) (.agg #[.string b.1, .int .i64 b.2.k, .int .i64 b.2.n, .string b.2.s])).run Tryz.prog w = (Op.eqFields 9999 #[.string a.1, .int .i64 a.2.k, .int .i64 a.2.n, .string a.2.s] #[.string b.1, .int .i64 b.2.k, .int .i64 b.2.n, .string b.2.s] (Tryz.prog.fieldsOf 70).toList).run Tryz.prog w := run_equalIn_agg w 9999 _ _ _ ht hp
  rw [he]
  clear he ht hp e
  simp only [Program.fieldsOf, Tryz.underlying70]
  have h9 := Tryz.underlying9
  obtain ⟨a1, ak, an, at_⟩ := a
  obtain ⟨b1, bk, bn, bt⟩ := b
  simp only at hv ⊢
  cases h1 : (a1.toList == b1.toList) <;> cases r <;> go_simp <;> simp_all
end Go.Proofs.YtphglnenafdkaaaGreatDoor

namespace Go.Proofs.YtphglnenafdkaaaGreatDoor
open Go.RowKit
set_option linter.unusedVariables false
set_option linter.unusedSimpArgs false

theorem num_any (n : Int) (w : World) : Calls Tryz.prog 11 #[.int .i64 n] w fun e w' => e = .returned (.int .i64 n) ∧ w' = w := by
  go_enter Tryz.func11, Tryz.ntmps11
  go_wp2_with fail
  go_ret
  exact ⟨rfl, rfl⟩
def ka : ByteArray := ⟨#[97]⟩
def kb : ByteArray := ⟨#[98]⟩
def five : Vl := ⟨1, 5, ⟨#[]⟩⟩
def wsA : List Wr := [⟨ka, false, five⟩]
def stA : St := ⟨2, 3, []⟩
def stB : St := claimS stA [ka, kb]
def stC : St := applyS stB wsA
theorem lv_e1 : applyE stA wsA = 41 := by decide +kernel
theorem lv_e2 : claimE stA [ka, kb] = 0 := by decide +kernel
theorem lv_e3 : applyE stB wsA = 0 := by decide +kernel
theorem lv_d : dumpL stC.L = [(ka, five)] := by decide +kernel
theorem lv_g : valK ka stC.L = five := by decide +kernel
theorem lv_v : valK ka stB.L = vl0 := by decide +kernel
theorem lv_h : hasK kb stC.L = true := by decide +kernel
section
variable {S : Nat → Prop} {w w' : World} {g : Nat} {s : St}
theorem live_apply (h : PAt S w g s) : Calls Tryz.prog 12 #[.pointer (some ⟨g, 0, none⟩), .slice (some ⟨w.heap.size, 0, none⟩) 1 1] (w.alloc (.cells #[.string ⟨#[97]⟩, .bool false, .int .i64 1, .int .i64 5, .string ⟨#[]⟩] 40)) fun e w' => e = .returned (.int .i64 (applyE s wsA)) ∧ PAt S w' g (applyS s wsA) ∧ Upd S w w' := by
  have hB : Below w.heap.size w (w.alloc (.cells #[.string ⟨#[97]⟩, .bool false, .int .i64 1, .int .i64 5, .string ⟨#[]⟩] 40)) := (Below.refl _ _).alloc (Nat.le_refl _) _
  have hr := Rd.new w 40 5 1 #[.string ⟨#[97]⟩, .bool false, .int .i64 1, .int .i64 5, .string ⟨#[]⟩] w.heap.size rfl rfl
  refine (apply_any (c := 1) wsA (h.below hB) hr (fun b hb hS => by have := h.lt _ hS; omega) (fun x hx => ?_) (by decide)).mono ?_
  · rw [List.mem_singleton.1 hx]; decide
  · rintro e w' ⟨rfl, h1, h2⟩
    exact ⟨rfl, h1, (Upd.of_below (M := S) hB fun k hk h => by omega).trans h2 fun _ _ h => h⟩
theorem live_claim (h : PAt S w g s) : Calls Tryz.prog 10 #[.pointer (some ⟨g, 0, none⟩), .slice (some ⟨w.heap.size, 0, none⟩) 2 2] (w.alloc (.cells #[.string ⟨#[97]⟩, .string ⟨#[98]⟩] 9)) fun e w' => e = .returned (.int .i64 (claimE s [ka, kb])) ∧ PAt S w' g (claimS s [ka, kb]) ∧ Upd S w w' := by
  have hB : Below w.heap.size w (w.alloc (.cells #[.string ⟨#[97]⟩, .string ⟨#[98]⟩] 9)) := (Below.refl _ _).alloc (Nat.le_refl _) _
  have hr := Rd.new w 9 1 2 #[.string ⟨#[97]⟩, .string ⟨#[98]⟩] w.heap.size rfl rfl
  refine (claim_any (c := 2) [ka, kb] (h.below hB) hr (fun b hb hS => by have := h.lt _ hS; omega) (fun x hx => ?_) (by decide)).mono ?_
  · simp only [List.mem_cons, List.not_mem_nil, or_false] at hx
    rcases hx with rfl | rfl <;> decide
  · rintro e w' ⟨rfl, h1, h2⟩
    exact ⟨rfl, h1, (Upd.of_below (M := S) hB fun k hk h => by omega).trans h2 fun _ _ h => h⟩
theorem live_new (w : World) : Calls Tryz.prog 14 #[.int .i64 2, .int .i64 3] w fun e w' => ∃ S g, e = .returned (.tuple #[.pointer (some ⟨g, 0, none⟩), .int .i64 0]) ∧ PAt S w' g stA ∧ (∀ j, S j → w.heap.size ≤ j) ∧ Below w.heap.size w w' := new_ok 2 3 w (by omega) (by omega)
set_option maxRecDepth 100000 in
set_option maxHeartbeats 4000000 in
theorem live_any (w : World) : Calls Tryz.prog 9 #[] w fun e w' => e = .returned (.bool true) ∧ Below w.heap.size w w' := by
  go_enter Tryz.func9, Tryz.ntmps9
  go_wp2_with fail
  refine (live_new w).mono ?_
  rintro e w1 ⟨S, g, rfl, hp0, hS0, hb0⟩
  have P1 := hid hp0; have hS := hid hS0; have B1 := hid hb0
  clear hp0 hS0 hb0
  go_wp2_with fail
  refine (num_any _ _).mono ?_
  rintro e wq ⟨rfl, hwq⟩
  obtain rfl := hwq.symm
  have ha := hid (live_apply P1.out)
  rw [lv_e1] at ha
  go_wp2_with fail
  refine ha.out.mono ?_
  rintro e w2 ⟨rfl, hp0, hu0⟩
  rw [applyS_no (by rw [lv_e1]; decide)] at hp0
  have P2 := hid hp0
  have B2 : Hid (Below w.heap.size w w2) := hid (B1.out.trans (hu0.below B1.out.size fun k hk h => by have := hS.out k h; omega))
  clear hp0 hu0 ha P1 B1
  have hc := hid (live_claim P2.out)
  rw [lv_e2] at hc
  go_wp2_with fail
  refine hc.out.mono ?_
  rintro e w3 ⟨rfl, hp0, hu0⟩
  have P3 : Hid (PAt S w3 g stB) := hid hp0
  have B3 : Hid (Below w.heap.size w w3) := hid (B2.out.trans (hu0.below B2.out.size fun k hk h => by have := hS.out k h; omega))
  clear hp0 hu0 hc P2 B2
  go_wp2_with fail
  refine (view_any P3.out).mono ?_
  rintro e w4 ⟨S', v, rfl, hv0, hs0, hb0⟩
  have V4 := hid hv0
  have P4 := hid (P3.out.below hb0)
  have B4 : Hid (Below w.heap.size w w4) := hid (B3.out.trans (hb0.mono B3.out.size))
  have hSS : Hid (∀ b, S' b → ¬ S b) := hid fun b h1 h2 => by have := hs0 b h1; have := P3.out.lt b h2; omega
  clear hv0 hs0 hb0 P3 B3
  have ha := hid (live_apply P4.out)
  rw [lv_e3] at ha
  go_wp2_with fail
  refine ha.out.mono ?_
  rintro e w5 ⟨rfl, hp0, hu0⟩
  have P5 : Hid (PAt S w5 g stC) := hid hp0
  have B5 : Hid (Below w.heap.size w w5) := hid (B4.out.trans (hu0.below B4.out.size fun k hk h => by have := hS.out k h; omega))
  have V5 := hid (V4.out.upd hu0 hSS.out)
  clear hp0 hu0 ha P4 B4 V4
  have hd0 := dumpM_any P5.out
  rw [lv_d] at hd0
  have hd := hid hd0
  clear hd0
  go_wp2_with fail
  refine hd.out.mono ?_
  rintro e w6 ⟨A, c, rfl, ho0, hb0⟩
  have P6 := hid (P5.out.below hb0)
  have V6 := hid (V5.out.below hb0)
  have B6 : Hid (Below w.heap.size w w6) := hid (B5.out.trans (hb0.mono B5.out.size))
  obtain ⟨b, o, hA, _, _, x0, x1, x2, x3⟩ := rd_kv (L := [(ka, five)]) (Rd.of_own ho0) (i := 0) (by decide)
  subst hA
  clear ho0 hb0 hd P5 V5 B5
  simp only [List.getElem_cons_zero, five, ka, Nat.zero_mul, Nat.add_zero] at x0 x1 x2 x3
  have heq : ∀ w, (Op.equalIn 10000 70 (.agg #[.string ⟨#[97]⟩, .int .i64 1, .int .i64 5, .string ⟨#[]⟩]) (.agg #[.string ⟨#[97]⟩, .int .i64 1, .int .i64 5, .string ⟨#[]⟩])).run Tryz.prog w = .ok true w := fun w => run_eqItem (ka, five) (ka, five) w
  have hgd : Tryz.prog.eqGuardType Tryz.prog.depth 70 = false := by kernel_rfl
  have hg0 := get_any ka P6.out
  rw [lv_g] at hg0
  simp only [five] at hg0
  have hf1 : ∀ w', (Instr.field 38 (.agg #[.int .i64 1, .int .i64 5, .string ⟨#[]⟩]) 1).run Tryz.prog w' = .ok (.int .i64 5) w' := fun _ => by kernel_rfl
  have hf0 : ∀ w', (Instr.field 38 (.agg #[.int .i64 0, .int .i64 0, .string ⟨#[]⟩]) 0).run Tryz.prog w' = .ok (.int .i64 0) w' := fun _ => by kernel_rfl
  have hg := hid hg0
  clear hg0
  go_wp2_with (go_at_call 11; refine (num_any _ _).mono ?_; rintro e wq ⟨rfl, hwq⟩; obtain rfl := hwq.symm)
  refine hg.out.mono ?_
  rintro e w7 ⟨rfl, hb0⟩
  have P7 := hid (P6.out.below hb0)
  have V7 := V6.out.below hb0
  have B7 : Hid (Below w.heap.size w w7) := hid (B6.out.trans (hb0.mono B6.out.size))
  have hv0 := vget_any ka V7 (claim_ok (st_ok (p := 2) (r := 3) (by omega) (by omega)) _)
  rw [lv_v] at hv0
  simp only [vl0] at hv0
  have hv := hid hv0
  clear hb0 hg P6 V6 B6 V7 hv0 x0 x1 x2 x3
  go_wp2_with fail
  refine hv.out.mono ?_
  rintro e w8 ⟨rfl, hb0⟩
  have P8 := hid (P7.out.below hb0)
  have B8 : Hid (Below w.heap.size w w8) := hid (B7.out.trans (hb0.mono B7.out.size))
  have hc0 := claimed_b kb P8.out (by decide)
  rw [lv_h] at hc0
  have hc := hid hc0
  clear hb0 hv P7 B7 hc0
  go_wp2_with fail
  refine hc.out.mono ?_
  rintro e w9 ⟨rfl, hb0⟩
  have B9 : Hid (Below w.heap.size w w9) := hid (B8.out.trans (hb0.mono B8.out.size))
  clear hb0 hc P8 B8
  go_wp2_with fail
  go_ret
  exact ⟨rfl, B9.out⟩
end
end Go.Proofs.YtphglnenafdkaaaGreatDoor

namespace Go.Proofs.YtphglnenafdkaaaGreatDoor
open Go.RowKit
set_option linter.unusedVariables false
set_option linter.unusedSimpArgs false

theorem up_set {k : ByteArray} {v : Vl} : ∀ {L : List Kv}, Asc L → hasK k L = true → upK k v L = L.set (posK k L) (k, v) := by
  intro L
  induction L with
  | nil => intro _ h; cases h
  | cons x l ih =>
    intro h hk
    have h' := List.pairwise_cons.1 h
    rw [hasK_cons] at hk
    show (if x.1 = k then (k, v) else x) :: upK k v l = _
    by_cases h1 : ltB x.1 k = true
    · have hne := ltB_ne h1
      simp [hne] at hk
      rw [pos_t h1, if_neg hne, ih h'.2 hk]; rfl
    · have hx : x.1 = k := by
        rcases hasK_asc h (by simpa using h1) with e | e
        · exact e
        · rw [hasK_cons] at e; rw [e] at hk; cases hk
      rw [pos_f h1, pos_z h'.1 h1, if_pos hx]
      have : upK k v l = l := by
        unfold upK
        have e : ∀ y ∈ l, (if y.1 = k then (k, v) else y) = y := fun y hy => if_neg fun e => by
          have := h'.1 y hy
          rw [hx, e, ltB_irrefl] at this; cases this
        rw [List.map_congr_left e]; simp
      rw [this]; rfl
theorem kv_get {L : List Kv} {j : Nat} (hj : j < L.length * 4) : (kvCells L)[j]? = some ((encI (L[j / 4]'(by omega)))[j % 4]'(by simp [encI]; omega)) := by
  obtain ⟨h1, h2, h3, h4⟩ := kvCells_at (L := L) (i := j / 4) (x := L[j / 4]'(by omega)) (by simp [show j / 4 < L.length by omega])
  have hr : j % 4 < 4 := Nat.mod_lt _ (by decide)
  have hj4 : j = j / 4 * 4 + j % 4 := by omega
  have hc : j % 4 = 0 ∨ j % 4 = 1 ∨ j % 4 = 2 ∨ j % 4 = 3 := by omega
  rcases hc with e | e | e | e
  · rw [show j / 4 * 4 = j by omega] at h1; simpa [encI, e] using h1
  · rw [show j / 4 * 4 + 1 = j by omega] at h2; simpa [encI, e] using h2
  · rw [show j / 4 * 4 + 2 = j by omega] at h3; simpa [encI, e] using h3
  · rw [show j / 4 * 4 + 3 = j by omega] at h4; simpa [encI, e] using h4
theorem own_kv_set {w : World} {base g n cap : Nat} {L : List Kv} (h : w.ownsRow base 70 4 (.slice (some ⟨g, 0, none⟩) n cap) n (kvCells L)) (hn : n = L.length) {p : Nat} (hp : p < n) {k : ByteArray} (hk : (L[p]'(by omega)).1 = k) (v : Vl) :
    (((w.setCell ⟨g, p * 4 + 1, none⟩ (.int .i64 v.k)).setCell ⟨g, p * 4 + 2, none⟩ (.int .i64 v.n)).setCell ⟨g, p * 4 + 3, none⟩ (.string v.s)).ownsRow base 70 4 (.slice (some ⟨g, 0, none⟩) n cap) n (kvCells (L.set p (k, v))) := by
  rcases h.2 with ⟨_, h0⟩ | ⟨g', cap', cur, hv, hgb, hgh, hgn, hgm, hgs, hgt⟩
  · omega
  injection hv with e1 e2 e3
  injection e1 with e1; injection e1 with e1 _ _
  subst e1; subst e3
  have hb : Blk w g 70 cur := hgh
  refine ⟨by rw [kvCells_len, List.length_set, hn], .inr ⟨g, cap, _, rfl, hgb, ((hb.set_ (p * 4 + 1) (.int .i64 v.k)).set_ (p * 4 + 2) (.int .i64 v.n)).set_ (p * 4 + 3) (.string v.s), hgn, hgm, by simp [hgs], ?_⟩⟩
  apply List.ext_getElem?
  intro j
  by_cases hj : j < n * 4
  · rw [List.getElem?_take_of_lt hj, Array.getElem?_toList, kv_get (by rw [List.length_set, ← hn]; exact hj)]
    have hold : cur[j]? = (kvCells L)[j]? := by rw [← hgt, List.getElem?_take_of_lt hj, Array.getElem?_toList]
    rw [kv_get (by rw [← hn]; exact hj)] at hold
    have hjs : j < cur.size := by omega
    by_cases hq : j / 4 = p
    · subst hq
      simp only [List.getElem_set_self]
      have hc : j % 4 = 0 ∨ j % 4 = 1 ∨ j % 4 = 2 ∨ j % 4 = 3 := by omega
      rcases hc with e | e | e | e
      · rw [Array.getElem?_setIfInBounds_ne (by omega), Array.getElem?_setIfInBounds_ne (by omega), Array.getElem?_setIfInBounds_ne (by omega), hold]
        simp [encI, e, hk]
      · rw [Array.getElem?_setIfInBounds_ne (by omega), Array.getElem?_setIfInBounds_ne (by omega), show j / 4 * 4 + 1 = j by omega, Array.getElem?_setIfInBounds_self_of_lt hjs]
        simp [encI, e]
      · rw [Array.getElem?_setIfInBounds_ne (by omega), show j / 4 * 4 + 2 = j by omega, Array.getElem?_setIfInBounds_self_of_lt (by simpa using hjs)]
        simp [encI, e]
      · rw [show j / 4 * 4 + 3 = j by omega, Array.getElem?_setIfInBounds_self_of_lt (by simpa using hjs)]
        simp [encI, e]
    · rw [Array.getElem?_setIfInBounds_ne (by omega), Array.getElem?_setIfInBounds_ne (by omega), Array.getElem?_setIfInBounds_ne (by omega), hold]
      simp only [List.getElem_set_ne (Ne.symm hq)]
  · rw [List.getElem?_take_eq_none (by omega), List.getElem?_eq_none (by rw [kvCells_len, List.length_set]; omega)]
section
variable {S : Nat → Prop} {w w' : World} {r : Nat} {s : St}
set_option maxRecDepth 100000 in
set_option maxHeartbeats 4000000 in
theorem rapply_any {Sk : Nat → Prop} {A : Option Addr} {c : Nat} (ws : List Wr) (h : RAt S w r s) (hr : Rd Sk w 5 A ws.length (wrCells ws)) (hs : ∀ x ∈ ws, x.key.size ≤ 9223372036854775806 ∧ x.v.s.size ≤ 9223372036854775806) (hd : ∀ b, Sk b → b < w.heap.size ∧ b ≠ r) (hn : ws.length ≤ 1000000) :
    Calls Tryz.prog 18 #[.pointer (some ⟨r, 0, none⟩), .slice A ws.length c] w fun e w' => e = .returned (.int .i64 (applyE s ws)) ∧ RGo S w r (applyS s ws) w' := by
  have HH := hid h
  have HR := hid hr
  have HS := hid hs
  have hgd := guardVal
  have hN : (ws.length : Int) ≤ 1000000 := by omega
  have hgo : Hid (∀ w', Below w.heap.size w w' → ∀ e, applyE s ws = e → e ≠ 0 → RGo S w r (applyS s ws) w') := hid fun w' hb e he hne => ⟨S, by rw [applyS_no (by rw [he]; exact hne)]; exact HH.out.below hb, fun j hj => .inl hj, .of_below hb fun k hk h => by omega⟩
  clear h hr hs hn
  go_enter Tryz.func18, Tryz.ntmps18
  go_wp2_with fail
  go_loopw [5] (fun v wr => ∃ (k : Nat), v = .int .i64 k ∧ k ≤ ws.length ∧ Below w.heap.size w wr ∧ ∀ j, j < k → wrE s ws j = 0) (fun v _ => ws.length - (intOf v).toNat)
  case atStart => exact ⟨0, rfl, Nat.zero_le _, Below.refl _ _, fun j h => by omega⟩
  case round =>
    obtain ⟨k, rfl, hk, hB0, ha0⟩ := hrel
    have hB := hid hB0
    have ha := hid ha0
    clear hB0 ha0
    by_cases hlt : k < ws.length
    · have i1 : (k : Int) < (ws.length : Int) := by omega
      obtain ⟨b, o, rfl, _, hbl, c0, c1, c2, c3, c4⟩ := rd_wr (HR.out.below_all hB.out) hlt
      obtain ⟨hks, hvs⟩ := HS.out _ (List.getElem_mem hlt)
      obtain ⟨x, hx⟩ : ∃ x, x = ws[k] := ⟨_, rfl⟩
      rw [← hx] at c0 c1 c2 c3 c4 hks hvs
      obtain ⟨y, hy⟩ : ∃ y, ws.getD (k - 1) wr0 = y := ⟨_, rfl⟩
      have hxe : Hid (ws.getD k wr0 = x) := hid (by rw [hx]; simp [List.getD_eq_getElem?_getD, hlt])
      have hye := hid hy
      have hE := hid (wrE_at (s := s) hxe.out hy)
      clear hx hy
      go_upto_region 5 with fail
      have kB0 := Blk.new wr 40 #[.string x.key, .bool x.gone, .int .i64 x.v.k, .int .i64 x.v.n, .string x.v.s]
      have hB2 : Below wr.heap.size wr (wr.alloc (.cells #[.string x.key, .bool x.gone, .int .i64 x.v.k, .int .i64 x.v.n, .string x.v.s] 40)) := (Below.refl _ _).alloc (Nat.le_refl _) _
      have HB2 := hid (hB.out.trans (hB2.mono hB.out.size))
      generalize wr.alloc (.cells #[.string x.key, .bool x.gone, .int .i64 x.v.k, .int .i64 x.v.n, .string x.v.s] 40) = w2 at *
      have KB := hid kB0
      have Bc := hid hbl
      generalize wr.heap.size = m at *
      clear kB0 hB2 c0 c1 c2 c3 c4 hbl hB
      have x0 : w2.cell? ⟨m, 0, none⟩ = some (.string x.key) := KB.out.cell 0
      have hvk := hid (rvalidk_any x.key w2 hks)
      go_wp2_with fail
      refine hvk.out.mono ?_
      rintro e w3 ⟨rfl, rfl⟩
      clear hvk
      cases hv0 : validK x.key with
      | false =>
        have hfin : Hid (applyE s ws = 30) := hid (applyE_first (by decide) (fun j hj => ha.out j hj) (by rw [hE.out, if_pos hv0]) hlt)
        clear hv0 hE
        go_wp2_with fail
        go_ret
        exact ⟨by rw [hfin.out]; rfl, hgo.out _ (HB2.out) _ hfin.out (by decide)⟩
      | true =>
      have hv := hid hv0
      clear hv0
      have x0 : w3.cell? ⟨m, 0, none⟩ = some (.string x.key) := KB.out.cell 0
      go_upto_region 7 with fail
      by_cases hbad : 0 < k ∧ ltB y.key x.key = false
      · obtain ⟨hk0, hl0⟩ := hbad
        have hfin : Hid (applyE s ws = 40) := hid (applyE_first (by decide) (fun j hj => ha.out j hj) (by rw [hE.out, if_neg (by simp [hv.out]), if_pos ⟨hk0, hl0⟩]) hlt)
        obtain ⟨j, hjk⟩ : ∃ j, j + 1 = k := ⟨k - 1, by omega⟩
        have hj : j < ws.length := by omega
        obtain ⟨b', o', e, _, _, d0, _⟩ := rd_wr (HR.out.below_all HB2.out) hj
        injection e with e; injection e with e1 e2; subst e1; subst e2
        have hyj : ws[j] = y := by
          have := hye.out
          rw [show k - 1 = j by omega] at this
          rw [← this]; simp [List.getD_eq_getElem?_getD, hj]
        rw [hyj] at d0
        have i0 : (j : Int) < (ws.length : Int) := by omega
        have t1 : decide ((0 : Int) < (k : Int)) = true := decide_eq_true (by omega)
        have t1n : decide (0 < k) = true := decide_eq_true hk0
        have x1 : IntKind.i64.wrap ((k : Int) - 1) = (j : Int) := by rw [IntKind.wrap_i64]; omega
        have hl : Op.bytesLess y.key.toList x.key.toList = false := hl0
        clear hl0 hk0 hjk hyj hE
        go_quiet (fail)
        go_wp2_with fail
        go_ret
        exact ⟨by rw [hfin.out]; rfl, hgo.out _ (below_drewN HB2.out _) _ hfin.out (by decide)⟩
      have hnr := hid hbad
      clear hbad
      go_cut [25] (fun v wx => v = .bool false ∧ ∃ q, wx = w3.drewN q)
      case first =>
        by_cases hk0 : 0 < k
        · obtain ⟨j, hjk⟩ : ∃ j, j + 1 = k := ⟨k - 1, by omega⟩
          have hj : j < ws.length := by omega
          obtain ⟨b', o', e, _, _, d0, _⟩ := rd_wr (HR.out.below_all HB2.out) hj
          injection e with e; injection e with e1 e2; subst e1; subst e2
          have hyj : ws[j] = y := by
            have := hye.out
            rw [show k - 1 = j by omega] at this
            rw [← this]; simp [List.getD_eq_getElem?_getD, hj]
          rw [hyj] at d0
          have i0 : (j : Int) < (ws.length : Int) := by omega
          have t1 : decide ((0 : Int) < (k : Int)) = true := decide_eq_true (by omega)
          have t1n : decide (0 < k) = true := decide_eq_true hk0
          have x1 : IntKind.i64.wrap ((k : Int) - 1) = (j : Int) := by rw [IntKind.wrap_i64]; omega
          have hl : Op.bytesLess y.key.toList x.key.toList = true := by
            have := hnr.out
            cases h : ltB y.key x.key with
            | true => exact h
            | false => exact absurd ⟨hk0, h⟩ this
          clear hk0 hjk hyj hE hnr
          go_quiet (fail)
          go_wp2_with fail
          go_meet
          exact ⟨rfl, _, rfl⟩
        · have t1 : decide ((0 : Int) < (k : Int)) = false := decide_eq_false (by omega)
          have t1n : decide (0 < k) = false := decide_eq_false hk0
          clear hk0 hE hnr
          go_quiet (fail)
          go_wp2_with fail
          go_meet
          exact ⟨rfl, _, rfl⟩
      case rest =>
        obtain ⟨rfl, q, hq⟩ := hcut
        have KB3 : Hid (Blk wc m 40 #[.string x.key, .bool x.gone, .int .i64 x.v.k, .int .i64 x.v.n, .string x.v.s]) := hid (by rw [hq]; exact KB.out)
        have HB3 : Hid (Below w.heap.size w wc) := hid (by rw [hq]; exact below_drewN HB2.out q)
        clear hq x0 KB HB2
        have x0 : wc.cell? ⟨m, 0, none⟩ = some (.string x.key) := KB3.out.cell 0
        have hcl := hid (rclaimed_any x.key (HH.out.below HB3.out))
        go_wp2_with fail
        refine hcl.out.mono ?_
        rintro e w4 ⟨rfl, hb40⟩
        have KB4 := hid (KB3.out.below_all hb40)
        have HB4 := hid (HB3.out.trans (hb40.mono HB3.out.size))
        clear hb40 hcl x0 KB3 HB3
        cases hc0 : hasK x.key s.L with
        | false =>
          have hfin : Hid (applyE s ws = 41) := hid (applyE_first (by decide) (fun j hj => ha.out j hj) (by rw [hE.out, if_neg (by simp [hv.out]), if_neg hnr.out, if_pos hc0]) hlt)
          clear hE hc0
          go_wp2_with fail
          go_ret
          exact ⟨by rw [hfin.out]; rfl, hgo.out _ (HB4.out) _ hfin.out (by decide)⟩
        | true =>
        have hc := hid hc0
        clear hc0
        have x2 : w4.cell? ⟨m, 2, none⟩ = some (.int .i64 x.v.k) := KB4.out.cell 2
        have x3 : w4.cell? ⟨m, 3, none⟩ = some (.int .i64 x.v.n) := KB4.out.cell 3
        have x4 : w4.cell? ⟨m, 4, none⟩ = some (.string x.v.s) := KB4.out.cell 4
        have hva := hid (rvalid_any x.v w4 hvs)
        go_wp2_with fail
        refine hva.out.mono ?_
        rintro e w5 ⟨rfl, hb50⟩
        have KB5 := hid (KB4.out.below_all hb50)
        have HB5 := hid (HB4.out.trans (hb50.mono HB4.out.size))
        clear hb50 hva x2 x3 x4 KB4 HB4
        cases ho0 : x.v.ok with
        | false =>
          have hfin : Hid (applyE s ws = 20) := hid (applyE_first (by decide) (fun j hj => ha.out j hj) (by rw [hE.out, if_neg (by simp [hv.out]), if_neg hnr.out, if_neg (by simp [hc.out]), if_pos ho0]) hlt)
          clear hE ho0
          go_wp2_with fail
          go_ret
          exact ⟨by rw [hfin.out]; rfl, hgo.out _ (HB5.out) _ hfin.out (by decide)⟩
        | true =>
        have ho := hid ho0
        clear ho0
        have x1 : w5.cell? ⟨m, 1, none⟩ = some (.bool x.gone) := KB5.out.cell 1
        have x2 : w5.cell? ⟨m, 2, none⟩ = some (.int .i64 x.v.k) := KB5.out.cell 2
        have x3 : w5.cell? ⟨m, 3, none⟩ = some (.int .i64 x.v.n) := KB5.out.cell 3
        have x4 : w5.cell? ⟨m, 4, none⟩ = some (.string x.v.s) := KB5.out.cell 4
        have hnz0 : ∀ w', (binOp .neq 38 (.agg #[.int .i64 x.v.k, .int .i64 x.v.n, .string x.v.s]) (.agg #[.int .i64 0, .int .i64 0, .string ⟨#[]⟩])).run Tryz.prog w' = .ok (.bool (!decide (x.v = vl0))) w' := fun w' => by
          rw [run_neq_struct, show (⟨#[]⟩ : ByteArray) = vl0.s from rfl, show (Value.int .i64 0) = .int .i64 vl0.k from rfl]
          have := run_eqVal x.v vl0 w'
          rw [show (.int .i64 vl0.k : Value) = .int .i64 vl0.n from rfl] at this ⊢
          rw [this]; rfl
        cases hg0 : x.gone with
        | false =>
          have hz : Hid (wrE s ws k = 0) := hid (by rw [hE.out, if_neg (by simp [hv.out]), if_neg hnr.out, if_neg (by simp [hc.out]), if_neg (by simp [ho.out]), if_neg (by simp [hg0])])
          rw [hg0] at x1
          clear hE hnz0 hg0
          go_wp2_with fail
          go_roundw
          case rel => exact ⟨k + 1, by go_num, hlt, HB5.out, fun j hj => by
            by_cases e : j = k
            · subst e; exact hz.out
            · exact ha.out j (by omega)⟩
          case measure => simp [intOf]; omega
        | true =>
          rw [hg0] at x1
          cases hz0 : decide (x.v = vl0) with
          | true =>
            have hz : Hid (wrE s ws k = 0) := hid (by rw [hE.out, if_neg (by simp [hv.out]), if_neg hnr.out, if_neg (by simp [hc.out]), if_neg (by simp [ho.out]), if_neg (by simp [of_decide_eq_true hz0])])
            have hnz := hnz0
            rw [hz0] at hnz
            clear hE hnz0 hg0 hz0
            go_wp2_with fail
            go_roundw
            case rel => exact ⟨k + 1, by go_num, hlt, HB5.out, fun j hj => by
              by_cases e : j = k
              · subst e; exact hz.out
              · exact ha.out j (by omega)⟩
            case measure => simp [intOf]; omega
          | false =>
            have hfin : Hid (applyE s ws = 2) := hid (applyE_first (by decide) (fun j hj => ha.out j hj) (by rw [hE.out, if_neg (by simp [hv.out]), if_neg hnr.out, if_neg (by simp [hc.out]), if_neg (by simp [ho.out]), if_pos ⟨hg0, of_decide_eq_false hz0⟩]) hlt)
            have hnz := hnz0
            rw [hz0] at hnz
            clear hE hnz0 hg0 hz0
            go_wp2_with fail
            go_ret
            exact ⟨by rw [hfin.out]; rfl, hgo.out _ (HB5.out) _ hfin.out (by decide)⟩
    · obtain rfl : k = ws.length := by omega
      have he := hid (applyE_zero (s := s) fun j hj => ha.out j hj)
      have hP0 := HH.out.below hB.out
      obtain ⟨B, d, hP⟩ := hP0
      have d2 : wr.cell? ⟨r, 2, none⟩ = some (.slice B s.L.length d) := hP.cells.2.2
      obtain ⟨ip, hip, hp0, hp1, hp2⟩ := info_parts info_item
      have hl9 := hP.ok.len
      have hrl := hP.blk.lt
      have qr := hP.blk.frozen
      have kb := hid hP.blk
      have hrd := hid hP.rd
      have hok := hid hP.ok
      have HR3 := hid (HR.out.below_all hB.out)
      have HB := hid hB.out
      have hb0 : Below wr.heap.size wr (wr.alloc (.cells #[] 70)) := (Below.refl _ _).alloc (Nat.le_refl _) _
      have hwl := hid hB.out.size
      have hsl := hid HH.out.lt
      have hInS := hid (show S r by obtain ⟨_, _, h⟩ := HH.out; exact h.inS)
      obtain ⟨n, hn⟩ : ∃ n, n = s.L.length := ⟨_, rfl⟩
      rw [← hn] at d2 hrd hl9 kb
      have hnn := hid hn
      clear hP ha hlt hk hB hn HH HR hgo
      go_wp2_with (
        at_builtin
        refine wpList_copy_rd wr rfl (.tmp 60) (.tmp 64) 62 rfl 70 ip _ 4 48 Tryz.underlying62 hip hp0 hp1 hp2 rfl (by omega) wr.heap.size rfl rfl _ B n d (kvCells s.L) rfl hrd.out (kvCells_one _) (by simp only [maxLen]; omega) (by omega) ?_
        intro A' c' w4 hown4 hb4
        have kb4 := hid (kb.out.below_all hb4)
        have r2 : w4.cell? ⟨r, 2, none⟩ = some (.slice B n d) := kb4.out.cell 2
        have q2 := kb4.out.frozen 2
        have HB4 := hid hb4
        have HO4 := hid hown4
        clear hown4 hb4)
      have h50 : Hid (Upd (fun j => j = r) w (w4.setCell ⟨r, 2, none⟩ (.slice A' n c'))) := hid (((Upd.of_below (M := fun j => j = r) HB.out fun k hk h => by omega).trans (Upd.of_below (M := fun j => j = r) HB4.out fun k hk h => by omega) fun _ _ h => h).setCell (p := ⟨r, 2, none⟩) (fun _ => rfl) _)
      have h51 : Hid (Blk (w4.setCell ⟨r, 2, none⟩ (.slice A' n c')) r 94 #[.int .i64 s.parts, .int .i64 s.room, .slice A' n c']) := hid (kb4.out.set_ 2 _)
      have h52 : Hid ((w4.setCell ⟨r, 2, none⟩ (.slice A' n c')).ownsRow wr.heap.size 70 4 (.slice A' n c') n (kvCells s.L)) := hid (own_updB HO4.out ((Upd.refl (fun j => j = r) w4).setCell (p := ⟨r, 2, none⟩) (fun _ => rfl) _) fun q hq _ e => by omega)
      have h53 : Hid (Rd Sk (w4.setCell ⟨r, 2, none⟩ (.slice A' n c')) 5 A ws.length (wrCells ws)) := hid ((HR3.out.below_all HB4.out).keep fun b hb _ => Below.heap_setCell _ _ _ _ (by have := (hd b hb).2; simp only; omega))
      generalize w4.setCell ⟨r, 2, none⟩ (.slice A' n c') = w5 at *
      obtain ⟨B0, hB0⟩ : ∃ B0, B0 = wr.heap.size := ⟨_, rfl⟩
      rw [← hB0] at h52 hwl hrl
      have hrl := hid hrl
      clear d2 kb hrd HR3 HB hb0 HB4 HO4 kb4 hl9 qr hB0
      go_wp2_with fail
      go_loopw [7] (fun v wr => ∃ (k : Nat) (M : List Kv), v = .int .i64 k ∧ k ≤ ws.length ∧ M = upAll s.L (ws.take k) ∧ St.Ok { s with L := M } ∧ Upd (fun j => j = r) w wr ∧ Blk wr r 94 #[.int .i64 s.parts, .int .i64 s.room, .slice A' n c'] ∧ wr.ownsRow B0 70 4 (.slice A' n c') n (kvCells M) ∧ Rd Sk wr 5 A ws.length (wrCells ws)) (fun v _ => ws.length - (intOf v).toNat)
      case atStart => exact ⟨0, _, rfl, Nat.zero_le _, rfl, hok.out, h50.out, h51.out, h52.out, h53.out⟩
      case round =>
        clear h50 h51 h52 h53
        obtain ⟨k, M, rfl, hk, hM0, hok0, hu0, hb0, ho0, hr0⟩ := hrel
        have hM := hid hM0
        have hok1 := hid hok0
        have HU := hid hu0
        have HK := hid hb0
        have HO := hid ho0
        have HR := hid hr0
        clear hM0 hok0 hu0 hb0 ho0 hr0
        have hMl : Hid (M.length = n) := hid (by
          have := congrArg List.length (upAll_keys (ws := ws.take k) (L := s.L))
          rw [← hM.out] at this
          simp at this
          rw [this, hnn.out])
        have hRA : Hid (RAt (fun j => j = r ∨ (B0 ≤ j ∧ j < wr.heap.size)) wr r { s with L := M }) := hid (by
          obtain ⟨A2, c2, he2, h1, h2⟩ := own_form HO.out
          injection he2 with e1 e2 e3
          subst e1; subst e3
          refine ⟨A', c', ?_, ?_, ?_, .inl rfl, fun j hj => ?_, hok1.out⟩
          · show Blk _ _ _ #[_, _, .slice A' M.length c']
            rw [hMl.out]; exact HK.out
          · show Rd _ _ 4 A' M.length (kvCells M)
            rw [hMl.out]
            exact (Rd.of_own' HO.out).more fun b hb hl => ⟨.inr ⟨hb, hl⟩, by have := hrl.out; omega⟩
          · show (A' = none ∧ M.length = 0 ∧ c' = 0) ∨ ((∃ b o, A' = some ⟨b, o, none⟩) ∧ M.length ≤ c' ∧ c' ≤ maxLen)
            rw [hMl.out]
            rcases HO.out.2 with ⟨hv, h0⟩ | ⟨g, cap, cur, hv, _⟩
            · injection hv with e1 e2 e3
              exact .inl ⟨e1, h0, e3⟩
            · injection hv with e1 e2 e3
              exact .inr ⟨⟨g, 0, e1⟩, h1, h2⟩
          · rcases hj with rfl | hj
            · exact HK.out.lt
            · exact hj.2)
        by_cases hlt : k < ws.length
        · have i1 : (k : Int) < (ws.length : Int) := by omega
          obtain ⟨b, o, hA0, hSb, hbl, c0, c1, c2, c3, c4⟩ := rd_wr HR.out hlt
          subst hA0
          have hz := hid (apply_zero he.out _ (List.getElem_mem hlt))
          have htk := hid (take_snoc hlt)
          obtain ⟨x, hx⟩ : ∃ x, x = ws[k] := ⟨_, rfl⟩
          have hcs := hid (show ∀ w', Below wr.heap.size wr w' → w'.cell? ⟨b, o + k * 5 + 2, none⟩ = some (.int .i64 x.v.k) ∧ w'.cell? ⟨b, o + k * 5 + 3, none⟩ = some (.int .i64 x.v.n) ∧ w'.cell? ⟨b, o + k * 5 + 4, none⟩ = some (.string x.v.s) from fun w' h => by
            rw [hx]; exact ⟨(h.cell (p := ⟨b, o + k * 5 + 2, none⟩) hbl).trans c2, (h.cell (p := ⟨b, o + k * 5 + 3, none⟩) hbl).trans c3, (h.cell (p := ⟨b, o + k * 5 + 4, none⟩) hbl).trans c4⟩)
          rw [← hx] at c0 hz htk
          have hat := hid (at_any x.key hRA.out)
          have hhk : hasK x.key M = true := by rw [hM.out, upAll_has]; exact hz.out.2.1
          have hpl : posK x.key M < n := by
            obtain ⟨y, h1, _⟩ := pos_get hok1.out.asc hhk
            rw [← hMl.out]; exact (List.getElem?_eq_some_iff.1 h1).1
          have hset := hid (up_set (v := x.v) hok1.out.asc hhk)
          have hpk : Hid ((M[posK x.key M]'(by rw [hMl.out]; exact hpl)).1 = x.key) := hid (by
            obtain ⟨y, h1, h2, _⟩ := pos_get hok1.out.asc hhk
            obtain ⟨h3, h4⟩ := List.getElem?_eq_some_iff.1 h1
            rw [h4]; exact h2)
          simp only at hat
          rw [hhk] at hat
          clear hx c1 c2 c3 c4 hbl hRA
          go_wp2_with fail
          refine hat.out.mono ?_
          rintro e w6 ⟨rfl, hb60⟩
          obtain ⟨c2, c3, c4⟩ := hcs.out _ hb60
          have HO6 := hid (own_below HO.out hb60)
          have HK6 := hid (HK.out.below_all hb60)
          have HR6 := hid (HR.out.below_all hb60)
          have HU6 : Hid (Upd (fun j => j = r) w w6) := hid (HU.out.trans (Upd.of_below (M := fun j => j = r) hb60 fun k hk h => by have := HK.out.lt; omega) fun _ _ h => h)
          clear hb60 hcs hat HO HK HR HU c0
          rcases HO6.out.2 with ⟨_, h0⟩ | ⟨g, cap, cur, hv, hgb, hgh, hgn, hgm, hgs, hgt⟩
          · omega
          injection hv with e1 e2 e3
          subst e1; subst e3
          have d2 : w6.cell? ⟨r, 2, none⟩ = some (.slice (some ⟨g, 0, none⟩) n c') := HK6.out.cell 2
          have kg : Blk w6 g 70 cur := hgh
          have hgl : g < w6.heap.size := kg.lt
          have fg := kg.frozen
          have hfin := hid (own_kv_set HO6.out hMl.out.symm hpl hpk.out x.v)
          have hgr : Hid (g ≠ r) := hid (by have := kg.ne_ HK6.out (by decide); exact this)
          have hgb2 := hid (show ¬ Sk g ∧ ¬ g < w.heap.size from ⟨fun h => by have := (hd g h).1; have := hwl.out; omega, by have := hwl.out; omega⟩)
          obtain ⟨p, hp⟩ : ∃ p, p = posK x.key M := ⟨_, rfl⟩
          rw [← hp] at hfin hset hpl
          simp only [← hp]
          have ip : (p : Int) < (n : Int) := by omega
          have hz1 : p * 4 + 3 < cur.size := by omega
          obtain ⟨u1, y1⟩ : ∃ u, w6.cell? ⟨g, p * 4 + 1, none⟩ = some u := ⟨cur[p * 4 + 1], by rw [kg.cell]; simp [show p * 4 + 1 < cur.size by omega]⟩
          obtain ⟨u2, y2⟩ : ∃ u, w6.cell? ⟨g, p * 4 + 2, none⟩ = some u := ⟨cur[p * 4 + 2], by rw [kg.cell]; simp [show p * 4 + 2 < cur.size by omega]⟩
          obtain ⟨u3, y3⟩ : ∃ u, w6.cell? ⟨g, p * 4 + 3, none⟩ = some u := ⟨cur[p * 4 + 3], by rw [kg.cell]; simp [show p * 4 + 3 < cur.size by omega]⟩
          have hoo := hid HO6
          have hpp := hid hp
          have hh9 := hid hgb
          have hlt9 := hid hlt
          clear hgh hgn hgm hgs hgt hz1 hpk hp kg hgb hpl hhk hlt hk
          go_wp2_with fail
          go_still_tail 12, (by kernel_rfl)
          change wpList _ _ _ _ _ w6.drew
          go_wp2_with fail
          have hM2 : M.set p (x.key, x.v) = upAll s.L (ws.take (k + 1)) := by rw [htk.out, upAll_snoc, ← hM.out]; exact hset.out.symm
          go_roundw
          case rel => exact ⟨k + 1, M.set p (x.key, x.v), by go_num, hlt9.out, hM2, by rw [← hset.out]; exact up_ok1 (s := { s with L := M }) hok1.out hz.out.1 hz.out.2.2, ((HU6.out.drew.setCell (p := ⟨g, p * 4 + 1, none⟩) (fun h => absurd h hgb2.out.2) _).setCell (p := ⟨g, p * 4 + 2, none⟩) (fun h => absurd h hgb2.out.2) _).setCell (p := ⟨g, p * 4 + 3, none⟩) (fun h => absurd h hgb2.out.2) _, (((HK6.out.drew).far (Ne.symm hgr.out) _).far (Ne.symm hgr.out) _).far (Ne.symm hgr.out) _, hfin.out, (((HR6.out.drew).setCell (p := ⟨g, p * 4 + 1, none⟩) hgb2.out.1 _).setCell (p := ⟨g, p * 4 + 2, none⟩) hgb2.out.1 _).setCell (p := ⟨g, p * 4 + 3, none⟩) hgb2.out.1 _⟩
          case measure => simp [intOf]; have := hlt9.out; omega
        · obtain rfl : k = ws.length := by omega
          have hfin : Hid (RGo S w r (applyS s ws) wr) := hid (by
            refine ⟨fun j => j = r ∨ (B0 ≤ j ∧ j < wr.heap.size), ?_, fun j hj => ?_, HU.out.mono fun j _ h => h ▸ hInS.out⟩
            · rw [applyS_yes he.out]
              have := hRA.out
              rw [hM.out, List.take_length] at this
              exact this
            · rcases hj with rfl | hj
              · exact .inl hInS.out
              · have := hwl.out; exact .inr (by omega))
          clear hRA HU HK HO HR
          go_wp2_with fail
          go_ret
          exact ⟨by rw [he.out]; rfl, hfin.out⟩
end
end Go.Proofs.YtphglnenafdkaaaGreatDoor

namespace Go.Proofs.YtphglnenafdkaaaGreatDoor
open Go.RowKit
set_option linter.unusedVariables false
set_option linter.unusedSimpArgs false

theorem dumpL_snoc (L : List Kv) (x : Kv) : dumpL (L ++ [x]) = dumpL L ++ (if x.2.k = 0 then [] else [x]) := by
  unfold dumpL
  rw [List.filter_append]
  by_cases h : x.2.k = 0 <;> simp [h]
section
variable {S : Nat → Prop} {w w' : World} {r : Nat} {s : St}
set_option maxRecDepth 100000 in
set_option maxHeartbeats 4000000 in
theorem rdump_any (h : RAt S w r s) : Calls Tryz.prog 28 #[.pointer (some ⟨r, 0, none⟩)] w fun e w' => ∃ A c, e = .returned (.slice A (dumpL s.L).length c) ∧ w'.ownsRow w.heap.size 70 4 (.slice A (dumpL s.L).length c) (dumpL s.L).length (kvCells (dumpL s.L)) ∧ Below w.heap.size w w' := by
  obtain ⟨B, d, h⟩ := h
  have HH := hid h
  have hlen := hid h.ok.len
  obtain ⟨ip, hip, hp0, hp1, hp2⟩ := info_parts info_item
  clear h
  go_enter Tryz.func28, Tryz.ntmps28
  go_wp2_with fail
  go_loopw [3, 4] (fun u v wr => ∃ (k : Nat) (out : List Kv) (A : Option Addr) (c : Nat), u = .slice A out.length c ∧ v = .int .i64 k ∧ k ≤ s.L.length ∧ out = dumpL (s.L.take k) ∧ wr.ownsRow w.heap.size 70 4 (.slice A out.length c) out.length (kvCells out) ∧ Below w.heap.size w wr) (fun u v _ => s.L.length - (intOf v).toNat)
  case atStart => exact ⟨0, [], none, 0, rfl, rfl, Nat.zero_le _, rfl, World.ownsRow_nil _ _ _ _, Below.refl _ _⟩
  case round =>
    obtain ⟨k, out, A, c, rfl, rfl, hk, ho0, hown0, hB0⟩ := hrel
    have ho := hid ho0
    have hown := hid hown0
    have hB := hid hB0
    clear ho0 hown0 hB0
    have hP := HH.out.below hB.out
    have d2 : wr.cell? ⟨r, 2, none⟩ = some (.slice B s.L.length d) := hP.cells.2.2
    by_cases hlt : k < s.L.length
    · have i1 : (k : Int) < (s.L.length : Int) := by omega
      have hl9 : (s.L.length : Int) ≤ 262144 := by have := hlen.out; omega
      obtain ⟨b, o, rfl, _, _, x0, x1, x2, x3⟩ := rd_kv hP.rd hlt
      have htk := hid (take_snoc hlt)
      obtain ⟨x, hx⟩ : ∃ x, x = s.L[k] := ⟨_, rfl⟩
      rw [← hx] at x0 x1 x2 x3 htk
      have hol : Hid (out.length ≤ 262144) := hid (by
        have h1 : out.length ≤ (s.L.take k).length := by rw [ho.out]; exact List.length_filter_le _ _
        have := hlen.out
        simp at h1; omega)
      clear hP hx
      by_cases hz : x.2.k = 0
      · have tz : (x.2.k != 0) = false := by simp [hz]
        have hn : Hid (out = dumpL (s.L.take (k + 1))) := hid (by rw [htk.out, dumpL_snoc, if_pos hz, ho.out]; simp)
        clear hz
        go_wp2_with fail
        go_roundw
        case rel => exact ⟨k + 1, out, A, c, rfl, by go_num, hlt, hn.out, hown.out, hB.out⟩
        case measure => simp [intOf]; omega
      · have tz : (x.2.k != 0) = true := by simp [hz]
        have hn : Hid (out ++ [x] = dumpL (s.L.take (k + 1))) := hid (by rw [htk.out, dumpL_snoc, if_neg hz, ho.out])
        clear hz
        go_wp2_with (
          at_builtin
          refine wpList_append_rd _ rfl (.tmp 24) (.tmp 32) 62 rfl w.heap.size 70 ip _ 4 48 Tryz.underlying62 hip hp0 hp1 hp2 rfl (by omega) (.slice A out.length c) out.length (kvCells out) rfl (hown.out.alloc _) (fun b => b = wr.heap.size) (some ⟨wr.heap.size, 0, none⟩) 1 1 (encI x) rfl (Rd.new _ 70 4 1 (encI x).toArray _ rfl rfl) (encI_one _) (by have := hol.out; simp only [maxLen]; omega) (by have := hol.out; omega) (by have h1 := hB.out.size; simp; omega) ?_
          intro v3 w3 hown3 hg3 hat3
          obtain ⟨A3, c3, rfl, hc3, _⟩ := own_form hown3)
        go_roundw
        case rel => exact ⟨k + 1, out ++ [x], A3, c3, by simp, by go_num, hlt, hn.out, by rw [kvCells_snoc, List.length_append]; exact hown3, (hB.out.alloc hB.out.size _).grown hg3 (by have := hB.out.size; simp; omega) fun q hq => (hown.out.lt q hq).1⟩
        case measure => simp [intOf]; omega
    · obtain rfl : k = s.L.length := by omega
      have hn : Hid (out = dumpL s.L) := hid (by rw [ho.out, List.take_length])
      clear hP
      go_wp2_with fail
      go_ret
      rw [← hn.out]
      exact ⟨A, c, rfl, hown.out, hB.out⟩
end
end Go.Proofs.YtphglnenafdkaaaGreatDoor

