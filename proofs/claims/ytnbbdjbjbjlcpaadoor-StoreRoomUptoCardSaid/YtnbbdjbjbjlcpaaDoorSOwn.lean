/- own: an act in lists of its own. -/
import Derived.Test.YtnbbdjbjbjlcpaaDoorSActs
import Derived.Test.YtnbbdjbjbjlcpaaDoorSRClaim
namespace Go.Proofs.YtnbbdjbjbjlcpaaDoor
open Go.RowKit
set_option linter.unusedVariables false
set_option linter.unusedSimpArgs false

theorem info_str4 : (Tryd.prog.info? 9).map (fun i => (i.zero, i.size, i.bytes)) = some (some (.string ⟨#[]⟩), 1, 16) := by kernel_rfl
theorem info_write : (Tryd.prog.info? 62).map (fun i => (i.zero, i.size, i.bytes)) = some (some (.agg #[.string ⟨#[]⟩, .bool false, .int .i64 0, .int .i64 0, .string ⟨#[]⟩]), 5, 56) := by kernel_rfl
theorem strs_one (ks : List ByteArray) : ∀ v ∈ strs ks, v.oneCell' = true := by
  intro v hv
  obtain ⟨x, _, rfl⟩ := List.mem_map.1 hv
  rfl
theorem wrCells_one (ws : List Wr) : ∀ v ∈ wrCells ws, v.oneCell' = true := by
  intro v hv
  obtain ⟨x, _, hx⟩ := List.mem_flatMap.1 hv
  simp only [List.mem_cons, List.not_mem_nil, or_false] at hx
  rcases hx with rfl | rfl | rfl | rfl | rfl <;> rfl
theorem wrCells_len (ws : List Wr) : (wrCells ws).length = ws.length * 5 := by
  unfold wrCells
  induction ws with
  | nil => rfl
  | cons x l ih => rw [List.flatMap_cons, List.length_append, ih]; simp; omega
/-- a row's first n -/
theorem Rd.pre_own {w : World} {base : Nat} {e : TypeId} {size n c : Nat} {A : Option Addr} {xs ys : List Value} (h : w.ownsRow base e size (.slice A (n + 1) c) (n + 1) (xs ++ ys)) (hx : xs.length = n * size) : Rd (fun b => base ≤ b) w size A n xs := by
  have h1 := Rd.of_own' h
  refine ⟨hx, fun hn => ?_⟩
  obtain ⟨b, o, e1, hS, hl, hc⟩ := h1.2 (by omega)
  refine ⟨b, o, e1, hS, hl, fun j u hu => hc j u ?_⟩
  rw [List.getElem?_append_left (List.getElem?_eq_some_iff.1 hu).1]
  exact hu
section
variable {w w' : World}
set_option maxRecDepth 100000 in
set_option maxHeartbeats 4000000 in
theorem own_any {Sx : Nat → Prop} (a : SA) (h : a.ok Sx w) (h1 : a.ks.length ≤ 100000) (h2 : a.ws.length ≤ 100000) : Calls Tryd.prog 9 #[.agg #[.int .i64 a.kind, .slice a.A1 a.ks.length a.c1, .slice a.A2 a.ws.length a.c2]] w fun e w' => ∃ B1 d1 B2 d2, e = .returned (.agg #[.int .i64 a.kind, .slice B1 a.ks.length d1, .slice B2 a.ws.length d2]) ∧ Rd (fun b => w.heap.size ≤ b) w' 1 B1 a.ks.length (strs a.ks) ∧ Rd (fun b => w.heap.size ≤ b) w' 5 B2 a.ws.length (wrCells a.ws) ∧ Below w.heap.size w w' := by
  have hb0 : Below w.heap.size w ((w.alloc (.cells #[.int .i64 a.kind, .slice a.A1 a.ks.length a.c1, .slice a.A2 a.ws.length a.c2] 35)).alloc (.cells #[.int .i64 0, .slice none 0 0, .slice none 0 0] 35)) := below_two _ _
  have k1 : Blk ((w.alloc (.cells #[.int .i64 a.kind, .slice a.A1 a.ks.length a.c1, .slice a.A2 a.ws.length a.c2] 35)).alloc (.cells #[.int .i64 0, .slice none 0 0, .slice none 0 0] 35)) w.heap.size 35 #[.int .i64 a.kind, .slice a.A1 a.ks.length a.c1, .slice a.A2 a.ws.length a.c2] := (Blk.new w _ _).alloc _
  have k2 : Blk ((w.alloc (.cells #[.int .i64 a.kind, .slice a.A1 a.ks.length a.c1, .slice a.A2 a.ws.length a.c2] 35)).alloc (.cells #[.int .i64 0, .slice none 0 0, .slice none 0 0] 35)) (w.heap.size + 1) 35 #[.int .i64 0, .slice none 0 0, .slice none 0 0] := Blk.new' _ _ _ (by simp)
  have hB := hid hb0
  have K1 := hid k1
  have K2 := hid k2
  have hk5 := hid (h.1.all.below_all hb0)
  have hw5 := hid (h.2.all.below_all hb0)
  have hn1 := hid h1
  have hn2 := hid h2
  clear hb0 k1 k2 h h1 h2
  go_enter Tryd.func9, Tryd.ntmps9
  go_upto_region 1 with fail
  generalize (w.alloc (.cells #[.int .i64 a.kind, .slice a.A1 a.ks.length a.c1, .slice a.A2 a.ws.length a.c2] 35)).alloc (.cells #[.int .i64 0, .slice none 0 0, .slice none 0 0] 35) = w5 at *
  generalize hm : w.heap.size = m at *
  go_cut [] (fun wx => ∃ (A3 : Option Addr) (c3 : Nat) (w3 : World), w3.ownsRow w5.heap.size 9 1 (.slice A3 (a.ks.length + 1) c3) (a.ks.length + 1) (strs a.ks ++ #[.string ⟨#[98, 101, 104, 105, 110, 100]⟩].toList) ∧ Below w5.heap.size w5 w3 ∧ wx = w3.setCell ⟨m, 1, none⟩ (.slice A3 a.ks.length c3))
  case first =>
    have hrd := hk5
    have hnb := hn1
    have hone := hid (strs_one a.ks)
    obtain ⟨ip, hip, hp0, hp1, hp2⟩ := info_parts info_str4
    have hkeep : Hid (∀ w', Below w5.heap.size w5 w' → w'.cell? ⟨m, 1, none⟩ = some (.slice a.A1 a.ks.length a.c1)) := hid fun w' h => (K1.out.below_all h).cell 1
    have fq : Hid (∀ w', Below w5.heap.size w5 w' → w'.frozen? ⟨m, 1, none⟩ = false) := hid fun w' h => (K1.out.below_all h).frozen 1
    have hHeld := hkeep.out w5.drew (Below.refl _ _).drew
    refine wp_region_heldE (S := fun w' => w'.cell? ⟨m, 1, none⟩ = some (.slice a.A1 a.ks.length a.c1)) 11 (by kernel_rfl) ?_
    refine wpAnyE_take [2, 3, 5, 9, 10, 11] (i := 1) (v := ?v7) rfl (by kernel_rfl) (by kernel_rfl) (by kernel_rfl) (by rfl) (by kernel_rfl) (by kernel_rfl) (fun _ _ _ h => h) (Or.inl ⟨by rfl, ?hy7⟩) (hHeld) ?rest7
    case hy7 => intro w hSw; (try dsimp only at hSw); go_simp; try with_reducible rfl
    (try simp only [Act.put, List.setIfInBounds_toArray, List.set_cons_zero, List.set_cons_succ, List.getElem_toArray, List.getElem_cons_zero, List.getElem_cons_succ])
    refine wpAnyE_take [3, 5, 9, 10, 11] (i := 2) (v := ?v8) rfl (by kernel_rfl) (by kernel_rfl) (by kernel_rfl) (by rfl) (by kernel_rfl) (by kernel_rfl) (fun _ _ _ h => h) (Or.inl ⟨by rfl, ?hy8⟩) (hHeld) ?rest8
    case hy8 => intro w hSw; (try dsimp only at hSw); go_simp; try with_reducible rfl
    (try simp only [Act.put, List.setIfInBounds_toArray, List.set_cons_zero, List.set_cons_succ, List.getElem_toArray, List.getElem_cons_zero, List.getElem_cons_succ])
    refine wpAnyE_take [7, 8, 9, 10, 11] (i := 6) (v := ?v9) rfl (by kernel_rfl) (by kernel_rfl) (by kernel_rfl) (by rfl) (by kernel_rfl) (by kernel_rfl) (fun _ _ _ h => h) (Or.inl ⟨by rfl, ?hy9⟩) (hHeld) ?rest9
    case hy9 => intro w hSw; (try dsimp only at hSw); go_simp; try with_reducible rfl
    (try simp only [Act.put, List.setIfInBounds_toArray, List.set_cons_zero, List.set_cons_succ, List.getElem_toArray, List.getElem_cons_zero, List.getElem_cons_succ])
    refine wpAnyE_take [8, 9, 10, 11] (i := 7) (v := ?v10) rfl (by kernel_rfl) (by kernel_rfl) (by kernel_rfl) (by rfl) (by kernel_rfl) (by kernel_rfl) (fun _ _ _ h => h) (Or.inl ⟨by rfl, ?hy10⟩) (hHeld) ?rest10
    case hy10 => intro w hSw; (try dsimp only at hSw); go_simp; try with_reducible rfl
    (try simp only [Act.put, List.setIfInBounds_toArray, List.set_cons_zero, List.set_cons_succ, List.getElem_toArray, List.getElem_cons_zero, List.getElem_cons_succ])
    refine wpAnyE_take [9, 10, 11] (i := 8) (v := ?v11) rfl (by kernel_rfl) (by kernel_rfl) (by kernel_rfl) (by rfl) (by kernel_rfl) (by kernel_rfl) (fun _ _ _ h => h) (Or.inl ⟨by rfl, ?hy11⟩) (hHeld) ?rest11
    case hy11 => intro w hSw; (try dsimp only at hSw); go_simp; try with_reducible rfl
    (try simp only [Act.put, List.setIfInBounds_toArray, List.set_cons_zero, List.set_cons_succ, List.getElem_toArray, List.getElem_cons_zero, List.getElem_cons_succ])
    refine wpAnyE_ready (rs := [0, 4]) (by kernel_rfl) (by simp) ?_
    refine AllReadyE.cons rfl (fun K hK => ?_) (AllReadyE.cons rfl (fun K hK => ?_) AllReadyE.nil)
    · go_simp
      refine hK.out _ _ (fun _ => hkeep.out _ (((Below.refl _ w5).alloc (Nat.le_refl _) _).drew)) ?_
      clear hK K
      (try simp only [Act.put, List.setIfInBounds_toArray, List.set_cons_zero, List.set_cons_succ, List.getElem_toArray, List.getElem_cons_zero, List.getElem_cons_succ])
      refine wpAnyE_ready (rs := [3, 4]) (by kernel_rfl) (by simp) ?_
      refine AllReadyE.cons rfl (fun K hK => ?_) (AllReadyE.cons rfl (fun K hK => ?_) AllReadyE.nil)
      · refine step_append_rd _ rfl (.tmp 3) (.tmp 5) 32 rfl w5.heap.size 9 ip _ 1 16 Tryd.underlying32 hip hp0 hp1 hp2 rfl (by omega) (.slice (some ⟨w5.heap.size, 0, none⟩) 0 0) 0 [] rfl ?_ (fun b => b < m) a.A1 a.ks.length a.c1 (strs a.ks) rfl ?_ ?_ ?_ ?_ ?_ a.ks.length (Nat.zero_add _) (strs a.ks) rfl ?_
        · exact (own_empty w5 _ 1).drew
        · exact hrd.out.below_all (((Below.refl _ w5).alloc (Nat.le_refl _) (.cells #[] 9)).drew)
        · exact hone.out
        · have := hnb.out; simp only [maxLen]; omega
        · have := hnb.out; omega
        · exact below_sz (((Below.refl _ w5).alloc (Nat.le_refl _) (.cells #[] 9)).drew)
        intro A2 c2 w2 hown2 hg2 hat2
        have hbA : Hid (Below w5.heap.size w5 w2) := hid (below_gr (((Below.refl _ w5).alloc (Nat.le_refl _) (.cells #[] 9)).drew) hg2 (fun k hk => by simp [Value.ownBlock] at hk; omega))
        clear hg2 hat2
        refine hK.out _ _ (fun _ => hkeep.out _ hbA.out) ?_
        clear hK K
        (try simp only [Act.put, List.setIfInBounds_toArray, List.set_cons_zero, List.set_cons_succ, List.getElem_toArray, List.getElem_cons_zero, List.getElem_cons_succ])
        refine wpAnyE_ready (rs := [4]) (by kernel_rfl) (by simp) ?_
        refine AllReadyE.cons rfl (fun K hK => ?_) AllReadyE.nil
        go_simp
        refine hK.out _ _ (fun _ => hkeep.out _ (below_al hbA.out _)) ?_
        clear hK K
        (try simp only [Act.put, List.setIfInBounds_toArray, List.set_cons_zero, List.set_cons_succ, List.getElem_toArray, List.getElem_cons_zero, List.getElem_cons_succ])
        refine wpAnyE_ready (rs := [5]) (by kernel_rfl) (by simp) ?_
        refine AllReadyE.cons rfl (fun K hK => ?_) AllReadyE.nil
        refine step_append_rd _ rfl (.tmp 6) (.tmp 7) 32 rfl w5.heap.size 9 ip _ 1 16 Tryd.underlying32 hip hp0 hp1 hp2 rfl (by omega) (.slice A2 a.ks.length c2) a.ks.length (strs a.ks) rfl ?_ (fun b => b = w2.heap.size) (some ⟨w2.heap.size, 0, none⟩) 1 1 #[.string ⟨#[98, 101, 104, 105, 110, 100]⟩].toList rfl ?_ ?_ ?_ ?_ ?_ (a.ks.length + 1) rfl ((strs a.ks) ++ #[.string ⟨#[98, 101, 104, 105, 110, 100]⟩].toList) rfl ?_
        · exact hown2.alloc _
        · exact Rd.new w2 9 1 1 #[.string ⟨#[98, 101, 104, 105, 110, 100]⟩] w2.heap.size rfl rfl
        · intro v hv; simp at hv; rcases hv with rfl <;> rfl
        · have := hnb.out; simp only [maxLen]; omega
        · have := hnb.out; omega
        · exact below_sz (below_al hbA.out _)
        intro A3 c3 w3 hown3 hg3 hat3
        have hbB : Hid (Below w5.heap.size w5 w3) := hid (below_gr (below_al hbA.out _) hg3 (fun k hk => (hown2.lt k hk).1))
        obtain ⟨A9, c9, he9, hc9, hm9⟩ := own_form hown3
        injection he9 with e1 e2 e3
        subst e1; subst e3
        have j1 : ((a.ks.length : Nat) : Int) ≤ (c3 : Int) := by omega
        have j2 : a.ks.length ≤ c3 := by omega
        have j3 : (c3 : Int) ≤ 9223372036854775807 := by simp only [maxLen] at hm9; omega
        have r4 : w3.cell? ⟨m, 1, none⟩ = some (.slice a.A1 a.ks.length a.c1) := hkeep.out _ hbB.out
        have q4 := fq.out _ hbB.out
        have hO3 := hid hown3
        clear hg3 hat3 hown3 hown2
        refine hK.out _ _ (fun _ => hkeep.out _ hbB.out) ?_
        clear hK K
        (try simp only [Act.put, List.setIfInBounds_toArray, List.set_cons_zero, List.set_cons_succ, List.getElem_toArray, List.getElem_cons_zero, List.getElem_cons_succ])
        refine wpAnyE_take [10, 11] (i := 9) (v := ?v1) rfl (by kernel_rfl) (by kernel_rfl) (by kernel_rfl) (by rfl) (by kernel_rfl) (by kernel_rfl) (fun _ _ _ h => h) (Or.inl ⟨by rfl, ?hy1⟩) (hkeep.out _ hbB.out) ?rest1
        case hy1 => intro w hSw; (try dsimp only at hSw); go_simp; try with_reducible rfl
        (try simp only [Act.put, List.setIfInBounds_toArray, List.set_cons_zero, List.set_cons_succ, List.getElem_toArray, List.getElem_cons_zero, List.getElem_cons_succ])
        refine wpAnyE_take [11] (i := 10) (v := ?v2) rfl (by kernel_rfl) (by kernel_rfl) (by kernel_rfl) (by rfl) (by kernel_rfl) (by kernel_rfl) (fun _ _ _ h => h) (Or.inl ⟨by rfl, ?hy2⟩) (hkeep.out _ hbB.out) ?rest2
        case hy2 => intro w hSw; (try dsimp only at hSw); go_simp; try with_reducible rfl
        (try simp only [Act.put, List.setIfInBounds_toArray, List.set_cons_zero, List.set_cons_succ, List.getElem_toArray, List.getElem_cons_zero, List.getElem_cons_succ])
        refine wpAnyE_ready (rs := [11]) (by kernel_rfl) (by simp) ?_
        refine AllReadyE.cons rfl (fun K hK => ?_) AllReadyE.nil
        go_simp
        refine hK.out _ _ (fun h => absurd rfl h) ?_
        clear hK K
        (try simp only [Act.put, List.setIfInBounds_toArray, List.set_cons_zero, List.set_cons_succ, List.getElem_toArray, List.getElem_cons_zero, List.getElem_cons_succ])
        refine wpAnyE_done (by kernel_rfl) ?_ _
        go_wp2_with fail
        go_meet
        exact ⟨A3, c3, w3, hO3.out, hbB.out, rfl⟩
      · go_simp
        refine hK.out _ _ (fun _ => hkeep.out _ ((((Below.refl _ w5).alloc (Nat.le_refl _) _).drew).alloc (by simp) _)) ?_
        clear hK K
        (try simp only [Act.put, List.setIfInBounds_toArray, List.set_cons_zero, List.set_cons_succ, List.getElem_toArray, List.getElem_cons_zero, List.getElem_cons_succ])
        refine wpAnyE_ready (rs := [3]) (by kernel_rfl) (by simp) ?_
        refine AllReadyE.cons rfl (fun K hK => ?_) AllReadyE.nil
        refine step_append_rd _ rfl (.tmp 3) (.tmp 5) 32 rfl w5.heap.size 9 ip _ 1 16 Tryd.underlying32 hip hp0 hp1 hp2 rfl (by omega) (.slice (some ⟨w5.heap.size, 0, none⟩) 0 0) 0 [] rfl ?_ (fun b => b < m) a.A1 a.ks.length a.c1 (strs a.ks) rfl ?_ ?_ ?_ ?_ ?_ a.ks.length (Nat.zero_add _) (strs a.ks) rfl ?_
        · exact (own_empty w5 _ 1).drew.alloc _
        · exact hrd.out.below_all ((((Below.refl _ w5).alloc (Nat.le_refl _) (.cells #[] 9)).drew).alloc (by simp) (.cells #[.string ⟨#[98, 101, 104, 105, 110, 100]⟩] 9))
        · exact hone.out
        · have := hnb.out; simp only [maxLen]; omega
        · have := hnb.out; omega
        · exact below_sz ((((Below.refl _ w5).alloc (Nat.le_refl _) (.cells #[] 9)).drew).alloc (by simp) (.cells #[.string ⟨#[98, 101, 104, 105, 110, 100]⟩] 9))
        intro A2 c2 w2 hown2 hg2 hat2
        have hbA : Hid (Below w5.heap.size w5 w2) := hid (below_gr ((((Below.refl _ w5).alloc (Nat.le_refl _) (.cells #[] 9)).drew).alloc (by simp) (.cells #[.string ⟨#[98, 101, 104, 105, 110, 100]⟩] 9)) hg2 (fun k hk => by simp [Value.ownBlock] at hk; omega))
        have hI : Hid (Rd (fun b => b = w5.heap.size + 1) w2 1 (some ⟨w5.heap.size + 1, 0, none⟩) 1 #[.string ⟨#[98, 101, 104, 105, 110, 100]⟩].toList) := hid ((Rd.new (w5.alloc (.cells #[] 9)).drew 9 1 1 #[.string ⟨#[98, 101, 104, 105, 110, 100]⟩] (w5.heap.size + 1) (by simp) rfl).grown_ hg2 (fun b hb => by simp [Value.ownBlock, hb]))
        clear hg2 hat2
        refine hK.out _ _ (fun _ => hkeep.out _ hbA.out) ?_
        clear hK K
        (try simp only [Act.put, List.setIfInBounds_toArray, List.set_cons_zero, List.set_cons_succ, List.getElem_toArray, List.getElem_cons_zero, List.getElem_cons_succ])
        refine wpAnyE_ready (rs := [5]) (by kernel_rfl) (by simp) ?_
        refine AllReadyE.cons rfl (fun K hK => ?_) AllReadyE.nil
        refine step_append_rd _ rfl (.tmp 6) (.tmp 7) 32 rfl w5.heap.size 9 ip _ 1 16 Tryd.underlying32 hip hp0 hp1 hp2 rfl (by omega) (.slice A2 a.ks.length c2) a.ks.length (strs a.ks) rfl ?_ (fun b => b = w5.heap.size + 1) (some ⟨w5.heap.size + 1, 0, none⟩) 1 1 #[.string ⟨#[98, 101, 104, 105, 110, 100]⟩].toList rfl ?_ ?_ ?_ ?_ ?_ (a.ks.length + 1) rfl ((strs a.ks) ++ #[.string ⟨#[98, 101, 104, 105, 110, 100]⟩].toList) rfl ?_
        · exact hown2
        · exact hI.out
        · intro v hv; simp at hv; rcases hv with rfl <;> rfl
        · have := hnb.out; simp only [maxLen]; omega
        · have := hnb.out; omega
        · exact below_sz hbA.out
        intro A3 c3 w3 hown3 hg3 hat3
        have hbB : Hid (Below w5.heap.size w5 w3) := hid (below_gr hbA.out hg3 (fun k hk => (hown2.lt k hk).1))
        obtain ⟨A9, c9, he9, hc9, hm9⟩ := own_form hown3
        injection he9 with e1 e2 e3
        subst e1; subst e3
        have j1 : ((a.ks.length : Nat) : Int) ≤ (c3 : Int) := by omega
        have j2 : a.ks.length ≤ c3 := by omega
        have j3 : (c3 : Int) ≤ 9223372036854775807 := by simp only [maxLen] at hm9; omega
        have r4 : w3.cell? ⟨m, 1, none⟩ = some (.slice a.A1 a.ks.length a.c1) := hkeep.out _ hbB.out
        have q4 := fq.out _ hbB.out
        have hO3 := hid hown3
        clear hg3 hat3 hown3 hown2
        refine hK.out _ _ (fun _ => hkeep.out _ hbB.out) ?_
        clear hK K
        (try simp only [Act.put, List.setIfInBounds_toArray, List.set_cons_zero, List.set_cons_succ, List.getElem_toArray, List.getElem_cons_zero, List.getElem_cons_succ])
        refine wpAnyE_take [10, 11] (i := 9) (v := ?v3) rfl (by kernel_rfl) (by kernel_rfl) (by kernel_rfl) (by rfl) (by kernel_rfl) (by kernel_rfl) (fun _ _ _ h => h) (Or.inl ⟨by rfl, ?hy3⟩) (hkeep.out _ hbB.out) ?rest3
        case hy3 => intro w hSw; (try dsimp only at hSw); go_simp; try with_reducible rfl
        (try simp only [Act.put, List.setIfInBounds_toArray, List.set_cons_zero, List.set_cons_succ, List.getElem_toArray, List.getElem_cons_zero, List.getElem_cons_succ])
        refine wpAnyE_take [11] (i := 10) (v := ?v4) rfl (by kernel_rfl) (by kernel_rfl) (by kernel_rfl) (by rfl) (by kernel_rfl) (by kernel_rfl) (fun _ _ _ h => h) (Or.inl ⟨by rfl, ?hy4⟩) (hkeep.out _ hbB.out) ?rest4
        case hy4 => intro w hSw; (try dsimp only at hSw); go_simp; try with_reducible rfl
        (try simp only [Act.put, List.setIfInBounds_toArray, List.set_cons_zero, List.set_cons_succ, List.getElem_toArray, List.getElem_cons_zero, List.getElem_cons_succ])
        refine wpAnyE_ready (rs := [11]) (by kernel_rfl) (by simp) ?_
        refine AllReadyE.cons rfl (fun K hK => ?_) AllReadyE.nil
        go_simp
        refine hK.out _ _ (fun h => absurd rfl h) ?_
        clear hK K
        (try simp only [Act.put, List.setIfInBounds_toArray, List.set_cons_zero, List.set_cons_succ, List.getElem_toArray, List.getElem_cons_zero, List.getElem_cons_succ])
        refine wpAnyE_done (by kernel_rfl) ?_ _
        go_wp2_with fail
        go_meet
        exact ⟨A3, c3, w3, hO3.out, hbB.out, rfl⟩
    · go_simp
      refine hK.out _ _ (fun _ => hkeep.out _ (((Below.refl _ w5).alloc (Nat.le_refl _) _).drew)) ?_
      clear hK K
      (try simp only [Act.put, List.setIfInBounds_toArray, List.set_cons_zero, List.set_cons_succ, List.getElem_toArray, List.getElem_cons_zero, List.getElem_cons_succ])
      refine wpAnyE_ready (rs := [0]) (by kernel_rfl) (by simp) ?_
      refine AllReadyE.cons rfl (fun K hK => ?_) AllReadyE.nil
      go_simp
      refine hK.out _ _ (fun _ => hkeep.out _ ((((Below.refl _ w5).alloc (Nat.le_refl _) _).drew).alloc (by simp) _)) ?_
      clear hK K
      (try simp only [Act.put, List.setIfInBounds_toArray, List.set_cons_zero, List.set_cons_succ, List.getElem_toArray, List.getElem_cons_zero, List.getElem_cons_succ])
      refine wpAnyE_ready (rs := [3]) (by kernel_rfl) (by simp) ?_
      refine AllReadyE.cons rfl (fun K hK => ?_) AllReadyE.nil
      refine step_append_rd _ rfl (.tmp 3) (.tmp 5) 32 rfl w5.heap.size 9 ip _ 1 16 Tryd.underlying32 hip hp0 hp1 hp2 rfl (by omega) (.slice (some ⟨w5.heap.size + 1, 0, none⟩) 0 0) 0 [] rfl ?_ (fun b => b < m) a.A1 a.ks.length a.c1 (strs a.ks) rfl ?_ ?_ ?_ ?_ ?_ a.ks.length (Nat.zero_add _) (strs a.ks) rfl ?_
      · exact own_base (by simp) (own_empty' (w5.alloc (.cells #[.string ⟨#[98, 101, 104, 105, 110, 100]⟩] 9)).drew _ 1 (w5.heap.size + 1) (by simp))
      · exact hrd.out.below_all ((((Below.refl _ w5).alloc (Nat.le_refl _) (.cells #[.string ⟨#[98, 101, 104, 105, 110, 100]⟩] 9)).drew).alloc (by simp) (.cells #[] 9))
      · exact hone.out
      · have := hnb.out; simp only [maxLen]; omega
      · have := hnb.out; omega
      · exact below_sz ((((Below.refl _ w5).alloc (Nat.le_refl _) (.cells #[.string ⟨#[98, 101, 104, 105, 110, 100]⟩] 9)).drew).alloc (by simp) (.cells #[] 9))
      intro A2 c2 w2 hown2 hg2 hat2
      have hbA : Hid (Below w5.heap.size w5 w2) := hid (below_gr ((((Below.refl _ w5).alloc (Nat.le_refl _) (.cells #[.string ⟨#[98, 101, 104, 105, 110, 100]⟩] 9)).drew).alloc (by simp) (.cells #[] 9)) hg2 (fun k hk => by simp [Value.ownBlock] at hk; omega))
      have hI : Hid (Rd (fun b => b = w5.heap.size) w2 1 (some ⟨w5.heap.size, 0, none⟩) 1 #[.string ⟨#[98, 101, 104, 105, 110, 100]⟩].toList) := hid (((Rd.new w5 9 1 1 #[.string ⟨#[98, 101, 104, 105, 110, 100]⟩] w5.heap.size rfl rfl).drew.alloc (.cells #[] 9)).grown_ hg2 (fun b hb => by simp [Value.ownBlock, hb]))
      clear hg2 hat2
      refine hK.out _ _ (fun _ => hkeep.out _ hbA.out) ?_
      clear hK K
      (try simp only [Act.put, List.setIfInBounds_toArray, List.set_cons_zero, List.set_cons_succ, List.getElem_toArray, List.getElem_cons_zero, List.getElem_cons_succ])
      refine wpAnyE_ready (rs := [5]) (by kernel_rfl) (by simp) ?_
      refine AllReadyE.cons rfl (fun K hK => ?_) AllReadyE.nil
      refine step_append_rd _ rfl (.tmp 6) (.tmp 7) 32 rfl w5.heap.size 9 ip _ 1 16 Tryd.underlying32 hip hp0 hp1 hp2 rfl (by omega) (.slice A2 a.ks.length c2) a.ks.length (strs a.ks) rfl ?_ (fun b => b = w5.heap.size) (some ⟨w5.heap.size, 0, none⟩) 1 1 #[.string ⟨#[98, 101, 104, 105, 110, 100]⟩].toList rfl ?_ ?_ ?_ ?_ ?_ (a.ks.length + 1) rfl ((strs a.ks) ++ #[.string ⟨#[98, 101, 104, 105, 110, 100]⟩].toList) rfl ?_
      · exact hown2
      · exact hI.out
      · intro v hv; simp at hv; rcases hv with rfl <;> rfl
      · have := hnb.out; simp only [maxLen]; omega
      · have := hnb.out; omega
      · exact below_sz hbA.out
      intro A3 c3 w3 hown3 hg3 hat3
      have hbB : Hid (Below w5.heap.size w5 w3) := hid (below_gr hbA.out hg3 (fun k hk => (hown2.lt k hk).1))
      obtain ⟨A9, c9, he9, hc9, hm9⟩ := own_form hown3
      injection he9 with e1 e2 e3
      subst e1; subst e3
      have j1 : ((a.ks.length : Nat) : Int) ≤ (c3 : Int) := by omega
      have j2 : a.ks.length ≤ c3 := by omega
      have j3 : (c3 : Int) ≤ 9223372036854775807 := by simp only [maxLen] at hm9; omega
      have r4 : w3.cell? ⟨m, 1, none⟩ = some (.slice a.A1 a.ks.length a.c1) := hkeep.out _ hbB.out
      have q4 := fq.out _ hbB.out
      have hO3 := hid hown3
      clear hg3 hat3 hown3 hown2
      refine hK.out _ _ (fun _ => hkeep.out _ hbB.out) ?_
      clear hK K
      (try simp only [Act.put, List.setIfInBounds_toArray, List.set_cons_zero, List.set_cons_succ, List.getElem_toArray, List.getElem_cons_zero, List.getElem_cons_succ])
      refine wpAnyE_take [10, 11] (i := 9) (v := ?v5) rfl (by kernel_rfl) (by kernel_rfl) (by kernel_rfl) (by rfl) (by kernel_rfl) (by kernel_rfl) (fun _ _ _ h => h) (Or.inl ⟨by rfl, ?hy5⟩) (hkeep.out _ hbB.out) ?rest5
      case hy5 => intro w hSw; (try dsimp only at hSw); go_simp; try with_reducible rfl
      (try simp only [Act.put, List.setIfInBounds_toArray, List.set_cons_zero, List.set_cons_succ, List.getElem_toArray, List.getElem_cons_zero, List.getElem_cons_succ])
      refine wpAnyE_take [11] (i := 10) (v := ?v6) rfl (by kernel_rfl) (by kernel_rfl) (by kernel_rfl) (by rfl) (by kernel_rfl) (by kernel_rfl) (fun _ _ _ h => h) (Or.inl ⟨by rfl, ?hy6⟩) (hkeep.out _ hbB.out) ?rest6
      case hy6 => intro w hSw; (try dsimp only at hSw); go_simp; try with_reducible rfl
      (try simp only [Act.put, List.setIfInBounds_toArray, List.set_cons_zero, List.set_cons_succ, List.getElem_toArray, List.getElem_cons_zero, List.getElem_cons_succ])
      refine wpAnyE_ready (rs := [11]) (by kernel_rfl) (by simp) ?_
      refine AllReadyE.cons rfl (fun K hK => ?_) AllReadyE.nil
      go_simp
      refine hK.out _ _ (fun h => absurd rfl h) ?_
      clear hK K
      (try simp only [Act.put, List.setIfInBounds_toArray, List.set_cons_zero, List.set_cons_succ, List.getElem_toArray, List.getElem_cons_zero, List.getElem_cons_succ])
      refine wpAnyE_done (by kernel_rfl) ?_ _
      go_wp2_with fail
      go_meet
      exact ⟨A3, c3, w3, hO3.out, hbB.out, rfl⟩
  case rest =>
    obtain ⟨A3, c3, w3, hO3, hb3, rfl⟩ := hcut
    have hu1 : Upd (fun j => j = m) w5 (w3.setCell ⟨m, 1, none⟩ (.slice A3 a.ks.length c3)) := (Upd.of_below (M := fun j => j = m) hb3 fun k hk h => by omega).setCell (p := ⟨m, 1, none⟩) (fun _ => rfl) _
    have hml : m < w5.heap.size := K1.out.lt
    have hbs := hB.out.size
    have hm2 := hid K2.out.lt
    have K1a := hid ((K1.out.below_all hb3).set_ 1 (.slice A3 a.ks.length c3))
    have K2a : Hid (Blk (w3.setCell ⟨m, 1, none⟩ (.slice A3 a.ks.length c3)) (m + 1) 35 #[.int .i64 0, .slice none 0 0, .slice none 0 0]) := hid (K2.out.upd hu1 (by omega))
    have hw5a : Hid (Rd (fun b => b < m) (w3.setCell ⟨m, 1, none⟩ (.slice A3 a.ks.length c3)) 5 a.A2 a.ws.length (wrCells a.ws)) := hid ((hw5.out.below_all hb3).setCell (by simp only; omega) _)
    have hR1 : Hid (Rd (fun b => w5.heap.size ≤ b) (w3.setCell ⟨m, 1, none⟩ (.slice A3 a.ks.length c3)) 1 A3 a.ks.length (strs a.ks)) := hid ((Rd.pre_own hO3 (by simp [strs])).setCell (by simp only; omega) _)
    have hBa : Hid (Below m w (w3.setCell ⟨m, 1, none⟩ (.slice A3 a.ks.length c3))) := hid ((hB.out.trans (hb3.mono (by omega))).setCell (p := ⟨m, 1, none⟩) (Nat.le_refl _) _)
    generalize w3.setCell ⟨m, 1, none⟩ (.slice A3 a.ks.length c3) = w6 at *
    have hs65 : Hid (w5.heap.size ≤ w6.heap.size) := hid hu1.size
    clear hO3 hb3 hu1 hbs K1 K2 hB hk5 hw5
    go_upto_region 2 with fail
    go_cut [] (fun wx => ∃ (A3 : Option Addr) (c3 : Nat) (w3 : World), w3.ownsRow w6.heap.size 62 5 (.slice A3 (a.ws.length + 1) c3) (a.ws.length + 1) (wrCells a.ws ++ #[.string ⟨#[98, 101, 104, 105, 110, 100]⟩, .bool false, .int .i64 0, .int .i64 0, .string ⟨#[]⟩].toList) ∧ Below w6.heap.size w6 w3 ∧ wx = w3.setCell ⟨m, 2, none⟩ (.slice A3 a.ws.length c3))
    case first =>
      have hrd := hw5a
      have hnb := hn2
      have hone := hid (wrCells_one a.ws)
      obtain ⟨ip, hip, hp0, hp1, hp2⟩ := info_parts info_write
      have hkeep : Hid (∀ w', Below w6.heap.size w6 w' → w'.cell? ⟨m, 2, none⟩ = some (.slice a.A2 a.ws.length a.c2)) := hid fun w' h => (K1a.out.below_all h).cell 2
      have fq : Hid (∀ w', Below w6.heap.size w6 w' → w'.frozen? ⟨m, 2, none⟩ = false) := hid fun w' h => (K1a.out.below_all h).frozen 2
      have hHeld := hkeep.out w6.drew (Below.refl _ _).drew
      refine wp_region_heldE (S := fun w' => w'.cell? ⟨m, 2, none⟩ = some (.slice a.A2 a.ws.length a.c2)) 12 (by kernel_rfl) ?_
      refine wpAnyE_take [2, 3, 6, 10, 11, 12] (i := 1) (v := ?v18) rfl (by kernel_rfl) (by kernel_rfl) (by kernel_rfl) (by rfl) (by kernel_rfl) (by kernel_rfl) (fun _ _ _ h => h) (Or.inl ⟨by rfl, ?hy18⟩) (hHeld) ?rest18
      case hy18 => intro w hSw; (try dsimp only at hSw); go_simp; try with_reducible rfl
      (try simp only [Act.put, List.setIfInBounds_toArray, List.set_cons_zero, List.set_cons_succ, List.getElem_toArray, List.getElem_cons_zero, List.getElem_cons_succ])
      refine wpAnyE_take [3, 6, 10, 11, 12] (i := 2) (v := ?v19) rfl (by kernel_rfl) (by kernel_rfl) (by kernel_rfl) (by rfl) (by kernel_rfl) (by kernel_rfl) (fun _ _ _ h => h) (Or.inl ⟨by rfl, ?hy19⟩) (hHeld) ?rest19
      case hy19 => intro w hSw; (try dsimp only at hSw); go_simp; try with_reducible rfl
      (try simp only [Act.put, List.setIfInBounds_toArray, List.set_cons_zero, List.set_cons_succ, List.getElem_toArray, List.getElem_cons_zero, List.getElem_cons_succ])
      refine wpAnyE_take [5, 6, 10, 11, 12] (i := 4) (v := ?v20) rfl (by kernel_rfl) (by kernel_rfl) (by kernel_rfl) (by rfl) (by kernel_rfl) (by kernel_rfl) (fun _ _ _ h => h) (Or.inl ⟨by rfl, ?hy20⟩) (hHeld) ?rest20
      case hy20 => intro w hSw; (try dsimp only at hSw); go_simp; try with_reducible rfl
      (try simp only [Act.put, List.setIfInBounds_toArray, List.set_cons_zero, List.set_cons_succ, List.getElem_toArray, List.getElem_cons_zero, List.getElem_cons_succ])
      refine wpAnyE_take [8, 9, 10, 11, 12] (i := 7) (v := ?v21) rfl (by kernel_rfl) (by kernel_rfl) (by kernel_rfl) (by rfl) (by kernel_rfl) (by kernel_rfl) (fun _ _ _ h => h) (Or.inl ⟨by rfl, ?hy21⟩) (hHeld) ?rest21
      case hy21 => intro w hSw; (try dsimp only at hSw); go_simp; try with_reducible rfl
      (try simp only [Act.put, List.setIfInBounds_toArray, List.set_cons_zero, List.set_cons_succ, List.getElem_toArray, List.getElem_cons_zero, List.getElem_cons_succ])
      refine wpAnyE_take [9, 10, 11, 12] (i := 8) (v := ?v22) rfl (by kernel_rfl) (by kernel_rfl) (by kernel_rfl) (by rfl) (by kernel_rfl) (by kernel_rfl) (fun _ _ _ h => h) (Or.inl ⟨by rfl, ?hy22⟩) (hHeld) ?rest22
      case hy22 => intro w hSw; (try dsimp only at hSw); go_simp; try with_reducible rfl
      (try simp only [Act.put, List.setIfInBounds_toArray, List.set_cons_zero, List.set_cons_succ, List.getElem_toArray, List.getElem_cons_zero, List.getElem_cons_succ])
      refine wpAnyE_take [10, 11, 12] (i := 9) (v := ?v23) rfl (by kernel_rfl) (by kernel_rfl) (by kernel_rfl) (by rfl) (by kernel_rfl) (by kernel_rfl) (fun _ _ _ h => h) (Or.inl ⟨by rfl, ?hy23⟩) (hHeld) ?rest23
      case hy23 => intro w hSw; (try dsimp only at hSw); go_simp; try with_reducible rfl
      (try simp only [Act.put, List.setIfInBounds_toArray, List.set_cons_zero, List.set_cons_succ, List.getElem_toArray, List.getElem_cons_zero, List.getElem_cons_succ])
      refine wpAnyE_ready (rs := [0, 5]) (by kernel_rfl) (by simp) ?_
      refine AllReadyE.cons rfl (fun K hK => ?_) (AllReadyE.cons rfl (fun K hK => ?_) AllReadyE.nil)
      · go_simp
        refine hK.out _ _ (fun _ => hkeep.out _ (((Below.refl _ w6).alloc (Nat.le_refl _) _).drew)) ?_
        clear hK K
        (try simp only [Act.put, List.setIfInBounds_toArray, List.set_cons_zero, List.set_cons_succ, List.getElem_toArray, List.getElem_cons_zero, List.getElem_cons_succ])
        refine wpAnyE_ready (rs := [3, 5]) (by kernel_rfl) (by simp) ?_
        refine AllReadyE.cons rfl (fun K hK => ?_) (AllReadyE.cons rfl (fun K hK => ?_) AllReadyE.nil)
        · refine step_append_rd _ rfl (.tmp 14) (.tmp 16) 33 rfl w6.heap.size 62 ip _ 5 56 Tryd.underlying33 hip hp0 hp1 hp2 rfl (by omega) (.slice (some ⟨w6.heap.size, 0, none⟩) 0 0) 0 [] rfl ?_ (fun b => b < m) a.A2 a.ws.length a.c2 (wrCells a.ws) rfl ?_ ?_ ?_ ?_ ?_ a.ws.length (Nat.zero_add _) (wrCells a.ws) rfl ?_
          · exact (own_empty w6 _ 5).drew
          · exact hrd.out.below_all (((Below.refl _ w6).alloc (Nat.le_refl _) (.cells #[] 62)).drew)
          · exact hone.out
          · have := hnb.out; simp only [maxLen]; omega
          · have := hnb.out; omega
          · exact below_sz (((Below.refl _ w6).alloc (Nat.le_refl _) (.cells #[] 62)).drew)
          intro A2 c2 w2 hown2 hg2 hat2
          have hbA : Hid (Below w6.heap.size w6 w2) := hid (below_gr (((Below.refl _ w6).alloc (Nat.le_refl _) (.cells #[] 62)).drew) hg2 (fun k hk => by simp [Value.ownBlock] at hk; omega))
          clear hg2 hat2
          refine hK.out _ _ (fun _ => hkeep.out _ hbA.out) ?_
          clear hK K
          (try simp only [Act.put, List.setIfInBounds_toArray, List.set_cons_zero, List.set_cons_succ, List.getElem_toArray, List.getElem_cons_zero, List.getElem_cons_succ])
          refine wpAnyE_ready (rs := [5]) (by kernel_rfl) (by simp) ?_
          refine AllReadyE.cons rfl (fun K hK => ?_) AllReadyE.nil
          go_simp
          refine hK.out _ _ (fun _ => hkeep.out _ (below_al hbA.out _)) ?_
          clear hK K
          (try simp only [Act.put, List.setIfInBounds_toArray, List.set_cons_zero, List.set_cons_succ, List.getElem_toArray, List.getElem_cons_zero, List.getElem_cons_succ])
          refine wpAnyE_ready (rs := [6]) (by kernel_rfl) (by simp) ?_
          refine AllReadyE.cons rfl (fun K hK => ?_) AllReadyE.nil
          refine step_append_rd _ rfl (.tmp 17) (.tmp 19) 33 rfl w6.heap.size 62 ip _ 5 56 Tryd.underlying33 hip hp0 hp1 hp2 rfl (by omega) (.slice A2 a.ws.length c2) a.ws.length (wrCells a.ws) rfl ?_ (fun b => b = w2.heap.size) (some ⟨w2.heap.size, 0, none⟩) 1 1 #[.string ⟨#[98, 101, 104, 105, 110, 100]⟩, .bool false, .int .i64 0, .int .i64 0, .string ⟨#[]⟩].toList rfl ?_ ?_ ?_ ?_ ?_ (a.ws.length + 1) rfl ((wrCells a.ws) ++ #[.string ⟨#[98, 101, 104, 105, 110, 100]⟩, .bool false, .int .i64 0, .int .i64 0, .string ⟨#[]⟩].toList) rfl ?_
          · exact hown2.alloc _
          · exact Rd.new w2 62 5 1 #[.string ⟨#[98, 101, 104, 105, 110, 100]⟩, .bool false, .int .i64 0, .int .i64 0, .string ⟨#[]⟩] w2.heap.size rfl rfl
          · intro v hv; simp at hv; rcases hv with rfl | rfl | rfl | rfl | rfl <;> rfl
          · have := hnb.out; simp only [maxLen]; omega
          · have := hnb.out; omega
          · exact below_sz (below_al hbA.out _)
          intro A3 c3 w3 hown3 hg3 hat3
          have hbB : Hid (Below w6.heap.size w6 w3) := hid (below_gr (below_al hbA.out _) hg3 (fun k hk => (hown2.lt k hk).1))
          obtain ⟨A9, c9, he9, hc9, hm9⟩ := own_form hown3
          injection he9 with e1 e2 e3
          subst e1; subst e3
          have j1 : ((a.ws.length : Nat) : Int) ≤ (c3 : Int) := by omega
          have j2 : a.ws.length ≤ c3 := by omega
          have j3 : (c3 : Int) ≤ 9223372036854775807 := by simp only [maxLen] at hm9; omega
          have r4 : w3.cell? ⟨m, 2, none⟩ = some (.slice a.A2 a.ws.length a.c2) := hkeep.out _ hbB.out
          have q4 := fq.out _ hbB.out
          have hO3 := hid hown3
          clear hg3 hat3 hown3 hown2
          refine hK.out _ _ (fun _ => hkeep.out _ hbB.out) ?_
          clear hK K
          (try simp only [Act.put, List.setIfInBounds_toArray, List.set_cons_zero, List.set_cons_succ, List.getElem_toArray, List.getElem_cons_zero, List.getElem_cons_succ])
          refine wpAnyE_take [11, 12] (i := 10) (v := ?v12) rfl (by kernel_rfl) (by kernel_rfl) (by kernel_rfl) (by rfl) (by kernel_rfl) (by kernel_rfl) (fun _ _ _ h => h) (Or.inl ⟨by rfl, ?hy12⟩) (hkeep.out _ hbB.out) ?rest12
          case hy12 => intro w hSw; (try dsimp only at hSw); go_simp; try with_reducible rfl
          (try simp only [Act.put, List.setIfInBounds_toArray, List.set_cons_zero, List.set_cons_succ, List.getElem_toArray, List.getElem_cons_zero, List.getElem_cons_succ])
          refine wpAnyE_take [12] (i := 11) (v := ?v13) rfl (by kernel_rfl) (by kernel_rfl) (by kernel_rfl) (by rfl) (by kernel_rfl) (by kernel_rfl) (fun _ _ _ h => h) (Or.inl ⟨by rfl, ?hy13⟩) (hkeep.out _ hbB.out) ?rest13
          case hy13 => intro w hSw; (try dsimp only at hSw); go_simp; try with_reducible rfl
          (try simp only [Act.put, List.setIfInBounds_toArray, List.set_cons_zero, List.set_cons_succ, List.getElem_toArray, List.getElem_cons_zero, List.getElem_cons_succ])
          refine wpAnyE_ready (rs := [12]) (by kernel_rfl) (by simp) ?_
          refine AllReadyE.cons rfl (fun K hK => ?_) AllReadyE.nil
          go_simp
          refine hK.out _ _ (fun h => absurd rfl h) ?_
          clear hK K
          (try simp only [Act.put, List.setIfInBounds_toArray, List.set_cons_zero, List.set_cons_succ, List.getElem_toArray, List.getElem_cons_zero, List.getElem_cons_succ])
          refine wpAnyE_done (by kernel_rfl) ?_ _
          go_wp2_with fail
          go_meet
          exact ⟨A3, c3, w3, hO3.out, hbB.out, rfl⟩
        · go_simp
          refine hK.out _ _ (fun _ => hkeep.out _ ((((Below.refl _ w6).alloc (Nat.le_refl _) _).drew).alloc (by simp) _)) ?_
          clear hK K
          (try simp only [Act.put, List.setIfInBounds_toArray, List.set_cons_zero, List.set_cons_succ, List.getElem_toArray, List.getElem_cons_zero, List.getElem_cons_succ])
          refine wpAnyE_ready (rs := [3]) (by kernel_rfl) (by simp) ?_
          refine AllReadyE.cons rfl (fun K hK => ?_) AllReadyE.nil
          refine step_append_rd _ rfl (.tmp 14) (.tmp 16) 33 rfl w6.heap.size 62 ip _ 5 56 Tryd.underlying33 hip hp0 hp1 hp2 rfl (by omega) (.slice (some ⟨w6.heap.size, 0, none⟩) 0 0) 0 [] rfl ?_ (fun b => b < m) a.A2 a.ws.length a.c2 (wrCells a.ws) rfl ?_ ?_ ?_ ?_ ?_ a.ws.length (Nat.zero_add _) (wrCells a.ws) rfl ?_
          · exact (own_empty w6 _ 5).drew.alloc _
          · exact hrd.out.below_all ((((Below.refl _ w6).alloc (Nat.le_refl _) (.cells #[] 62)).drew).alloc (by simp) (.cells #[.string ⟨#[98, 101, 104, 105, 110, 100]⟩, .bool false, .int .i64 0, .int .i64 0, .string ⟨#[]⟩] 62))
          · exact hone.out
          · have := hnb.out; simp only [maxLen]; omega
          · have := hnb.out; omega
          · exact below_sz ((((Below.refl _ w6).alloc (Nat.le_refl _) (.cells #[] 62)).drew).alloc (by simp) (.cells #[.string ⟨#[98, 101, 104, 105, 110, 100]⟩, .bool false, .int .i64 0, .int .i64 0, .string ⟨#[]⟩] 62))
          intro A2 c2 w2 hown2 hg2 hat2
          have hbA : Hid (Below w6.heap.size w6 w2) := hid (below_gr ((((Below.refl _ w6).alloc (Nat.le_refl _) (.cells #[] 62)).drew).alloc (by simp) (.cells #[.string ⟨#[98, 101, 104, 105, 110, 100]⟩, .bool false, .int .i64 0, .int .i64 0, .string ⟨#[]⟩] 62)) hg2 (fun k hk => by simp [Value.ownBlock] at hk; omega))
          have hI : Hid (Rd (fun b => b = w6.heap.size + 1) w2 5 (some ⟨w6.heap.size + 1, 0, none⟩) 1 #[.string ⟨#[98, 101, 104, 105, 110, 100]⟩, .bool false, .int .i64 0, .int .i64 0, .string ⟨#[]⟩].toList) := hid ((Rd.new (w6.alloc (.cells #[] 62)).drew 62 5 1 #[.string ⟨#[98, 101, 104, 105, 110, 100]⟩, .bool false, .int .i64 0, .int .i64 0, .string ⟨#[]⟩] (w6.heap.size + 1) (by simp) rfl).grown_ hg2 (fun b hb => by simp [Value.ownBlock, hb]))
          clear hg2 hat2
          refine hK.out _ _ (fun _ => hkeep.out _ hbA.out) ?_
          clear hK K
          (try simp only [Act.put, List.setIfInBounds_toArray, List.set_cons_zero, List.set_cons_succ, List.getElem_toArray, List.getElem_cons_zero, List.getElem_cons_succ])
          refine wpAnyE_ready (rs := [6]) (by kernel_rfl) (by simp) ?_
          refine AllReadyE.cons rfl (fun K hK => ?_) AllReadyE.nil
          refine step_append_rd _ rfl (.tmp 17) (.tmp 19) 33 rfl w6.heap.size 62 ip _ 5 56 Tryd.underlying33 hip hp0 hp1 hp2 rfl (by omega) (.slice A2 a.ws.length c2) a.ws.length (wrCells a.ws) rfl ?_ (fun b => b = w6.heap.size + 1) (some ⟨w6.heap.size + 1, 0, none⟩) 1 1 #[.string ⟨#[98, 101, 104, 105, 110, 100]⟩, .bool false, .int .i64 0, .int .i64 0, .string ⟨#[]⟩].toList rfl ?_ ?_ ?_ ?_ ?_ (a.ws.length + 1) rfl ((wrCells a.ws) ++ #[.string ⟨#[98, 101, 104, 105, 110, 100]⟩, .bool false, .int .i64 0, .int .i64 0, .string ⟨#[]⟩].toList) rfl ?_
          · exact hown2
          · exact hI.out
          · intro v hv; simp at hv; rcases hv with rfl | rfl | rfl | rfl | rfl <;> rfl
          · have := hnb.out; simp only [maxLen]; omega
          · have := hnb.out; omega
          · exact below_sz hbA.out
          intro A3 c3 w3 hown3 hg3 hat3
          have hbB : Hid (Below w6.heap.size w6 w3) := hid (below_gr hbA.out hg3 (fun k hk => (hown2.lt k hk).1))
          obtain ⟨A9, c9, he9, hc9, hm9⟩ := own_form hown3
          injection he9 with e1 e2 e3
          subst e1; subst e3
          have j1 : ((a.ws.length : Nat) : Int) ≤ (c3 : Int) := by omega
          have j2 : a.ws.length ≤ c3 := by omega
          have j3 : (c3 : Int) ≤ 9223372036854775807 := by simp only [maxLen] at hm9; omega
          have r4 : w3.cell? ⟨m, 2, none⟩ = some (.slice a.A2 a.ws.length a.c2) := hkeep.out _ hbB.out
          have q4 := fq.out _ hbB.out
          have hO3 := hid hown3
          clear hg3 hat3 hown3 hown2
          refine hK.out _ _ (fun _ => hkeep.out _ hbB.out) ?_
          clear hK K
          (try simp only [Act.put, List.setIfInBounds_toArray, List.set_cons_zero, List.set_cons_succ, List.getElem_toArray, List.getElem_cons_zero, List.getElem_cons_succ])
          refine wpAnyE_take [11, 12] (i := 10) (v := ?v14) rfl (by kernel_rfl) (by kernel_rfl) (by kernel_rfl) (by rfl) (by kernel_rfl) (by kernel_rfl) (fun _ _ _ h => h) (Or.inl ⟨by rfl, ?hy14⟩) (hkeep.out _ hbB.out) ?rest14
          case hy14 => intro w hSw; (try dsimp only at hSw); go_simp; try with_reducible rfl
          (try simp only [Act.put, List.setIfInBounds_toArray, List.set_cons_zero, List.set_cons_succ, List.getElem_toArray, List.getElem_cons_zero, List.getElem_cons_succ])
          refine wpAnyE_take [12] (i := 11) (v := ?v15) rfl (by kernel_rfl) (by kernel_rfl) (by kernel_rfl) (by rfl) (by kernel_rfl) (by kernel_rfl) (fun _ _ _ h => h) (Or.inl ⟨by rfl, ?hy15⟩) (hkeep.out _ hbB.out) ?rest15
          case hy15 => intro w hSw; (try dsimp only at hSw); go_simp; try with_reducible rfl
          (try simp only [Act.put, List.setIfInBounds_toArray, List.set_cons_zero, List.set_cons_succ, List.getElem_toArray, List.getElem_cons_zero, List.getElem_cons_succ])
          refine wpAnyE_ready (rs := [12]) (by kernel_rfl) (by simp) ?_
          refine AllReadyE.cons rfl (fun K hK => ?_) AllReadyE.nil
          go_simp
          refine hK.out _ _ (fun h => absurd rfl h) ?_
          clear hK K
          (try simp only [Act.put, List.setIfInBounds_toArray, List.set_cons_zero, List.set_cons_succ, List.getElem_toArray, List.getElem_cons_zero, List.getElem_cons_succ])
          refine wpAnyE_done (by kernel_rfl) ?_ _
          go_wp2_with fail
          go_meet
          exact ⟨A3, c3, w3, hO3.out, hbB.out, rfl⟩
      · go_simp
        refine hK.out _ _ (fun _ => hkeep.out _ (((Below.refl _ w6).alloc (Nat.le_refl _) _).drew)) ?_
        clear hK K
        (try simp only [Act.put, List.setIfInBounds_toArray, List.set_cons_zero, List.set_cons_succ, List.getElem_toArray, List.getElem_cons_zero, List.getElem_cons_succ])
        refine wpAnyE_ready (rs := [0]) (by kernel_rfl) (by simp) ?_
        refine AllReadyE.cons rfl (fun K hK => ?_) AllReadyE.nil
        go_simp
        refine hK.out _ _ (fun _ => hkeep.out _ ((((Below.refl _ w6).alloc (Nat.le_refl _) _).drew).alloc (by simp) _)) ?_
        clear hK K
        (try simp only [Act.put, List.setIfInBounds_toArray, List.set_cons_zero, List.set_cons_succ, List.getElem_toArray, List.getElem_cons_zero, List.getElem_cons_succ])
        refine wpAnyE_ready (rs := [3]) (by kernel_rfl) (by simp) ?_
        refine AllReadyE.cons rfl (fun K hK => ?_) AllReadyE.nil
        refine step_append_rd _ rfl (.tmp 14) (.tmp 16) 33 rfl w6.heap.size 62 ip _ 5 56 Tryd.underlying33 hip hp0 hp1 hp2 rfl (by omega) (.slice (some ⟨w6.heap.size + 1, 0, none⟩) 0 0) 0 [] rfl ?_ (fun b => b < m) a.A2 a.ws.length a.c2 (wrCells a.ws) rfl ?_ ?_ ?_ ?_ ?_ a.ws.length (Nat.zero_add _) (wrCells a.ws) rfl ?_
        · exact own_base (by simp) (own_empty' (w6.alloc (.cells #[.string ⟨#[98, 101, 104, 105, 110, 100]⟩, .bool false, .int .i64 0, .int .i64 0, .string ⟨#[]⟩] 62)).drew _ 5 (w6.heap.size + 1) (by simp))
        · exact hrd.out.below_all ((((Below.refl _ w6).alloc (Nat.le_refl _) (.cells #[.string ⟨#[98, 101, 104, 105, 110, 100]⟩, .bool false, .int .i64 0, .int .i64 0, .string ⟨#[]⟩] 62)).drew).alloc (by simp) (.cells #[] 62))
        · exact hone.out
        · have := hnb.out; simp only [maxLen]; omega
        · have := hnb.out; omega
        · exact below_sz ((((Below.refl _ w6).alloc (Nat.le_refl _) (.cells #[.string ⟨#[98, 101, 104, 105, 110, 100]⟩, .bool false, .int .i64 0, .int .i64 0, .string ⟨#[]⟩] 62)).drew).alloc (by simp) (.cells #[] 62))
        intro A2 c2 w2 hown2 hg2 hat2
        have hbA : Hid (Below w6.heap.size w6 w2) := hid (below_gr ((((Below.refl _ w6).alloc (Nat.le_refl _) (.cells #[.string ⟨#[98, 101, 104, 105, 110, 100]⟩, .bool false, .int .i64 0, .int .i64 0, .string ⟨#[]⟩] 62)).drew).alloc (by simp) (.cells #[] 62)) hg2 (fun k hk => by simp [Value.ownBlock] at hk; omega))
        have hI : Hid (Rd (fun b => b = w6.heap.size) w2 5 (some ⟨w6.heap.size, 0, none⟩) 1 #[.string ⟨#[98, 101, 104, 105, 110, 100]⟩, .bool false, .int .i64 0, .int .i64 0, .string ⟨#[]⟩].toList) := hid (((Rd.new w6 62 5 1 #[.string ⟨#[98, 101, 104, 105, 110, 100]⟩, .bool false, .int .i64 0, .int .i64 0, .string ⟨#[]⟩] w6.heap.size rfl rfl).drew.alloc (.cells #[] 62)).grown_ hg2 (fun b hb => by simp [Value.ownBlock, hb]))
        clear hg2 hat2
        refine hK.out _ _ (fun _ => hkeep.out _ hbA.out) ?_
        clear hK K
        (try simp only [Act.put, List.setIfInBounds_toArray, List.set_cons_zero, List.set_cons_succ, List.getElem_toArray, List.getElem_cons_zero, List.getElem_cons_succ])
        refine wpAnyE_ready (rs := [6]) (by kernel_rfl) (by simp) ?_
        refine AllReadyE.cons rfl (fun K hK => ?_) AllReadyE.nil
        refine step_append_rd _ rfl (.tmp 17) (.tmp 19) 33 rfl w6.heap.size 62 ip _ 5 56 Tryd.underlying33 hip hp0 hp1 hp2 rfl (by omega) (.slice A2 a.ws.length c2) a.ws.length (wrCells a.ws) rfl ?_ (fun b => b = w6.heap.size) (some ⟨w6.heap.size, 0, none⟩) 1 1 #[.string ⟨#[98, 101, 104, 105, 110, 100]⟩, .bool false, .int .i64 0, .int .i64 0, .string ⟨#[]⟩].toList rfl ?_ ?_ ?_ ?_ ?_ (a.ws.length + 1) rfl ((wrCells a.ws) ++ #[.string ⟨#[98, 101, 104, 105, 110, 100]⟩, .bool false, .int .i64 0, .int .i64 0, .string ⟨#[]⟩].toList) rfl ?_
        · exact hown2
        · exact hI.out
        · intro v hv; simp at hv; rcases hv with rfl | rfl | rfl | rfl | rfl <;> rfl
        · have := hnb.out; simp only [maxLen]; omega
        · have := hnb.out; omega
        · exact below_sz hbA.out
        intro A3 c3 w3 hown3 hg3 hat3
        have hbB : Hid (Below w6.heap.size w6 w3) := hid (below_gr hbA.out hg3 (fun k hk => (hown2.lt k hk).1))
        obtain ⟨A9, c9, he9, hc9, hm9⟩ := own_form hown3
        injection he9 with e1 e2 e3
        subst e1; subst e3
        have j1 : ((a.ws.length : Nat) : Int) ≤ (c3 : Int) := by omega
        have j2 : a.ws.length ≤ c3 := by omega
        have j3 : (c3 : Int) ≤ 9223372036854775807 := by simp only [maxLen] at hm9; omega
        have r4 : w3.cell? ⟨m, 2, none⟩ = some (.slice a.A2 a.ws.length a.c2) := hkeep.out _ hbB.out
        have q4 := fq.out _ hbB.out
        have hO3 := hid hown3
        clear hg3 hat3 hown3 hown2
        refine hK.out _ _ (fun _ => hkeep.out _ hbB.out) ?_
        clear hK K
        (try simp only [Act.put, List.setIfInBounds_toArray, List.set_cons_zero, List.set_cons_succ, List.getElem_toArray, List.getElem_cons_zero, List.getElem_cons_succ])
        refine wpAnyE_take [11, 12] (i := 10) (v := ?v16) rfl (by kernel_rfl) (by kernel_rfl) (by kernel_rfl) (by rfl) (by kernel_rfl) (by kernel_rfl) (fun _ _ _ h => h) (Or.inl ⟨by rfl, ?hy16⟩) (hkeep.out _ hbB.out) ?rest16
        case hy16 => intro w hSw; (try dsimp only at hSw); go_simp; try with_reducible rfl
        (try simp only [Act.put, List.setIfInBounds_toArray, List.set_cons_zero, List.set_cons_succ, List.getElem_toArray, List.getElem_cons_zero, List.getElem_cons_succ])
        refine wpAnyE_take [12] (i := 11) (v := ?v17) rfl (by kernel_rfl) (by kernel_rfl) (by kernel_rfl) (by rfl) (by kernel_rfl) (by kernel_rfl) (fun _ _ _ h => h) (Or.inl ⟨by rfl, ?hy17⟩) (hkeep.out _ hbB.out) ?rest17
        case hy17 => intro w hSw; (try dsimp only at hSw); go_simp; try with_reducible rfl
        (try simp only [Act.put, List.setIfInBounds_toArray, List.set_cons_zero, List.set_cons_succ, List.getElem_toArray, List.getElem_cons_zero, List.getElem_cons_succ])
        refine wpAnyE_ready (rs := [12]) (by kernel_rfl) (by simp) ?_
        refine AllReadyE.cons rfl (fun K hK => ?_) AllReadyE.nil
        go_simp
        refine hK.out _ _ (fun h => absurd rfl h) ?_
        clear hK K
        (try simp only [Act.put, List.setIfInBounds_toArray, List.set_cons_zero, List.set_cons_succ, List.getElem_toArray, List.getElem_cons_zero, List.getElem_cons_succ])
        refine wpAnyE_done (by kernel_rfl) ?_ _
        go_wp2_with fail
        go_meet
        exact ⟨A3, c3, w3, hO3.out, hbB.out, rfl⟩
    case rest =>
      obtain ⟨B3, e3, w8, hO3, hb3, rfl⟩ := hcut
      have hu1 : Upd (fun j => j = m) w6 (w8.setCell ⟨m, 2, none⟩ (.slice B3 a.ws.length e3)) := (Upd.of_below (M := fun j => j = m) hb3 fun k hk h => by omega).setCell (p := ⟨m, 2, none⟩) (fun _ => rfl) _
      have h65 := hs65.out
      have K1b := hid ((K1a.out.below_all hb3).set_ 2 (.slice B3 a.ws.length e3))
      have K2b : Hid (Blk (w8.setCell ⟨m, 2, none⟩ (.slice B3 a.ws.length e3)) (m + 1) 35 #[.int .i64 0, .slice none 0 0, .slice none 0 0]) := hid (K2a.out.upd hu1 (by omega))
      have hR2 : Hid (Rd (fun b => w6.heap.size ≤ b) (w8.setCell ⟨m, 2, none⟩ (.slice B3 a.ws.length e3)) 5 B3 a.ws.length (wrCells a.ws)) := hid ((Rd.pre_own hO3 (wrCells_len _)).setCell (by simp only; omega) _)
      have hR1b : Hid (Rd (fun b => w5.heap.size ≤ b) (w8.setCell ⟨m, 2, none⟩ (.slice B3 a.ws.length e3)) 1 A3 a.ks.length (strs a.ks)) := hid (hR1.out.upd hu1 (fun b hb e => by omega))
      have hBb : Hid (Below m w (w8.setCell ⟨m, 2, none⟩ (.slice B3 a.ws.length e3))) := hid ((hBa.out.trans (hb3.mono (by have := hBa.out.size; omega))).setCell (p := ⟨m, 2, none⟩) (Nat.le_refl _) _)
      have hm1 := hid (show m + 1 < w5.heap.size ∧ m < w5.heap.size from ⟨hm2.out, hml⟩)
      generalize w8.setCell ⟨m, 2, none⟩ (.slice B3 a.ws.length e3) = w9 at *
      clear hO3 hb3 hu1 K1a K2a hw5a hR1 hBa
      have y0 : w9.cell? ⟨m, 0, none⟩ = some (.int .i64 a.kind) := K1b.out.cell 0
      have y1 : w9.cell? ⟨m, 1, none⟩ = some (.slice A3 a.ks.length c3) := K1b.out.cell 1
      have y2 : w9.cell? ⟨m, 2, none⟩ = some (.slice B3 a.ws.length e3) := K1b.out.cell 2
      have z0 : w9.cell? ⟨m + 1, 0, none⟩ = some (.int .i64 0) := K2b.out.cell 0
      have z1 : w9.cell? ⟨m + 1, 1, none⟩ = some (.slice none 0 0) := K2b.out.cell 1
      have z2 : w9.cell? ⟨m + 1, 2, none⟩ = some (.slice none 0 0) := K2b.out.cell 2
      have zf := K2b.out.frozen
      go_wp2_with fail
      have kfin := ((K2b.out.set_ 0 (.int .i64 a.kind)).set_ 1 (.slice A3 a.ks.length c3)).set_ 2 (.slice B3 a.ws.length e3)
      have hfin1 : Rd (fun b => w.heap.size ≤ b) (((w9.setCell ⟨m + 1, 0, none⟩ (.int .i64 a.kind)).setCell ⟨m + 1, 1, none⟩ (.slice A3 a.ks.length c3)).setCell ⟨m + 1, 2, none⟩ (.slice B3 a.ws.length e3)) 1 A3 a.ks.length (strs a.ks) := (((hR1b.out.setCell (p := ⟨m + 1, 0, none⟩) (by have := hm1.out; simp only; omega) _).setCell (p := ⟨m + 1, 1, none⟩) (by have := hm1.out; simp only; omega) _).setCell (p := ⟨m + 1, 2, none⟩) (by have := hm1.out; simp only; omega) _).more fun b hb _ => by have := hm1.out; omega
      have hfin2 : Rd (fun b => w.heap.size ≤ b) (((w9.setCell ⟨m + 1, 0, none⟩ (.int .i64 a.kind)).setCell ⟨m + 1, 1, none⟩ (.slice A3 a.ks.length c3)).setCell ⟨m + 1, 2, none⟩ (.slice B3 a.ws.length e3)) 5 B3 a.ws.length (wrCells a.ws) := (((hR2.out.setCell (p := ⟨m + 1, 0, none⟩) (by have := hm1.out; have := hs65.out; simp only; omega) _).setCell (p := ⟨m + 1, 1, none⟩) (by have := hm1.out; have := hs65.out; simp only; omega) _).setCell (p := ⟨m + 1, 2, none⟩) (by have := hm1.out; have := hs65.out; simp only; omega) _).more fun b hb _ => by have := hm1.out; have := hs65.out; omega
      refine bodyPost_ret (v := .agg #[.int .i64 a.kind, .slice A3 a.ks.length c3, .slice B3 a.ws.length e3]) ?_ rfl ?_
      · exact results_cell_row (P := Tryd.prog) rfl _ _ (m + 1) 35 _ (0, 0) _ rfl kfin Tryd.underlying35 rfl (by kernel_rfl)
      · exact ⟨A3, c3, B3, e3, rfl, hfin1, hfin2, by rw [hm]; exact ((hBb.out.setCell (p := ⟨m + 1, 0, none⟩) (by simp) _).setCell (p := ⟨m + 1, 1, none⟩) (by simp) _).setCell (p := ⟨m + 1, 2, none⟩) (by simp) _⟩
end
end Go.Proofs.YtnbbdjbjbjlcpaaDoor
