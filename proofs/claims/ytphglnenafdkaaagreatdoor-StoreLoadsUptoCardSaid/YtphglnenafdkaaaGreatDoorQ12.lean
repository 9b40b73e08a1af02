/- Texts of the proof, joined: SOwn, Dr, SRLn, SStory, SRLd. -/
import Derived.Test.YtphglnenafdkaaaGreatDoorQ10
import Derived.Test.YtphglnenafdkaaaGreatDoorQ11
import Derived.Test.YtphglnenafdkaaaGreatDoorQ01
import Derived.Deep.RegionHeld3
import Derived.Test.YtphglnenafdkaaaGreatDoorQ06
namespace Go.Proofs.YtphglnenafdkaaaGreatDoor
open Go.RowKit
set_option linter.unusedVariables false
set_option linter.unusedSimpArgs false

theorem info_str4 : (Tryz.prog.info? 9).map (fun i => (i.zero, i.size, i.bytes)) = some (some (.string ⟨#[]⟩), 1, 16) := by kernel_rfl
theorem info_write : (Tryz.prog.info? 40).map (fun i => (i.zero, i.size, i.bytes)) = some (some (.agg #[.string ⟨#[]⟩, .bool false, .int .i64 0, .int .i64 0, .string ⟨#[]⟩]), 5, 56) := by kernel_rfl
theorem strs_one (ks : List ByteArray) : ∀ v ∈ strs ks, v.oneCell' = true := by
  intro v hv
  obtain ⟨x, _, rfl⟩ := List.mem_map.1 hv
  rfl
theorem wrCells_one (ws : List Wr) : ∀ v ∈ wrCells ws, v.oneCell' = true := by
  intro v hv
  obtain ⟨x, _, hx⟩ := List.mem_flatMap.1 hv
  simp only [List.mem_cons, List.not_mem_nil, or_false] at hx
  rcases hx with rfl | rfl | rfl | rfl | rfl <;> rfl
theorem wrCells_len (ws : List Wr) : (wrCells ws).length = ws.length * 5 := by
  unfold wrCells
  induction ws with
  | nil => rfl
  | cons x l ih => rw [List.flatMap_cons, List.length_append, ih]; simp; omega
/-- a row's first n -/
theorem Rd.pre_own {w : World} {base : Nat} {e : TypeId} {size n c : Nat} {A : Option Addr} {xs ys : List Value} (h : w.ownsRow base e size (.slice A (n + 1) c) (n + 1) (xs ++ ys)) (hx : xs.length = n * size) : Rd (fun b => base ≤ b) w size A n xs := by
  have h1 := Rd.of_own' h
  refine ⟨hx, fun hn => ?_⟩
  obtain ⟨b, o, e1, hS, hl, hc⟩ := h1.2 (by omega)
  refine ⟨b, o, e1, hS, hl, fun j u hu => hc j u ?_⟩
  rw [List.getElem?_append_left (List.getElem?_eq_some_iff.1 hu).1]
  exact hu
/-- a row's block is its own -/
def RowT (w : World) (base : Nat) (e : TypeId) (A : Option Addr) : Prop := ∀ g o t, A = some ⟨g, o, t⟩ → base ≤ g ∧ o = 0 ∧ t = none ∧ ∃ cur, Blk w g e cur
section
variable {w w' : World} {base : Nat} {e : TypeId} {A : Option Addr}
theorem RowT.of_own {size n m c : Nat} {xs : List Value} (h : w.ownsRow base e size (.slice A n c) m xs) : RowT w base e A := by
  rcases h.2 with ⟨h1, _⟩ | ⟨g, cap, cur, h1, hb, hg, _⟩
  · injection h1 with h1
    subst h1
    intro g o t h; cases h
  · injection h1 with h1
    subst h1
    intro g o t h
    injection h with h
    injection h with h1 h2 h3
    subst h1 h2 h3
    exact ⟨hb, rfl, rfl, cur, hg⟩
theorem RowT.upd {M : Nat → Prop} (h : RowT w base e A) (hu : Upd M w w') (hM : ∀ g, base ≤ g → ¬ M g) : RowT w' base e A := fun g o t hA => by
  obtain ⟨h1, h2, h3, cur, h4⟩ := h g o t hA
  exact ⟨h1, h2, h3, cur, h4.upd hu (hM g h1)⟩
theorem RowT.set (h : RowT w base e A) {p : Addr} (hp : p.block < base) (u : Value) : RowT (w.setCell p u) base e A := h.upd ((Upd.refl (fun j => j = p.block) w).setCell (p := p) (fun _ => rfl) u) fun g hg e => by omega
theorem RowT.below_all (h : RowT w base e A) (hb : Below w.heap.size w w') : RowT w' base e A := fun g o t hA => by
  obtain ⟨h1, h2, h3, cur, h4⟩ := h g o t hA
  exact ⟨h1, h2, h3, cur, h4.below_all hb⟩
theorem RowT.mono (h : RowT w base e A) {b : Nat} (hb : b ≤ base) : RowT w b e A := fun g o t hA => by
  obtain ⟨h1, h2⟩ := h g o t hA
  exact ⟨Nat.le_trans hb h1, h2⟩
end
section
variable {w w' : World}
set_option maxRecDepth 100000 in
set_option maxHeartbeats 4000000 in
theorem own_anyW {Sx : Nat → Prop} (a : SA) (h : a.ok Sx w) (h1 : a.ks.length ≤ 100000) (h2 : a.ws.length ≤ 100000) : Calls Tryz.prog 16 #[.agg #[.int .i64 a.kind, .slice a.A1 a.ks.length a.c1, .slice a.A2 a.ws.length a.c2]] w fun e w' => ∃ B1 d1 B2 d2, e = .returned (.agg #[.int .i64 a.kind, .slice B1 a.ks.length d1, .slice B2 a.ws.length d2]) ∧ Rd (fun b => w.heap.size ≤ b) w' 1 B1 a.ks.length (strs a.ks) ∧ Rd (fun b => w.heap.size ≤ b) w' 5 B2 a.ws.length (wrCells a.ws) ∧ RowT w' w.heap.size 9 B1 ∧ RowT w' w.heap.size 40 B2 ∧ Below w.heap.size w w' := by
  have hb0 : Below w.heap.size w ((w.alloc (.cells #[.int .i64 a.kind, .slice a.A1 a.ks.length a.c1, .slice a.A2 a.ws.length a.c2] 51)).alloc (.cells #[.int .i64 0, .slice none 0 0, .slice none 0 0] 51)) := below_two _ _
  have k1 : Blk ((w.alloc (.cells #[.int .i64 a.kind, .slice a.A1 a.ks.length a.c1, .slice a.A2 a.ws.length a.c2] 51)).alloc (.cells #[.int .i64 0, .slice none 0 0, .slice none 0 0] 51)) w.heap.size 51 #[.int .i64 a.kind, .slice a.A1 a.ks.length a.c1, .slice a.A2 a.ws.length a.c2] := (Blk.new w _ _).alloc _
  have k2 : Blk ((w.alloc (.cells #[.int .i64 a.kind, .slice a.A1 a.ks.length a.c1, .slice a.A2 a.ws.length a.c2] 51)).alloc (.cells #[.int .i64 0, .slice none 0 0, .slice none 0 0] 51)) (w.heap.size + 1) 51 #[.int .i64 0, .slice none 0 0, .slice none 0 0] := Blk.new' _ _ _ (by simp)
  have hB := hid hb0
  have K1 := hid k1
  have K2 := hid k2
  have hk5 := hid (h.1.all.below_all hb0)
  have hw5 := hid (h.2.all.below_all hb0)
  have hn1 := hid h1
  have hn2 := hid h2
  clear hb0 k1 k2 h h1 h2
  go_enter Tryz.func16, Tryz.ntmps16
  go_upto_region 1 with fail
  generalize (w.alloc (.cells #[.int .i64 a.kind, .slice a.A1 a.ks.length a.c1, .slice a.A2 a.ws.length a.c2] 51)).alloc (.cells #[.int .i64 0, .slice none 0 0, .slice none 0 0] 51) = w5 at *
  generalize hm : w.heap.size = m at *
  go_cut [] (fun wx => ∃ (A3 : Option Addr) (c3 : Nat) (w3 : World), w3.ownsRow w5.heap.size 9 1 (.slice A3 (a.ks.length + 1) c3) (a.ks.length + 1) (strs a.ks ++ #[.string ⟨#[98, 101, 104, 105, 110, 100]⟩].toList) ∧ Below w5.heap.size w5 w3 ∧ wx = w3.setCell ⟨m, 1, none⟩ (.slice A3 a.ks.length c3))
  case first =>
    have hrd := hk5
    have hnb := hn1
    have hone := hid (strs_one a.ks)
    obtain ⟨ip, hip, hp0, hp1, hp2⟩ := info_parts info_str4
    have hkeep : Hid (∀ w', Below w5.heap.size w5 w' → w'.cell? ⟨m, 1, none⟩ = some (.slice a.A1 a.ks.length a.c1)) := hid fun w' h => (K1.out.below_all h).cell 1
    have fq : Hid (∀ w', Below w5.heap.size w5 w' → w'.frozen? ⟨m, 1, none⟩ = false) := hid fun w' h => (K1.out.below_all h).frozen 1
    have hHeld := hkeep.out w5.drew (Below.refl _ _).drew
    refine wp_region_heldE (S := fun w' => w'.cell? ⟨m, 1, none⟩ = some (.slice a.A1 a.ks.length a.c1)) 11 (by kernel_rfl) ?_
    refine wpAnyE_take [2, 3, 5, 9, 10, 11] (i := 1) (v := ?v7) rfl (by kernel_rfl) (by kernel_rfl) (by kernel_rfl) (by rfl) (by kernel_rfl) (by kernel_rfl) (fun _ _ _ h => h) (Or.inl ⟨by rfl, ?hy7⟩) (hHeld) ?rest7
    case hy7 => intro w hSw; (try dsimp only at hSw); go_simp; try with_reducible rfl
    (try simp only [Act.put, List.setIfInBounds_toArray, List.set_cons_zero, List.set_cons_succ, List.getElem_toArray, List.getElem_cons_zero, List.getElem_cons_succ])
    refine wpAnyE_take [3, 5, 9, 10, 11] (i := 2) (v := ?v8) rfl (by kernel_rfl) (by kernel_rfl) (by kernel_rfl) (by rfl) (by kernel_rfl) (by kernel_rfl) (fun _ _ _ h => h) (Or.inl ⟨by rfl, ?hy8⟩) (hHeld) ?rest8
    case hy8 => intro w hSw; (try dsimp only at hSw); go_simp; try with_reducible rfl
    (try simp only [Act.put, List.setIfInBounds_toArray, List.set_cons_zero, List.set_cons_succ, List.getElem_toArray, List.getElem_cons_zero, List.getElem_cons_succ])
    refine wpAnyE_take [7, 8, 9, 10, 11] (i := 6) (v := ?v9) rfl (by kernel_rfl) (by kernel_rfl) (by kernel_rfl) (by rfl) (by kernel_rfl) (by kernel_rfl) (fun _ _ _ h => h) (Or.inl ⟨by rfl, ?hy9⟩) (hHeld) ?rest9
    case hy9 => intro w hSw; (try dsimp only at hSw); go_simp; try with_reducible rfl
    (try simp only [Act.put, List.setIfInBounds_toArray, List.set_cons_zero, List.set_cons_succ, List.getElem_toArray, List.getElem_cons_zero, List.getElem_cons_succ])
    refine wpAnyE_take [8, 9, 10, 11] (i := 7) (v := ?v10) rfl (by kernel_rfl) (by kernel_rfl) (by kernel_rfl) (by rfl) (by kernel_rfl) (by kernel_rfl) (fun _ _ _ h => h) (Or.inl ⟨by rfl, ?hy10⟩) (hHeld) ?rest10
    case hy10 => intro w hSw; (try dsimp only at hSw); go_simp; try with_reducible rfl
    (try simp only [Act.put, List.setIfInBounds_toArray, List.set_cons_zero, List.set_cons_succ, List.getElem_toArray, List.getElem_cons_zero, List.getElem_cons_succ])
    refine wpAnyE_take [9, 10, 11] (i := 8) (v := ?v11) rfl (by kernel_rfl) (by kernel_rfl) (by kernel_rfl) (by rfl) (by kernel_rfl) (by kernel_rfl) (fun _ _ _ h => h) (Or.inl ⟨by rfl, ?hy11⟩) (hHeld) ?rest11
    case hy11 => intro w hSw; (try dsimp only at hSw); go_simp; try with_reducible rfl
    (try simp only [Act.put, List.setIfInBounds_toArray, List.set_cons_zero, List.set_cons_succ, List.getElem_toArray, List.getElem_cons_zero, List.getElem_cons_succ])
    refine wpAnyE_ready (rs := [0, 4]) (by kernel_rfl) (by simp) ?_
    refine AllReadyE.cons rfl (fun K hK => ?_) (AllReadyE.cons rfl (fun K hK => ?_) AllReadyE.nil)
    · go_simp
      refine hK.out _ _ (fun _ => hkeep.out _ (((Below.refl _ w5).alloc (Nat.le_refl _) _).drew)) ?_
      clear hK K
      (try simp only [Act.put, List.setIfInBounds_toArray, List.set_cons_zero, List.set_cons_succ, List.getElem_toArray, List.getElem_cons_zero, List.getElem_cons_succ])
      refine wpAnyE_ready (rs := [3, 4]) (by kernel_rfl) (by simp) ?_
      refine AllReadyE.cons rfl (fun K hK => ?_) (AllReadyE.cons rfl (fun K hK => ?_) AllReadyE.nil)
      · refine step_append_rd _ rfl (.tmp 3) (.tmp 5) 25 rfl w5.heap.size 9 ip _ 1 16 Tryz.underlying25 hip hp0 hp1 hp2 rfl (by omega) (.slice (some ⟨w5.heap.size, 0, none⟩) 0 0) 0 [] rfl ?_ (fun b => b < m) a.A1 a.ks.length a.c1 (strs a.ks) rfl ?_ ?_ ?_ ?_ ?_ a.ks.length (Nat.zero_add _) (strs a.ks) rfl ?_
        · exact (own_empty w5 _ 1).drew
        · exact hrd.out.below_all (((Below.refl _ w5).alloc (Nat.le_refl _) (.cells #[] 9)).drew)
        · exact hone.out
        · have := hnb.out; simp only [maxLen]; omega
        · have := hnb.out; omega
        · exact below_sz (((Below.refl _ w5).alloc (Nat.le_refl _) (.cells #[] 9)).drew)
        intro A2 c2 w2 hown2 hg2 hat2
        have hbA : Hid (Below w5.heap.size w5 w2) := hid (below_gr (((Below.refl _ w5).alloc (Nat.le_refl _) (.cells #[] 9)).drew) hg2 (fun k hk => by simp [Value.ownBlock] at hk; omega))
        clear hg2 hat2
        refine hK.out _ _ (fun _ => hkeep.out _ hbA.out) ?_
        clear hK K
        (try simp only [Act.put, List.setIfInBounds_toArray, List.set_cons_zero, List.set_cons_succ, List.getElem_toArray, List.getElem_cons_zero, List.getElem_cons_succ])
        refine wpAnyE_ready (rs := [4]) (by kernel_rfl) (by simp) ?_
        refine AllReadyE.cons rfl (fun K hK => ?_) AllReadyE.nil
        go_simp
        refine hK.out _ _ (fun _ => hkeep.out _ (below_al hbA.out _)) ?_
        clear hK K
        (try simp only [Act.put, List.setIfInBounds_toArray, List.set_cons_zero, List.set_cons_succ, List.getElem_toArray, List.getElem_cons_zero, List.getElem_cons_succ])
        refine wpAnyE_ready (rs := [5]) (by kernel_rfl) (by simp) ?_
        refine AllReadyE.cons rfl (fun K hK => ?_) AllReadyE.nil
        refine step_append_rd _ rfl (.tmp 6) (.tmp 7) 25 rfl w5.heap.size 9 ip _ 1 16 Tryz.underlying25 hip hp0 hp1 hp2 rfl (by omega) (.slice A2 a.ks.length c2) a.ks.length (strs a.ks) rfl ?_ (fun b => b = w2.heap.size) (some ⟨w2.heap.size, 0, none⟩) 1 1 #[.string ⟨#[98, 101, 104, 105, 110, 100]⟩].toList rfl ?_ ?_ ?_ ?_ ?_ (a.ks.length + 1) rfl ((strs a.ks) ++ #[.string ⟨#[98, 101, 104, 105, 110, 100]⟩].toList) rfl ?_
        · exact hown2.alloc _
        · exact Rd.new w2 9 1 1 #[.string ⟨#[98, 101, 104, 105, 110, 100]⟩] w2.heap.size rfl rfl
        · intro v hv; simp at hv; rcases hv with rfl <;> rfl
        · have := hnb.out; simp only [maxLen]; omega
        · have := hnb.out; omega
        · exact below_sz (below_al hbA.out _)
        intro A3 c3 w3 hown3 hg3 hat3
        have hbB : Hid (Below w5.heap.size w5 w3) := hid (below_gr (below_al hbA.out _) hg3 (fun k hk => (hown2.lt k hk).1))
        obtain ⟨A9, c9, he9, hc9, hm9⟩ := own_form hown3
        injection he9 with e1 e2 e3
        subst e1; subst e3
        have j1 : ((a.ks.length : Nat) : Int) ≤ (c3 : Int) := by omega
        have j2 : a.ks.length ≤ c3 := by omega
        have j3 : (c3 : Int) ≤ 9223372036854775807 := by simp only [maxLen] at hm9; omega
        have r4 : w3.cell? ⟨m, 1, none⟩ = some (.slice a.A1 a.ks.length a.c1) := hkeep.out _ hbB.out
        have q4 := fq.out _ hbB.out
        have hO3 := hid hown3
        clear hg3 hat3 hown3 hown2
        refine hK.out _ _ (fun _ => hkeep.out _ hbB.out) ?_
        clear hK K
        (try simp only [Act.put, List.setIfInBounds_toArray, List.set_cons_zero, List.set_cons_succ, List.getElem_toArray, List.getElem_cons_zero, List.getElem_cons_succ])
        refine wpAnyE_take [10, 11] (i := 9) (v := ?v1) rfl (by kernel_rfl) (by kernel_rfl) (by kernel_rfl) (by rfl) (by kernel_rfl) (by kernel_rfl) (fun _ _ _ h => h) (Or.inl ⟨by rfl, ?hy1⟩) (hkeep.out _ hbB.out) ?rest1
        case hy1 => intro w hSw; (try dsimp only at hSw); go_simp; try with_reducible rfl
        (try simp only [Act.put, List.setIfInBounds_toArray, List.set_cons_zero, List.set_cons_succ, List.getElem_toArray, List.getElem_cons_zero, List.getElem_cons_succ])
        refine wpAnyE_take [11] (i := 10) (v := ?v2) rfl (by kernel_rfl) (by kernel_rfl) (by kernel_rfl) (by rfl) (by kernel_rfl) (by kernel_rfl) (fun _ _ _ h => h) (Or.inl ⟨by rfl, ?hy2⟩) (hkeep.out _ hbB.out) ?rest2
        case hy2 => intro w hSw; (try dsimp only at hSw); go_simp; try with_reducible rfl
        (try simp only [Act.put, List.setIfInBounds_toArray, List.set_cons_zero, List.set_cons_succ, List.getElem_toArray, List.getElem_cons_zero, List.getElem_cons_succ])
        refine wpAnyE_ready (rs := [11]) (by kernel_rfl) (by simp) ?_
        refine AllReadyE.cons rfl (fun K hK => ?_) AllReadyE.nil
        go_simp
        refine hK.out _ _ (fun h => absurd rfl h) ?_
        clear hK K
        (try simp only [Act.put, List.setIfInBounds_toArray, List.set_cons_zero, List.set_cons_succ, List.getElem_toArray, List.getElem_cons_zero, List.getElem_cons_succ])
        refine wpAnyE_done (by kernel_rfl) ?_ _
        go_wp2_with fail
        go_meet
        exact ⟨A3, c3, w3, hO3.out, hbB.out, rfl⟩
      · go_simp
        refine hK.out _ _ (fun _ => hkeep.out _ ((((Below.refl _ w5).alloc (Nat.le_refl _) _).drew).alloc (by simp) _)) ?_
        clear hK K
        (try simp only [Act.put, List.setIfInBounds_toArray, List.set_cons_zero, List.set_cons_succ, List.getElem_toArray, List.getElem_cons_zero, List.getElem_cons_succ])
        refine wpAnyE_ready (rs := [3]) (by kernel_rfl) (by simp) ?_
        refine AllReadyE.cons rfl (fun K hK => ?_) AllReadyE.nil
        refine step_append_rd _ rfl (.tmp 3) (.tmp 5) 25 rfl w5.heap.size 9 ip _ 1 16 Tryz.underlying25 hip hp0 hp1 hp2 rfl (by omega) (.slice (some ⟨w5.heap.size, 0, none⟩) 0 0) 0 [] rfl ?_ (fun b => b < m) a.A1 a.ks.length a.c1 (strs a.ks) rfl ?_ ?_ ?_ ?_ ?_ a.ks.length (Nat.zero_add _) (strs a.ks) rfl ?_
        · exact (own_empty w5 _ 1).drew.alloc _
        · exact hrd.out.below_all ((((Below.refl _ w5).alloc (Nat.le_refl _) (.cells #[] 9)).drew).alloc (by simp) (.cells #[.string ⟨#[98, 101, 104, 105, 110, 100]⟩] 9))
        · exact hone.out
        · have := hnb.out; simp only [maxLen]; omega
        · have := hnb.out; omega
        · exact below_sz ((((Below.refl _ w5).alloc (Nat.le_refl _) (.cells #[] 9)).drew).alloc (by simp) (.cells #[.string ⟨#[98, 101, 104, 105, 110, 100]⟩] 9))
        intro A2 c2 w2 hown2 hg2 hat2
        have hbA : Hid (Below w5.heap.size w5 w2) := hid (below_gr ((((Below.refl _ w5).alloc (Nat.le_refl _) (.cells #[] 9)).drew).alloc (by simp) (.cells #[.string ⟨#[98, 101, 104, 105, 110, 100]⟩] 9)) hg2 (fun k hk => by simp [Value.ownBlock] at hk; omega))
        have hI : Hid (Rd (fun b => b = w5.heap.size + 1) w2 1 (some ⟨w5.heap.size + 1, 0, none⟩) 1 #[.string ⟨#[98, 101, 104, 105, 110, 100]⟩].toList) := hid ((Rd.new (w5.alloc (.cells #[] 9)).drew 9 1 1 #[.string ⟨#[98, 101, 104, 105, 110, 100]⟩] (w5.heap.size + 1) (by simp) rfl).grown_ hg2 (fun b hb => by simp [Value.ownBlock, hb]))
        clear hg2 hat2
        refine hK.out _ _ (fun _ => hkeep.out _ hbA.out) ?_
        clear hK K
        (try simp only [Act.put, List.setIfInBounds_toArray, List.set_cons_zero, List.set_cons_succ, List.getElem_toArray, List.getElem_cons_zero, List.getElem_cons_succ])
        refine wpAnyE_ready (rs := [5]) (by kernel_rfl) (by simp) ?_
        refine AllReadyE.cons rfl (fun K hK => ?_) AllReadyE.nil
        refine step_append_rd _ rfl (.tmp 6) (.tmp 7) 25 rfl w5.heap.size 9 ip _ 1 16 Tryz.underlying25 hip hp0 hp1 hp2 rfl (by omega) (.slice A2 a.ks.length c2) a.ks.length (strs a.ks) rfl ?_ (fun b => b = w5.heap.size + 1) (some ⟨w5.heap.size + 1, 0, none⟩) 1 1 #[.string ⟨#[98, 101, 104, 105, 110, 100]⟩].toList rfl ?_ ?_ ?_ ?_ ?_ (a.ks.length + 1) rfl ((strs a.ks) ++ #[.string ⟨#[98, 101, 104, 105, 110, 100]⟩].toList) rfl ?_
        · exact hown2
        · exact hI.out
        · intro v hv; simp at hv; rcases hv with rfl <;> rfl
        · have := hnb.out; simp only [maxLen]; omega
        · have := hnb.out; omega
        · exact below_sz hbA.out
        intro A3 c3 w3 hown3 hg3 hat3
        have hbB : Hid (Below w5.heap.size w5 w3) := hid (below_gr hbA.out hg3 (fun k hk => (hown2.lt k hk).1))
        obtain ⟨A9, c9, he9, hc9, hm9⟩ := own_form hown3
        injection he9 with e1 e2 e3
        subst e1; subst e3
        have j1 : ((a.ks.length : Nat) : Int) ≤ (c3 : Int) := by omega
        have j2 : a.ks.length ≤ c3 := by omega
        have j3 : (c3 : Int) ≤ 9223372036854775807 := by simp only [maxLen] at hm9; omega
        have r4 : w3.cell? ⟨m, 1, none⟩ = some (.slice a.A1 a.ks.length a.c1) := hkeep.out _ hbB.out
        have q4 := fq.out _ hbB.out
        have hO3 := hid hown3
        clear hg3 hat3 hown3 hown2
        refine hK.out _ _ (fun _ => hkeep.out _ hbB.out) ?_
        clear hK K
        (try simp only [Act.put, List.setIfInBounds_toArray, List.set_cons_zero, List.set_cons_succ, List.getElem_toArray, List.getElem_cons_zero, List.getElem_cons_succ])
        refine wpAnyE_take [10, 11] (i := 9) (v := ?v3) rfl (by kernel_rfl) (by kernel_rfl) (by kernel_rfl) (by rfl) (by kernel_rfl) (by kernel_rfl) (fun _ _ _ h => h) (Or.inl ⟨by rfl, ?hy3⟩) (hkeep.out _ hbB.out) ?rest3
        case hy3 => intro w hSw; (try dsimp only at hSw); go_simp; try with_reducible rfl
        (try simp only [Act.put, List.setIfInBounds_toArray, List.set_cons_zero, List.set_cons_succ, List.getElem_toArray, List.getElem_cons_zero, List.getElem_cons_succ])
        refine wpAnyE_take [11] (i := 10) (v := ?v4) rfl (by kernel_rfl) (by kernel_rfl) (by kernel_rfl) (by rfl) (by kernel_rfl) (by kernel_rfl) (fun _ _ _ h => h) (Or.inl ⟨by rfl, ?hy4⟩) (hkeep.out _ hbB.out) ?rest4
        case hy4 => intro w hSw; (try dsimp only at hSw); go_simp; try with_reducible rfl
        (try simp only [Act.put, List.setIfInBounds_toArray, List.set_cons_zero, List.set_cons_succ, List.getElem_toArray, List.getElem_cons_zero, List.getElem_cons_succ])
        refine wpAnyE_ready (rs := [11]) (by kernel_rfl) (by simp) ?_
        refine AllReadyE.cons rfl (fun K hK => ?_) AllReadyE.nil
        go_simp
        refine hK.out _ _ (fun h => absurd rfl h) ?_
        clear hK K
        (try simp only [Act.put, List.setIfInBounds_toArray, List.set_cons_zero, List.set_cons_succ, List.getElem_toArray, List.getElem_cons_zero, List.getElem_cons_succ])
        refine wpAnyE_done (by kernel_rfl) ?_ _
        go_wp2_with fail
        go_meet
        exact ⟨A3, c3, w3, hO3.out, hbB.out, rfl⟩
    · go_simp
      refine hK.out _ _ (fun _ => hkeep.out _ (((Below.refl _ w5).alloc (Nat.le_refl _) _).drew)) ?_
      clear hK K
      (try simp only [Act.put, List.setIfInBounds_toArray, List.set_cons_zero, List.set_cons_succ, List.getElem_toArray, List.getElem_cons_zero, List.getElem_cons_succ])
      refine wpAnyE_ready (rs := [0]) (by kernel_rfl) (by simp) ?_
      refine AllReadyE.cons rfl (fun K hK => ?_) AllReadyE.nil
      go_simp
      refine hK.out _ _ (fun _ => hkeep.out _ ((((Below.refl _ w5).alloc (Nat.le_refl _) _).drew).alloc (by simp) _)) ?_
      clear hK K
      (try simp only [Act.put, List.setIfInBounds_toArray, List.set_cons_zero, List.set_cons_succ, List.getElem_toArray, List.getElem_cons_zero, List.getElem_cons_succ])
      refine wpAnyE_ready (rs := [3]) (by kernel_rfl) (by simp) ?_
      refine AllReadyE.cons rfl (fun K hK => ?_) AllReadyE.nil
      refine step_append_rd _ rfl (.tmp 3) (.tmp 5) 25 rfl w5.heap.size 9 ip _ 1 16 Tryz.underlying25 hip hp0 hp1 hp2 rfl (by omega) (.slice (some ⟨w5.heap.size + 1, 0, none⟩) 0 0) 0 [] rfl ?_ (fun b => b < m) a.A1 a.ks.length a.c1 (strs a.ks) rfl ?_ ?_ ?_ ?_ ?_ a.ks.length (Nat.zero_add _) (strs a.ks) rfl ?_
      · exact own_base (by simp) (own_empty' (w5.alloc (.cells #[.string ⟨#[98, 101, 104, 105, 110, 100]⟩] 9)).drew _ 1 (w5.heap.size + 1) (by simp))
      · exact hrd.out.below_all ((((Below.refl _ w5).alloc (Nat.le_refl _) (.cells #[.string ⟨#[98, 101, 104, 105, 110, 100]⟩] 9)).drew).alloc (by simp) (.cells #[] 9))
      · exact hone.out
      · have := hnb.out; simp only [maxLen]; omega
      · have := hnb.out; omega
      · exact below_sz ((((Below.refl _ w5).alloc (Nat.le_refl _) (.cells #[.string ⟨#[98, 101, 104, 105, 110, 100]⟩] 9)).drew).alloc (by simp) (.cells #[] 9))
      intro A2 c2 w2 hown2 hg2 hat2
      have hbA : Hid (Below w5.heap.size w5 w2) := hid (below_gr ((((Below.refl _ w5).alloc (Nat.le_refl _) (.cells #[.string ⟨#[98, 101, 104, 105, 110, 100]⟩] 9)).drew).alloc (by simp) (.cells #[] 9)) hg2 (fun k hk => by simp [Value.ownBlock] at hk; omega))
      have hI : Hid (Rd (fun b => b = w5.heap.size) w2 1 (some ⟨w5.heap.size, 0, none⟩) 1 #[.string ⟨#[98, 101, 104, 105, 110, 100]⟩].toList) := hid (((Rd.new w5 9 1 1 #[.string ⟨#[98, 101, 104, 105, 110, 100]⟩] w5.heap.size rfl rfl).drew.alloc (.cells #[] 9)).grown_ hg2 (fun b hb => by simp [Value.ownBlock, hb]))
      clear hg2 hat2
      refine hK.out _ _ (fun _ => hkeep.out _ hbA.out) ?_
      clear hK K
      (try simp only [Act.put, List.setIfInBounds_toArray, List.set_cons_zero, List.set_cons_succ, List.getElem_toArray, List.getElem_cons_zero, List.getElem_cons_succ])
      refine wpAnyE_ready (rs := [5]) (by kernel_rfl) (by simp) ?_
      refine AllReadyE.cons rfl (fun K hK => ?_) AllReadyE.nil
      refine step_append_rd _ rfl (.tmp 6) (.tmp 7) 25 rfl w5.heap.size 9 ip _ 1 16 Tryz.underlying25 hip hp0 hp1 hp2 rfl (by omega) (.slice A2 a.ks.length c2) a.ks.length (strs a.ks) rfl ?_ (fun b => b = w5.heap.size) (some ⟨w5.heap.size, 0, none⟩) 1 1 #[.string ⟨#[98, 101, 104, 105, 110, 100]⟩].toList rfl ?_ ?_ ?_ ?_ ?_ (a.ks.length + 1) rfl ((strs a.ks) ++ #[.string ⟨#[98, 101, 104, 105, 110, 100]⟩].toList) rfl ?_
      · exact hown2
      · exact hI.out
      · intro v hv; simp at hv; rcases hv with rfl <;> rfl
      · have := hnb.out; simp only [maxLen]; omega
      · have := hnb.out; omega
      · exact below_sz hbA.out
      intro A3 c3 w3 hown3 hg3 hat3
      have hbB : Hid (Below w5.heap.size w5 w3) := hid (below_gr hbA.out hg3 (fun k hk => (hown2.lt k hk).1))
      obtain ⟨A9, c9, he9, hc9, hm9⟩ := own_form hown3
      injection he9 with e1 e2 e3
      subst e1; subst e3
      have j1 : ((a.ks.length : Nat) : Int) ≤ (c3 : Int) := by omega
      have j2 : a.ks.length ≤ c3 := by omega
      have j3 : (c3 : Int) ≤ 9223372036854775807 := by simp only [maxLen] at hm9; omega
      have r4 : w3.cell? ⟨m, 1, none⟩ = some (.slice a.A1 a.ks.length a.c1) := hkeep.out _ hbB.out
      have q4 := fq.out _ hbB.out
      have hO3 := hid hown3
      clear hg3 hat3 hown3 hown2
      refine hK.out _ _ (fun _ => hkeep.out _ hbB.out) ?_
      clear hK K
      (try simp only [Act.put, List.setIfInBounds_toArray, List.set_cons_zero, List.set_cons_succ, List.getElem_toArray, List.getElem_cons_zero, List.getElem_cons_succ])
      refine wpAnyE_take [10, 11] (i := 9) (v := ?v5) rfl (by kernel_rfl) (by kernel_rfl) (by kernel_rfl) (by rfl) (by kernel_rfl) (by kernel_rfl) (fun _ _ _ h => h) (Or.inl ⟨by rfl, ?hy5⟩) (hkeep.out _ hbB.out) ?rest5
      case hy5 => intro w hSw; (try dsimp only at hSw); go_simp; try with_reducible rfl
      (try simp only [Act.put, List.setIfInBounds_toArray, List.set_cons_zero, List.set_cons_succ, List.getElem_toArray, List.getElem_cons_zero, List.getElem_cons_succ])
      refine wpAnyE_take [11] (i := 10) (v := ?v6) rfl (by kernel_rfl) (by kernel_rfl) (by kernel_rfl) (by rfl) (by kernel_rfl) (by kernel_rfl) (fun _ _ _ h => h) (Or.inl ⟨by rfl, ?hy6⟩) (hkeep.out _ hbB.out) ?rest6
      case hy6 => intro w hSw; (try dsimp only at hSw); go_simp; try with_reducible rfl
      (try simp only [Act.put, List.setIfInBounds_toArray, List.set_cons_zero, List.set_cons_succ, List.getElem_toArray, List.getElem_cons_zero, List.getElem_cons_succ])
      refine wpAnyE_ready (rs := [11]) (by kernel_rfl) (by simp) ?_
      refine AllReadyE.cons rfl (fun K hK => ?_) AllReadyE.nil
      go_simp
      refine hK.out _ _ (fun h => absurd rfl h) ?_
      clear hK K
      (try simp only [Act.put, List.setIfInBounds_toArray, List.set_cons_zero, List.set_cons_succ, List.getElem_toArray, List.getElem_cons_zero, List.getElem_cons_succ])
      refine wpAnyE_done (by kernel_rfl) ?_ _
      go_wp2_with fail
      go_meet
      exact ⟨A3, c3, w3, hO3.out, hbB.out, rfl⟩
  case rest =>
    obtain ⟨A3, c3, w3, hO3, hb3, rfl⟩ := hcut
    have hu1 : Upd (fun j => j = m) w5 (w3.setCell ⟨m, 1, none⟩ (.slice A3 a.ks.length c3)) := (Upd.of_below (M := fun j => j = m) hb3 fun k hk h => by omega).setCell (p := ⟨m, 1, none⟩) (fun _ => rfl) _
    have hml : m < w5.heap.size := K1.out.lt
    have hbs := hB.out.size
    have hm2 := hid K2.out.lt
    have K1a := hid ((K1.out.below_all hb3).set_ 1 (.slice A3 a.ks.length c3))
    have K2a : Hid (Blk (w3.setCell ⟨m, 1, none⟩ (.slice A3 a.ks.length c3)) (m + 1) 51 #[.int .i64 0, .slice none 0 0, .slice none 0 0]) := hid (K2.out.upd hu1 (by omega))
    have hw5a : Hid (Rd (fun b => b < m) (w3.setCell ⟨m, 1, none⟩ (.slice A3 a.ks.length c3)) 5 a.A2 a.ws.length (wrCells a.ws)) := hid ((hw5.out.below_all hb3).setCell (by simp only; omega) _)
    have hR1 : Hid (Rd (fun b => w5.heap.size ≤ b) (w3.setCell ⟨m, 1, none⟩ (.slice A3 a.ks.length c3)) 1 A3 a.ks.length (strs a.ks)) := hid ((Rd.pre_own hO3 (by simp [strs])).setCell (by simp only; omega) _)
    have hT1 : Hid (RowT (w3.setCell ⟨m, 1, none⟩ (.slice A3 a.ks.length c3)) w5.heap.size 9 A3) := hid ((RowT.of_own hO3).set (p := ⟨m, 1, none⟩) hml _)
    have hBa : Hid (Below m w (w3.setCell ⟨m, 1, none⟩ (.slice A3 a.ks.length c3))) := hid ((hB.out.trans (hb3.mono (by omega))).setCell (p := ⟨m, 1, none⟩) (Nat.le_refl _) _)
    generalize w3.setCell ⟨m, 1, none⟩ (.slice A3 a.ks.length c3) = w6 at *
    have hs65 : Hid (w5.heap.size ≤ w6.heap.size) := hid hu1.size
    clear hO3 hb3 hu1 hbs K1 K2 hB hk5 hw5
    go_upto_region 2 with fail
    go_cut [] (fun wx => ∃ (A3 : Option Addr) (c3 : Nat) (w3 : World), w3.ownsRow w6.heap.size 40 5 (.slice A3 (a.ws.length + 1) c3) (a.ws.length + 1) (wrCells a.ws ++ #[.string ⟨#[98, 101, 104, 105, 110, 100]⟩, .bool false, .int .i64 0, .int .i64 0, .string ⟨#[]⟩].toList) ∧ Below w6.heap.size w6 w3 ∧ wx = w3.setCell ⟨m, 2, none⟩ (.slice A3 a.ws.length c3))
    case first =>
      have hrd := hw5a
      have hnb := hn2
      have hone := hid (wrCells_one a.ws)
      obtain ⟨ip, hip, hp0, hp1, hp2⟩ := info_parts info_write
      have hkeep : Hid (∀ w', Below w6.heap.size w6 w' → w'.cell? ⟨m, 2, none⟩ = some (.slice a.A2 a.ws.length a.c2)) := hid fun w' h => (K1a.out.below_all h).cell 2
      have fq : Hid (∀ w', Below w6.heap.size w6 w' → w'.frozen? ⟨m, 2, none⟩ = false) := hid fun w' h => (K1a.out.below_all h).frozen 2
      have hHeld := hkeep.out w6.drew (Below.refl _ _).drew
      refine wp_region_heldE (S := fun w' => w'.cell? ⟨m, 2, none⟩ = some (.slice a.A2 a.ws.length a.c2)) 12 (by kernel_rfl) ?_
      refine wpAnyE_take [2, 3, 6, 10, 11, 12] (i := 1) (v := ?v18) rfl (by kernel_rfl) (by kernel_rfl) (by kernel_rfl) (by rfl) (by kernel_rfl) (by kernel_rfl) (fun _ _ _ h => h) (Or.inl ⟨by rfl, ?hy18⟩) (hHeld) ?rest18
      case hy18 => intro w hSw; (try dsimp only at hSw); go_simp; try with_reducible rfl
      (try simp only [Act.put, List.setIfInBounds_toArray, List.set_cons_zero, List.set_cons_succ, List.getElem_toArray, List.getElem_cons_zero, List.getElem_cons_succ])
      refine wpAnyE_take [3, 6, 10, 11, 12] (i := 2) (v := ?v19) rfl (by kernel_rfl) (by kernel_rfl) (by kernel_rfl) (by rfl) (by kernel_rfl) (by kernel_rfl) (fun _ _ _ h => h) (Or.inl ⟨by rfl, ?hy19⟩) (hHeld) ?rest19
      case hy19 => intro w hSw; (try dsimp only at hSw); go_simp; try with_reducible rfl
      (try simp only [Act.put, List.setIfInBounds_toArray, List.set_cons_zero, List.set_cons_succ, List.getElem_toArray, List.getElem_cons_zero, List.getElem_cons_succ])
      refine wpAnyE_take [5, 6, 10, 11, 12] (i := 4) (v := ?v20) rfl (by kernel_rfl) (by kernel_rfl) (by kernel_rfl) (by rfl) (by kernel_rfl) (by kernel_rfl) (fun _ _ _ h => h) (Or.inl ⟨by rfl, ?hy20⟩) (hHeld) ?rest20
      case hy20 => intro w hSw; (try dsimp only at hSw); go_simp; try with_reducible rfl
      (try simp only [Act.put, List.setIfInBounds_toArray, List.set_cons_zero, List.set_cons_succ, List.getElem_toArray, List.getElem_cons_zero, List.getElem_cons_succ])
      refine wpAnyE_take [8, 9, 10, 11, 12] (i := 7) (v := ?v21) rfl (by kernel_rfl) (by kernel_rfl) (by kernel_rfl) (by rfl) (by kernel_rfl) (by kernel_rfl) (fun _ _ _ h => h) (Or.inl ⟨by rfl, ?hy21⟩) (hHeld) ?rest21
      case hy21 => intro w hSw; (try dsimp only at hSw); go_simp; try with_reducible rfl
      (try simp only [Act.put, List.setIfInBounds_toArray, List.set_cons_zero, List.set_cons_succ, List.getElem_toArray, List.getElem_cons_zero, List.getElem_cons_succ])
      refine wpAnyE_take [9, 10, 11, 12] (i := 8) (v := ?v22) rfl (by kernel_rfl) (by kernel_rfl) (by kernel_rfl) (by rfl) (by kernel_rfl) (by kernel_rfl) (fun _ _ _ h => h) (Or.inl ⟨by rfl, ?hy22⟩) (hHeld) ?rest22
      case hy22 => intro w hSw; (try dsimp only at hSw); go_simp; try with_reducible rfl
      (try simp only [Act.put, List.setIfInBounds_toArray, List.set_cons_zero, List.set_cons_succ, List.getElem_toArray, List.getElem_cons_zero, List.getElem_cons_succ])
      refine wpAnyE_take [10, 11, 12] (i := 9) (v := ?v23) rfl (by kernel_rfl) (by kernel_rfl) (by kernel_rfl) (by rfl) (by kernel_rfl) (by kernel_rfl) (fun _ _ _ h => h) (Or.inl ⟨by rfl, ?hy23⟩) (hHeld) ?rest23
      case hy23 => intro w hSw; (try dsimp only at hSw); go_simp; try with_reducible rfl
      (try simp only [Act.put, List.setIfInBounds_toArray, List.set_cons_zero, List.set_cons_succ, List.getElem_toArray, List.getElem_cons_zero, List.getElem_cons_succ])
      refine wpAnyE_ready (rs := [0, 5]) (by kernel_rfl) (by simp) ?_
      refine AllReadyE.cons rfl (fun K hK => ?_) (AllReadyE.cons rfl (fun K hK => ?_) AllReadyE.nil)
      · go_simp
        refine hK.out _ _ (fun _ => hkeep.out _ (((Below.refl _ w6).alloc (Nat.le_refl _) _).drew)) ?_
        clear hK K
        (try simp only [Act.put, List.setIfInBounds_toArray, List.set_cons_zero, List.set_cons_succ, List.getElem_toArray, List.getElem_cons_zero, List.getElem_cons_succ])
        refine wpAnyE_ready (rs := [3, 5]) (by kernel_rfl) (by simp) ?_
        refine AllReadyE.cons rfl (fun K hK => ?_) (AllReadyE.cons rfl (fun K hK => ?_) AllReadyE.nil)
        · refine step_append_rd _ rfl (.tmp 14) (.tmp 16) 26 rfl w6.heap.size 40 ip _ 5 56 Tryz.underlying26 hip hp0 hp1 hp2 rfl (by omega) (.slice (some ⟨w6.heap.size, 0, none⟩) 0 0) 0 [] rfl ?_ (fun b => b < m) a.A2 a.ws.length a.c2 (wrCells a.ws) rfl ?_ ?_ ?_ ?_ ?_ a.ws.length (Nat.zero_add _) (wrCells a.ws) rfl ?_
          · exact (own_empty w6 _ 5).drew
          · exact hrd.out.below_all (((Below.refl _ w6).alloc (Nat.le_refl _) (.cells #[] 40)).drew)
          · exact hone.out
          · have := hnb.out; simp only [maxLen]; omega
          · have := hnb.out; omega
          · exact below_sz (((Below.refl _ w6).alloc (Nat.le_refl _) (.cells #[] 40)).drew)
          intro A2 c2 w2 hown2 hg2 hat2
          have hbA : Hid (Below w6.heap.size w6 w2) := hid (below_gr (((Below.refl _ w6).alloc (Nat.le_refl _) (.cells #[] 40)).drew) hg2 (fun k hk => by simp [Value.ownBlock] at hk; omega))
          clear hg2 hat2
          refine hK.out _ _ (fun _ => hkeep.out _ hbA.out) ?_
          clear hK K
          (try simp only [Act.put, List.setIfInBounds_toArray, List.set_cons_zero, List.set_cons_succ, List.getElem_toArray, List.getElem_cons_zero, List.getElem_cons_succ])
          refine wpAnyE_ready (rs := [5]) (by kernel_rfl) (by simp) ?_
          refine AllReadyE.cons rfl (fun K hK => ?_) AllReadyE.nil
          go_simp
          refine hK.out _ _ (fun _ => hkeep.out _ (below_al hbA.out _)) ?_
          clear hK K
          (try simp only [Act.put, List.setIfInBounds_toArray, List.set_cons_zero, List.set_cons_succ, List.getElem_toArray, List.getElem_cons_zero, List.getElem_cons_succ])
          refine wpAnyE_ready (rs := [6]) (by kernel_rfl) (by simp) ?_
          refine AllReadyE.cons rfl (fun K hK => ?_) AllReadyE.nil
          refine step_append_rd _ rfl (.tmp 17) (.tmp 19) 26 rfl w6.heap.size 40 ip _ 5 56 Tryz.underlying26 hip hp0 hp1 hp2 rfl (by omega) (.slice A2 a.ws.length c2) a.ws.length (wrCells a.ws) rfl ?_ (fun b => b = w2.heap.size) (some ⟨w2.heap.size, 0, none⟩) 1 1 #[.string ⟨#[98, 101, 104, 105, 110, 100]⟩, .bool false, .int .i64 0, .int .i64 0, .string ⟨#[]⟩].toList rfl ?_ ?_ ?_ ?_ ?_ (a.ws.length + 1) rfl ((wrCells a.ws) ++ #[.string ⟨#[98, 101, 104, 105, 110, 100]⟩, .bool false, .int .i64 0, .int .i64 0, .string ⟨#[]⟩].toList) rfl ?_
          · exact hown2.alloc _
          · exact Rd.new w2 40 5 1 #[.string ⟨#[98, 101, 104, 105, 110, 100]⟩, .bool false, .int .i64 0, .int .i64 0, .string ⟨#[]⟩] w2.heap.size rfl rfl
          · intro v hv; simp at hv; rcases hv with rfl | rfl | rfl | rfl | rfl <;> rfl
          · have := hnb.out; simp only [maxLen]; omega
          · have := hnb.out; omega
          · exact below_sz (below_al hbA.out _)
          intro A3 c3 w3 hown3 hg3 hat3
          have hbB : Hid (Below w6.heap.size w6 w3) := hid (below_gr (below_al hbA.out _) hg3 (fun k hk => (hown2.lt k hk).1))
          obtain ⟨A9, c9, he9, hc9, hm9⟩ := own_form hown3
          injection he9 with e1 e2 e3
          subst e1; subst e3
          have j1 : ((a.ws.length : Nat) : Int) ≤ (c3 : Int) := by omega
          have j2 : a.ws.length ≤ c3 := by omega
          have j3 : (c3 : Int) ≤ 9223372036854775807 := by simp only [maxLen] at hm9; omega
          have r4 : w3.cell? ⟨m, 2, none⟩ = some (.slice a.A2 a.ws.length a.c2) := hkeep.out _ hbB.out
          have q4 := fq.out _ hbB.out
          have hO3 := hid hown3
          clear hg3 hat3 hown3 hown2
          refine hK.out _ _ (fun _ => hkeep.out _ hbB.out) ?_
          clear hK K
          (try simp only [Act.put, List.setIfInBounds_toArray, List.set_cons_zero, List.set_cons_succ, List.getElem_toArray, List.getElem_cons_zero, List.getElem_cons_succ])
          refine wpAnyE_take [11, 12] (i := 10) (v := ?v12) rfl (by kernel_rfl) (by kernel_rfl) (by kernel_rfl) (by rfl) (by kernel_rfl) (by kernel_rfl) (fun _ _ _ h => h) (Or.inl ⟨by rfl, ?hy12⟩) (hkeep.out _ hbB.out) ?rest12
          case hy12 => intro w hSw; (try dsimp only at hSw); go_simp; try with_reducible rfl
          (try simp only [Act.put, List.setIfInBounds_toArray, List.set_cons_zero, List.set_cons_succ, List.getElem_toArray, List.getElem_cons_zero, List.getElem_cons_succ])
          refine wpAnyE_take [12] (i := 11) (v := ?v13) rfl (by kernel_rfl) (by kernel_rfl) (by kernel_rfl) (by rfl) (by kernel_rfl) (by kernel_rfl) (fun _ _ _ h => h) (Or.inl ⟨by rfl, ?hy13⟩) (hkeep.out _ hbB.out) ?rest13
          case hy13 => intro w hSw; (try dsimp only at hSw); go_simp; try with_reducible rfl
          (try simp only [Act.put, List.setIfInBounds_toArray, List.set_cons_zero, List.set_cons_succ, List.getElem_toArray, List.getElem_cons_zero, List.getElem_cons_succ])
          refine wpAnyE_ready (rs := [12]) (by kernel_rfl) (by simp) ?_
          refine AllReadyE.cons rfl (fun K hK => ?_) AllReadyE.nil
          go_simp
          refine hK.out _ _ (fun h => absurd rfl h) ?_
          clear hK K
          (try simp only [Act.put, List.setIfInBounds_toArray, List.set_cons_zero, List.set_cons_succ, List.getElem_toArray, List.getElem_cons_zero, List.getElem_cons_succ])
          refine wpAnyE_done (by kernel_rfl) ?_ _
          go_wp2_with fail
          go_meet
          exact ⟨A3, c3, w3, hO3.out, hbB.out, rfl⟩
        · go_simp
          refine hK.out _ _ (fun _ => hkeep.out _ ((((Below.refl _ w6).alloc (Nat.le_refl _) _).drew).alloc (by simp) _)) ?_
          clear hK K
          (try simp only [Act.put, List.setIfInBounds_toArray, List.set_cons_zero, List.set_cons_succ, List.getElem_toArray, List.getElem_cons_zero, List.getElem_cons_succ])
          refine wpAnyE_ready (rs := [3]) (by kernel_rfl) (by simp) ?_
          refine AllReadyE.cons rfl (fun K hK => ?_) AllReadyE.nil
          refine step_append_rd _ rfl (.tmp 14) (.tmp 16) 26 rfl w6.heap.size 40 ip _ 5 56 Tryz.underlying26 hip hp0 hp1 hp2 rfl (by omega) (.slice (some ⟨w6.heap.size, 0, none⟩) 0 0) 0 [] rfl ?_ (fun b => b < m) a.A2 a.ws.length a.c2 (wrCells a.ws) rfl ?_ ?_ ?_ ?_ ?_ a.ws.length (Nat.zero_add _) (wrCells a.ws) rfl ?_
          · exact (own_empty w6 _ 5).drew.alloc _
          · exact hrd.out.below_all ((((Below.refl _ w6).alloc (Nat.le_refl _) (.cells #[] 40)).drew).alloc (by simp) (.cells #[.string ⟨#[98, 101, 104, 105, 110, 100]⟩, .bool false, .int .i64 0, .int .i64 0, .string ⟨#[]⟩] 40))
          · exact hone.out
          · have := hnb.out; simp only [maxLen]; omega
          · have := hnb.out; omega
          · exact below_sz ((((Below.refl _ w6).alloc (Nat.le_refl _) (.cells #[] 40)).drew).alloc (by simp) (.cells #[.string ⟨#[98, 101, 104, 105, 110, 100]⟩, .bool false, .int .i64 0, .int .i64 0, .string ⟨#[]⟩] 40))
          intro A2 c2 w2 hown2 hg2 hat2
          have hbA : Hid (Below w6.heap.size w6 w2) := hid (below_gr ((((Below.refl _ w6).alloc (Nat.le_refl _) (.cells #[] 40)).drew).alloc (by simp) (.cells #[.string ⟨#[98, 101, 104, 105, 110, 100]⟩, .bool false, .int .i64 0, .int .i64 0, .string ⟨#[]⟩] 40)) hg2 (fun k hk => by simp [Value.ownBlock] at hk; omega))
          have hI : Hid (Rd (fun b => b = w6.heap.size + 1) w2 5 (some ⟨w6.heap.size + 1, 0, none⟩) 1 #[.string ⟨#[98, 101, 104, 105, 110, 100]⟩, .bool false, .int .i64 0, .int .i64 0, .string ⟨#[]⟩].toList) := hid ((Rd.new (w6.alloc (.cells #[] 40)).drew 40 5 1 #[.string ⟨#[98, 101, 104, 105, 110, 100]⟩, .bool false, .int .i64 0, .int .i64 0, .string ⟨#[]⟩] (w6.heap.size + 1) (by simp) rfl).grown_ hg2 (fun b hb => by simp [Value.ownBlock, hb]))
          clear hg2 hat2
          refine hK.out _ _ (fun _ => hkeep.out _ hbA.out) ?_
          clear hK K
          (try simp only [Act.put, List.setIfInBounds_toArray, List.set_cons_zero, List.set_cons_succ, List.getElem_toArray, List.getElem_cons_zero, List.getElem_cons_succ])
          refine wpAnyE_ready (rs := [6]) (by kernel_rfl) (by simp) ?_
          refine AllReadyE.cons rfl (fun K hK => ?_) AllReadyE.nil
          refine step_append_rd _ rfl (.tmp 17) (.tmp 19) 26 rfl w6.heap.size 40 ip _ 5 56 Tryz.underlying26 hip hp0 hp1 hp2 rfl (by omega) (.slice A2 a.ws.length c2) a.ws.length (wrCells a.ws) rfl ?_ (fun b => b = w6.heap.size + 1) (some ⟨w6.heap.size + 1, 0, none⟩) 1 1 #[.string ⟨#[98, 101, 104, 105, 110, 100]⟩, .bool false, .int .i64 0, .int .i64 0, .string ⟨#[]⟩].toList rfl ?_ ?_ ?_ ?_ ?_ (a.ws.length + 1) rfl ((wrCells a.ws) ++ #[.string ⟨#[98, 101, 104, 105, 110, 100]⟩, .bool false, .int .i64 0, .int .i64 0, .string ⟨#[]⟩].toList) rfl ?_
          · exact hown2
          · exact hI.out
          · intro v hv; simp at hv; rcases hv with rfl | rfl | rfl | rfl | rfl <;> rfl
          · have := hnb.out; simp only [maxLen]; omega
          · have := hnb.out; omega
          · exact below_sz hbA.out
          intro A3 c3 w3 hown3 hg3 hat3
          have hbB : Hid (Below w6.heap.size w6 w3) := hid (below_gr hbA.out hg3 (fun k hk => (hown2.lt k hk).1))
          obtain ⟨A9, c9, he9, hc9, hm9⟩ := own_form hown3
          injection he9 with e1 e2 e3
          subst e1; subst e3
          have j1 : ((a.ws.length : Nat) : Int) ≤ (c3 : Int) := by omega
          have j2 : a.ws.length ≤ c3 := by omega
          have j3 : (c3 : Int) ≤ 9223372036854775807 := by simp only [maxLen] at hm9; omega
          have r4 : w3.cell? ⟨m, 2, none⟩ = some (.slice a.A2 a.ws.length a.c2) := hkeep.out _ hbB.out
          have q4 := fq.out _ hbB.out
          have hO3 := hid hown3
          clear hg3 hat3 hown3 hown2
          refine hK.out _ _ (fun _ => hkeep.out _ hbB.out) ?_
          clear hK K
          (try simp only [Act.put, List.setIfInBounds_toArray, List.set_cons_zero, List.set_cons_succ, List.getElem_toArray, List.getElem_cons_zero, List.getElem_cons_succ])
          refine wpAnyE_take [11, 12] (i := 10) (v := ?v14) rfl (by kernel_rfl) (by kernel_rfl) (by kernel_rfl) (by rfl) (by kernel_rfl) (by kernel_rfl) (fun _ _ _ h => h) (Or.inl ⟨by rfl, ?hy14⟩) (hkeep.out _ hbB.out) ?rest14
          case hy14 => intro w hSw; (try dsimp only at hSw); go_simp; try with_reducible rfl
          (try simp only [Act.put, List.setIfInBounds_toArray, List.set_cons_zero, List.set_cons_succ, List.getElem_toArray, List.getElem_cons_zero, List.getElem_cons_succ])
          refine wpAnyE_take [12] (i := 11) (v := ?v15) rfl (by kernel_rfl) (by kernel_rfl) (by kernel_rfl) (by rfl) (by kernel_rfl) (by kernel_rfl) (fun _ _ _ h => h) (Or.inl ⟨by rfl, ?hy15⟩) (hkeep.out _ hbB.out) ?rest15
          case hy15 => intro w hSw; (try dsimp only at hSw); go_simp; try with_reducible rfl
          (try simp only [Act.put, List.setIfInBounds_toArray, List.set_cons_zero, List.set_cons_succ, List.getElem_toArray, List.getElem_cons_zero, List.getElem_cons_succ])
          refine wpAnyE_ready (rs := [12]) (by kernel_rfl) (by simp) ?_
          refine AllReadyE.cons rfl (fun K hK => ?_) AllReadyE.nil
          go_simp
          refine hK.out _ _ (fun h => absurd rfl h) ?_
          clear hK K
          (try simp only [Act.put, List.setIfInBounds_toArray, List.set_cons_zero, List.set_cons_succ, List.getElem_toArray, List.getElem_cons_zero, List.getElem_cons_succ])
          refine wpAnyE_done (by kernel_rfl) ?_ _
          go_wp2_with fail
          go_meet
          exact ⟨A3, c3, w3, hO3.out, hbB.out, rfl⟩
      · go_simp
        refine hK.out _ _ (fun _ => hkeep.out _ (((Below.refl _ w6).alloc (Nat.le_refl _) _).drew)) ?_
        clear hK K
        (try simp only [Act.put, List.setIfInBounds_toArray, List.set_cons_zero, List.set_cons_succ, List.getElem_toArray, List.getElem_cons_zero, List.getElem_cons_succ])
        refine wpAnyE_ready (rs := [0]) (by kernel_rfl) (by simp) ?_
        refine AllReadyE.cons rfl (fun K hK => ?_) AllReadyE.nil
        go_simp
        refine hK.out _ _ (fun _ => hkeep.out _ ((((Below.refl _ w6).alloc (Nat.le_refl _) _).drew).alloc (by simp) _)) ?_
        clear hK K
        (try simp only [Act.put, List.setIfInBounds_toArray, List.set_cons_zero, List.set_cons_succ, List.getElem_toArray, List.getElem_cons_zero, List.getElem_cons_succ])
        refine wpAnyE_ready (rs := [3]) (by kernel_rfl) (by simp) ?_
        refine AllReadyE.cons rfl (fun K hK => ?_) AllReadyE.nil
        refine step_append_rd _ rfl (.tmp 14) (.tmp 16) 26 rfl w6.heap.size 40 ip _ 5 56 Tryz.underlying26 hip hp0 hp1 hp2 rfl (by omega) (.slice (some ⟨w6.heap.size + 1, 0, none⟩) 0 0) 0 [] rfl ?_ (fun b => b < m) a.A2 a.ws.length a.c2 (wrCells a.ws) rfl ?_ ?_ ?_ ?_ ?_ a.ws.length (Nat.zero_add _) (wrCells a.ws) rfl ?_
        · exact own_base (by simp) (own_empty' (w6.alloc (.cells #[.string ⟨#[98, 101, 104, 105, 110, 100]⟩, .bool false, .int .i64 0, .int .i64 0, .string ⟨#[]⟩] 40)).drew _ 5 (w6.heap.size + 1) (by simp))
        · exact hrd.out.below_all ((((Below.refl _ w6).alloc (Nat.le_refl _) (.cells #[.string ⟨#[98, 101, 104, 105, 110, 100]⟩, .bool false, .int .i64 0, .int .i64 0, .string ⟨#[]⟩] 40)).drew).alloc (by simp) (.cells #[] 40))
        · exact hone.out
        · have := hnb.out; simp only [maxLen]; omega
        · have := hnb.out; omega
        · exact below_sz ((((Below.refl _ w6).alloc (Nat.le_refl _) (.cells #[.string ⟨#[98, 101, 104, 105, 110, 100]⟩, .bool false, .int .i64 0, .int .i64 0, .string ⟨#[]⟩] 40)).drew).alloc (by simp) (.cells #[] 40))
        intro A2 c2 w2 hown2 hg2 hat2
        have hbA : Hid (Below w6.heap.size w6 w2) := hid (below_gr ((((Below.refl _ w6).alloc (Nat.le_refl _) (.cells #[.string ⟨#[98, 101, 104, 105, 110, 100]⟩, .bool false, .int .i64 0, .int .i64 0, .string ⟨#[]⟩] 40)).drew).alloc (by simp) (.cells #[] 40)) hg2 (fun k hk => by simp [Value.ownBlock] at hk; omega))
        have hI : Hid (Rd (fun b => b = w6.heap.size) w2 5 (some ⟨w6.heap.size, 0, none⟩) 1 #[.string ⟨#[98, 101, 104, 105, 110, 100]⟩, .bool false, .int .i64 0, .int .i64 0, .string ⟨#[]⟩].toList) := hid (((Rd.new w6 40 5 1 #[.string ⟨#[98, 101, 104, 105, 110, 100]⟩, .bool false, .int .i64 0, .int .i64 0, .string ⟨#[]⟩] w6.heap.size rfl rfl).drew.alloc (.cells #[] 40)).grown_ hg2 (fun b hb => by simp [Value.ownBlock, hb]))
        clear hg2 hat2
        refine hK.out _ _ (fun _ => hkeep.out _ hbA.out) ?_
        clear hK K
        (try simp only [Act.put, List.setIfInBounds_toArray, List.set_cons_zero, List.set_cons_succ, List.getElem_toArray, List.getElem_cons_zero, List.getElem_cons_succ])
        refine wpAnyE_ready (rs := [6]) (by kernel_rfl) (by simp) ?_
        refine AllReadyE.cons rfl (fun K hK => ?_) AllReadyE.nil
        refine step_append_rd _ rfl (.tmp 17) (.tmp 19) 26 rfl w6.heap.size 40 ip _ 5 56 Tryz.underlying26 hip hp0 hp1 hp2 rfl (by omega) (.slice A2 a.ws.length c2) a.ws.length (wrCells a.ws) rfl ?_ (fun b => b = w6.heap.size) (some ⟨w6.heap.size, 0, none⟩) 1 1 #[.string ⟨#[98, 101, 104, 105, 110, 100]⟩, .bool false, .int .i64 0, .int .i64 0, .string ⟨#[]⟩].toList rfl ?_ ?_ ?_ ?_ ?_ (a.ws.length + 1) rfl ((wrCells a.ws) ++ #[.string ⟨#[98, 101, 104, 105, 110, 100]⟩, .bool false, .int .i64 0, .int .i64 0, .string ⟨#[]⟩].toList) rfl ?_
        · exact hown2
        · exact hI.out
        · intro v hv; simp at hv; rcases hv with rfl | rfl | rfl | rfl | rfl <;> rfl
        · have := hnb.out; simp only [maxLen]; omega
        · have := hnb.out; omega
        · exact below_sz hbA.out
        intro A3 c3 w3 hown3 hg3 hat3
        have hbB : Hid (Below w6.heap.size w6 w3) := hid (below_gr hbA.out hg3 (fun k hk => (hown2.lt k hk).1))
        obtain ⟨A9, c9, he9, hc9, hm9⟩ := own_form hown3
        injection he9 with e1 e2 e3
        subst e1; subst e3
        have j1 : ((a.ws.length : Nat) : Int) ≤ (c3 : Int) := by omega
        have j2 : a.ws.length ≤ c3 := by omega
        have j3 : (c3 : Int) ≤ 9223372036854775807 := by simp only [maxLen] at hm9; omega
        have r4 : w3.cell? ⟨m, 2, none⟩ = some (.slice a.A2 a.ws.length a.c2) := hkeep.out _ hbB.out
        have q4 := fq.out _ hbB.out
        have hO3 := hid hown3
        clear hg3 hat3 hown3 hown2
        refine hK.out _ _ (fun _ => hkeep.out _ hbB.out) ?_
        clear hK K
        (try simp only [Act.put, List.setIfInBounds_toArray, List.set_cons_zero, List.set_cons_succ, List.getElem_toArray, List.getElem_cons_zero, List.getElem_cons_succ])
        refine wpAnyE_take [11, 12] (i := 10) (v := ?v16) rfl (by kernel_rfl) (by kernel_rfl) (by kernel_rfl) (by rfl) (by kernel_rfl) (by kernel_rfl) (fun _ _ _ h => h) (Or.inl ⟨by rfl, ?hy16⟩) (hkeep.out _ hbB.out) ?rest16
        case hy16 => intro w hSw; (try dsimp only at hSw); go_simp; try with_reducible rfl
        (try simp only [Act.put, List.setIfInBounds_toArray, List.set_cons_zero, List.set_cons_succ, List.getElem_toArray, List.getElem_cons_zero, List.getElem_cons_succ])
        refine wpAnyE_take [12] (i := 11) (v := ?v17) rfl (by kernel_rfl) (by kernel_rfl) (by kernel_rfl) (by rfl) (by kernel_rfl) (by kernel_rfl) (fun _ _ _ h => h) (Or.inl ⟨by rfl, ?hy17⟩) (hkeep.out _ hbB.out) ?rest17
        case hy17 => intro w hSw; (try dsimp only at hSw); go_simp; try with_reducible rfl
        (try simp only [Act.put, List.setIfInBounds_toArray, List.set_cons_zero, List.set_cons_succ, List.getElem_toArray, List.getElem_cons_zero, List.getElem_cons_succ])
        refine wpAnyE_ready (rs := [12]) (by kernel_rfl) (by simp) ?_
        refine AllReadyE.cons rfl (fun K hK => ?_) AllReadyE.nil
        go_simp
        refine hK.out _ _ (fun h => absurd rfl h) ?_
        clear hK K
        (try simp only [Act.put, List.setIfInBounds_toArray, List.set_cons_zero, List.set_cons_succ, List.getElem_toArray, List.getElem_cons_zero, List.getElem_cons_succ])
        refine wpAnyE_done (by kernel_rfl) ?_ _
        go_wp2_with fail
        go_meet
        exact ⟨A3, c3, w3, hO3.out, hbB.out, rfl⟩
    case rest =>
      obtain ⟨B3, e3, w8, hO3, hb3, rfl⟩ := hcut
      have hu1 : Upd (fun j => j = m) w6 (w8.setCell ⟨m, 2, none⟩ (.slice B3 a.ws.length e3)) := (Upd.of_below (M := fun j => j = m) hb3 fun k hk h => by omega).setCell (p := ⟨m, 2, none⟩) (fun _ => rfl) _
      have h65 := hs65.out
      have K1b := hid ((K1a.out.below_all hb3).set_ 2 (.slice B3 a.ws.length e3))
      have K2b : Hid (Blk (w8.setCell ⟨m, 2, none⟩ (.slice B3 a.ws.length e3)) (m + 1) 51 #[.int .i64 0, .slice none 0 0, .slice none 0 0]) := hid (K2a.out.upd hu1 (by omega))
      have hR2 : Hid (Rd (fun b => w6.heap.size ≤ b) (w8.setCell ⟨m, 2, none⟩ (.slice B3 a.ws.length e3)) 5 B3 a.ws.length (wrCells a.ws)) := hid ((Rd.pre_own hO3 (wrCells_len _)).setCell (by simp only; omega) _)
      have hR1b : Hid (Rd (fun b => w5.heap.size ≤ b) (w8.setCell ⟨m, 2, none⟩ (.slice B3 a.ws.length e3)) 1 A3 a.ks.length (strs a.ks)) := hid (hR1.out.upd hu1 (fun b hb e => by omega))
      have hT1b : Hid (RowT (w8.setCell ⟨m, 2, none⟩ (.slice B3 a.ws.length e3)) w5.heap.size 9 A3) := hid (hT1.out.upd hu1 (fun b hb e => by omega))
      have hT2 : Hid (RowT (w8.setCell ⟨m, 2, none⟩ (.slice B3 a.ws.length e3)) w6.heap.size 40 B3) := hid ((RowT.of_own hO3).set (p := ⟨m, 2, none⟩) (by simp only; omega) _)
      have hBb : Hid (Below m w (w8.setCell ⟨m, 2, none⟩ (.slice B3 a.ws.length e3))) := hid ((hBa.out.trans (hb3.mono (by have := hBa.out.size; omega))).setCell (p := ⟨m, 2, none⟩) (Nat.le_refl _) _)
      have hm1 := hid (show m + 1 < w5.heap.size ∧ m < w5.heap.size from ⟨hm2.out, hml⟩)
      generalize w8.setCell ⟨m, 2, none⟩ (.slice B3 a.ws.length e3) = w9 at *
      clear hO3 hb3 hu1 K1a K2a hw5a hR1 hT1 hBa
      have y0 : w9.cell? ⟨m, 0, none⟩ = some (.int .i64 a.kind) := K1b.out.cell 0
      have y1 : w9.cell? ⟨m, 1, none⟩ = some (.slice A3 a.ks.length c3) := K1b.out.cell 1
      have y2 : w9.cell? ⟨m, 2, none⟩ = some (.slice B3 a.ws.length e3) := K1b.out.cell 2
      have z0 : w9.cell? ⟨m + 1, 0, none⟩ = some (.int .i64 0) := K2b.out.cell 0
      have z1 : w9.cell? ⟨m + 1, 1, none⟩ = some (.slice none 0 0) := K2b.out.cell 1
      have z2 : w9.cell? ⟨m + 1, 2, none⟩ = some (.slice none 0 0) := K2b.out.cell 2
      have zf := K2b.out.frozen
      go_wp2_with fail
      have kfin := ((K2b.out.set_ 0 (.int .i64 a.kind)).set_ 1 (.slice A3 a.ks.length c3)).set_ 2 (.slice B3 a.ws.length e3)
      have hfin1 : Rd (fun b => w.heap.size ≤ b) (((w9.setCell ⟨m + 1, 0, none⟩ (.int .i64 a.kind)).setCell ⟨m + 1, 1, none⟩ (.slice A3 a.ks.length c3)).setCell ⟨m + 1, 2, none⟩ (.slice B3 a.ws.length e3)) 1 A3 a.ks.length (strs a.ks) := (((hR1b.out.setCell (p := ⟨m + 1, 0, none⟩) (by have := hm1.out; simp only; omega) _).setCell (p := ⟨m + 1, 1, none⟩) (by have := hm1.out; simp only; omega) _).setCell (p := ⟨m + 1, 2, none⟩) (by have := hm1.out; simp only; omega) _).more fun b hb _ => by have := hm1.out; omega
      have hfin2 : Rd (fun b => w.heap.size ≤ b) (((w9.setCell ⟨m + 1, 0, none⟩ (.int .i64 a.kind)).setCell ⟨m + 1, 1, none⟩ (.slice A3 a.ks.length c3)).setCell ⟨m + 1, 2, none⟩ (.slice B3 a.ws.length e3)) 5 B3 a.ws.length (wrCells a.ws) := (((hR2.out.setCell (p := ⟨m + 1, 0, none⟩) (by have := hm1.out; have := hs65.out; simp only; omega) _).setCell (p := ⟨m + 1, 1, none⟩) (by have := hm1.out; have := hs65.out; simp only; omega) _).setCell (p := ⟨m + 1, 2, none⟩) (by have := hm1.out; have := hs65.out; simp only; omega) _).more fun b hb _ => by have := hm1.out; have := hs65.out; omega
      refine bodyPost_ret (v := .agg #[.int .i64 a.kind, .slice A3 a.ks.length c3, .slice B3 a.ws.length e3]) ?_ rfl ?_
      · exact results_cell_row (P := Tryz.prog) rfl _ _ (m + 1) 51 _ (0, 0) _ rfl kfin Tryz.underlying51 rfl (by kernel_rfl)
      · exact ⟨A3, c3, B3, e3, rfl, hfin1, hfin2, (((hT1b.out.set (p := ⟨m + 1, 0, none⟩) (by have := hm1.out; simp only; omega) _).set (p := ⟨m + 1, 1, none⟩) (by have := hm1.out; simp only; omega) _).set (p := ⟨m + 1, 2, none⟩) (by have := hm1.out; simp only; omega) _).mono (by have := hm1.out; omega), (((hT2.out.set (p := ⟨m + 1, 0, none⟩) (by have := hm1.out; have := hs65.out; simp only; omega) _).set (p := ⟨m + 1, 1, none⟩) (by have := hm1.out; have := hs65.out; simp only; omega) _).set (p := ⟨m + 1, 2, none⟩) (by have := hm1.out; have := hs65.out; simp only; omega) _).mono (by have := hm1.out; have := hs65.out; omega), by rw [hm]; exact ((hBb.out.setCell (p := ⟨m + 1, 0, none⟩) (by simp) _).setCell (p := ⟨m + 1, 1, none⟩) (by simp) _).setCell (p := ⟨m + 1, 2, none⟩) (by simp) _⟩
theorem own_any {Sx : Nat → Prop} (a : SA) (h : a.ok Sx w) (h1 : a.ks.length ≤ 100000) (h2 : a.ws.length ≤ 100000) : Calls Tryz.prog 16 #[.agg #[.int .i64 a.kind, .slice a.A1 a.ks.length a.c1, .slice a.A2 a.ws.length a.c2]] w fun e w' => ∃ B1 d1 B2 d2, e = .returned (.agg #[.int .i64 a.kind, .slice B1 a.ks.length d1, .slice B2 a.ws.length d2]) ∧ Rd (fun b => w.heap.size ≤ b) w' 1 B1 a.ks.length (strs a.ks) ∧ Rd (fun b => w.heap.size ≤ b) w' 5 B2 a.ws.length (wrCells a.ws) ∧ Below w.heap.size w w' :=
  (own_anyW a h h1 h2).mono fun e w' ⟨B1, d1, B2, d2, e1, r1, r2, _, _, hb⟩ => ⟨B1, d1, B2, d2, e1, r1, r2, hb⟩
end
end Go.Proofs.YtphglnenafdkaaaGreatDoor

namespace Go.Proofs.YtphglnenafdkaaaGreatDoor
open Go.RowKit
set_option linter.unusedVariables false

theorem wpAnyH_more {P : Program} {md : Region.Mode} {ops : Array Oper} {Q : Exit → Act → World → Prop} {S S' : World → Prop} (h : ∀ w, S' w → S w) :
    ∀ (fuel : Nat) (listed : Array Bool) (a : Act) (w : World), wpAnyH P md ops Q S' fuel listed a w → wpAnyH P md ops Q S fuel listed a w
  | 0, _, _, _, hx => hx
  | n + 1, listed, a, w, hx => ⟨hx.1, fun i hi => wpOp_mono (fun a' w' h3 => ⟨h _ h3.1, wpAnyH_more h n _ _ _ h3.2⟩) (hx.2 i hi)⟩
end Go.Proofs.YtphglnenafdkaaaGreatDoor

namespace Go.Proofs.YtphglnenafdkaaaGreatDoor
open Go.RowKit
set_option linter.unusedVariables false
set_option linter.unusedSimpArgs false

def lineV : Option (List UInt8 × List UInt8) → Ending
  | none => .returned (.tuple #[.string ⟨#[]⟩, .string ⟨#[]⟩, .bool false])
  | some x => .returned (.tuple #[.string ⟨x.1.toArray⟩, .string ⟨x.2.toArray⟩, .bool true])
theorem lnL_at {s : ByteArray} {k : Nat} (hk : k < s.size) (hn : (10 : UInt8) ∉ s.data.toList.take k) (h : s.data[k]'hk = 10) : lnL s.data.toList = some (s.data.toList.take k, s.data.toList.drop (k + 1)) := by
  have hl : k < s.data.toList.length := by rw [Array.length_toList]; exact hk
  have e : s.data.toList = s.data.toList.take k ++ 10 :: s.data.toList.drop (k + 1) := by
    conv => lhs; rw [← List.take_append_drop k s.data.toList]
    rw [List.drop_eq_getElem_cons hl, Array.getElem_toList, h]
  conv => lhs; rw [e]
  exact lnL_some _ hn
theorem take_not {c : UInt8} {s : ByteArray} {k : Nat} (hk : k < s.size) (hn : c ∉ s.data.toList.take k) (h : s.data[k]'hk ≠ c) : c ∉ s.data.toList.take (k + 1) := by
  have hl : k < s.data.toList.length := by rw [Array.length_toList]; exact hk
  rw [List.take_succ_eq_append_getElem hl, Array.getElem_toList]
  intro hm
  rcases List.mem_append.1 hm with e | e
  · exact hn e
  · exact h (List.mem_singleton.1 e).symm
theorem ext_take {s : ByteArray} (k : Nat) : s.extract 0 k = ⟨(s.data.toList.take k).toArray⟩ := by
  apply ByteArray.ext
  apply Array.toList_inj.1
  rw [ByteArray.data_extract, Array.toList_extract, List.extract_eq_take_drop]
  simp
theorem ext_drop {s : ByteArray} (k : Nat) : s.extract k s.size = ⟨(s.data.toList.drop k).toArray⟩ := by
  apply ByteArray.ext
  apply Array.toList_inj.1
  rw [ByteArray.data_extract, Array.toList_extract, List.extract_eq_take_drop]
  simp only [List.toList_toArray]
  refine List.take_of_length_le ?_
  rw [List.length_drop, Array.length_toList]; exact Nat.le_refl _
theorem size_list (s : ByteArray) : s.data.toList.length = s.size := by rw [Array.length_toList]; rfl
set_option maxRecDepth 100000 in
set_option maxHeartbeats 4000000 in
theorem rline_any (s : ByteArray) (w : World) (hs : s.size ≤ 140737488351232) : Calls Tryz.prog 61 #[.string s] w fun e w' => e = lineV (lnL s.data.toList) ∧ Below w.heap.size w w' := by
  have hs9 : (s.size : Int) ≤ 140737488351232 := by omega
  generalize hR : lnL s.data.toList = R
  have hR := hid hR
  clear hs
  go_enter Tryz.func61, Tryz.ntmps61
  go_wp2_with fail
  go_loopw [5] (fun v wr => ∃ k : Nat, v = .int .i64 k ∧ k ≤ s.size ∧ (10 : UInt8) ∉ s.data.toList.take k ∧ Below w.heap.size w wr) (fun v _ => s.size - (intOf v).toNat)
  case atStart => exact ⟨0, rfl, Nat.zero_le _, by simp, Below.refl _ _⟩
  case round =>
    obtain ⟨k, rfl, hks, hno0, hB0⟩ := hrel
    have hno := hid hno0
    have hB := hid hB0
    clear hno0 hB0
    by_cases hlt : k < s.size
    · have i1 : (k : Int) < (s.size : Int) := by omega
      have i2 : IntKind.i64.wrap ((k : Int) + 1) = (k : Int) + 1 := by rw [IntKind.wrap_i64]; omega
      have i3 : (k : Int) + 1 ≤ (s.size : Int) := by omega
      have i4 : k + 1 ≤ s.size := hlt
      have i5 : (k : Int) ≤ (s.size : Int) := by omega
      by_cases h10 : s.data[k]'hlt = 10
      · have b1 : (s[k]'hlt).toNat = 10 := byte_eq (hk := hlt) h10
        have b2 : (((s[k]'hlt).toNat : Int) == 10) = true := by rw [b1]; rfl
        have hfin := hid (lnL_at hlt hno.out h10)
        clear h10 hks
        go_wp2_with fail
        go_quiet (fail)
        go_wp2_with fail
        refine bodyPost_ret (v := .tuple #[.string (s.extract 0 k), .string (s.extract (k + 1) s.size), .bool true]) (by simp [results, Tryz.results61, go_sem]) rfl ⟨?_, below_drewN hB.out _⟩
        rw [← hR.out, hfin.out, ext_take, ext_drop]; rfl
      · have b1 : (s[k]'hlt).toNat ≠ 10 := byte_ne (hk := hlt) h10
        have b2 : (((s[k]'hlt).toNat : Int) == 10) = false := by simp; omega
        have hn2 := hid (take_not hlt hno.out h10)
        have hltH := hid hlt
        clear h10 b1 hks i3 i4
        go_wp2_with fail
        go_roundw
        case rel => exact ⟨k + 1, by go_num, hltH.out, hn2.out, hB.out⟩
        case measure => simp [intOf]; have := hltH.out; omega
    · obtain rfl : k = s.size := by omega
      have hfin : Hid (R = none) := hid (by
        have h := hno.out
        rw [List.take_of_length_le (by rw [size_list]; exact Nat.le_refl _)] at h
        rw [← hR.out]; exact lnL_none h)
      clear hlt hks
      go_wp2_with fail
      refine bodyPost_ret (v := .tuple #[.string ⟨#[]⟩, .string ⟨#[]⟩, .bool false]) (by simp [results, Tryz.results61, go_sem]) rfl ⟨?_, hB.out⟩
      rw [hfin.out]; rfl
theorem num_nil : numR (parseL []) = (0, false) := by decide
def rnumV : Option (Nat × List UInt8) → Ending
  | none => .returned (.tuple #[.int .i64 0, .string ⟨#[]⟩, .bool false])
  | some x => .returned (.tuple #[.int .i64 (x.1 : Nat), .string ⟨x.2.toArray⟩, .bool true])
set_option maxRecDepth 100000 in
set_option maxHeartbeats 4000000 in
theorem rnumH_any (s : ByteArray) (w : World) (hs : s.size ≤ 140737488351232) (he : Env w) : Calls Tryz.prog 60 #[.string s] w fun e w' => e = rnumV (numH s.data.toList) ∧ Below w.heap.size w w' := by
  have hl := hid (rline_any s w hs)
  have hs8 := hid hs
  have hE := hid he
  generalize hR : numH s.data.toList = R
  have hR := hid hR
  clear hs he
  go_enter Tryz.func60, Tryz.ntmps60
  go_wp2_with fail
  refine hl.out.mono ?_
  rintro e w2 ⟨he2, hb0⟩
  have hb := hid hb0
  clear hb0 hl
  cases hln : lnL s.data.toList with
  | none =>
    have hfin : Hid (R = none) := hid (by rw [← hR.out]; unfold numH; rw [hln])
    rw [hln] at he2
    unfold lineV at he2
    subst he2
    clear hln
    have hn0 := hid (rnumber_any2 ⟨#[]⟩ (by decide) _ (hE.out.below hb.out))
    rw [show (⟨#[]⟩ : ByteArray).data.toList = [] from rfl, num_nil] at hn0
    dsimp only at hn0
    go_wp2_with fail
    refine hn0.out.mono ?_
    rintro e w3 ⟨rfl, hb0⟩
    have hb3 := hid (hb.out.trans (hb0.mono hb.out.size))
    clear hb0
    go_wp2_with fail
    refine bodyPost_ret (v := .tuple #[.int .i64 0, .string ⟨#[]⟩, .bool false]) (by simp [results, Tryz.results60, go_sem]) rfl ⟨?_, hb3.out⟩
    rw [hfin.out]; rfl
  | some x =>
    obtain ⟨a, r⟩ := x
    have hfin : Hid (R = if (numR (parseL a)).2 = true ∧ 1 ≤ (numR (parseL a)).1 ∧ (numR (parseL a)).1 ≤ 4096 then some ((numR (parseL a)).1.toNat, r) else none) := hid (by rw [← hR.out]; unfold numH; rw [hln])
    have hal : (⟨a.toArray⟩ : ByteArray).size ≤ 140737488351232 := by
      have h1 := hs8.out
      rcases nl_cases s.data.toList with h2 | ⟨a', r', h2, h3⟩
      · rw [lnL_none h2] at hln; cases hln
      · have h4 := size_list s
        rw [h3, lnL_some r' h2] at hln
        injection hln with hln
        injection hln with e1 _
        rw [h3] at h4
        simp at h4
        rw [← e1]
        simp [ByteArray.size]
        omega
    have hna := hid (fun W (h : Env W) => rnumber_any2 ⟨a.toArray⟩ hal W h)
    rw [hln] at he2
    unfold lineV at he2
    subst he2
    dsimp only
    clear hln hal
    have hnl : (⟨a.toArray⟩ : ByteArray).data.toList = a := by simp
    rw [hnl] at hna
    generalize numR (parseL a) = n at *
    generalize (⟨a.toArray⟩ : ByteArray) = A at *
    obtain ⟨n, ok⟩ := n
    simp only at hfin hna
    clear hnl
    go_wp2_with fail
    refine (hna.out _ (hE.out.below hb.out)).mono ?_
    rintro e w3 ⟨rfl, hb0⟩
    have hb3 := hid (hb.out.trans (hb0.mono hb.out.size))
    clear hb0 hna
    cases ok with
    | false =>
      go_wp2_with fail
      refine bodyPost_ret (v := .tuple #[.int .i64 0, .string ⟨#[]⟩, .bool false]) (by simp [results, Tryz.results60, go_sem]) rfl ⟨?_, hb3.out⟩
      rw [hfin.out, if_neg (by simp)]; rfl
    | true =>
      by_cases h1 : n < 1
      · have t1 : decide (n < 1) = true := decide_eq_true h1
        have hf2 : Hid (R = none) := hid (by rw [hfin.out, if_neg (by omega)])
        clear h1
        go_wp2_with fail
        refine bodyPost_ret (v := .tuple #[.int .i64 0, .string ⟨#[]⟩, .bool false]) (by simp [results, Tryz.results60, go_sem]) rfl ⟨?_, hb3.out⟩
        rw [hf2.out]; rfl
      · have t1 : decide (n < 1) = false := decide_eq_false h1
        by_cases h2 : 4096 < n
        · have t2 : decide (4096 < n) = true := decide_eq_true h2
          have hf2 : Hid (R = none) := hid (by rw [hfin.out, if_neg (by omega)])
          clear h1 h2
          go_wp2_with fail
          refine bodyPost_ret (v := .tuple #[.int .i64 0, .string ⟨#[]⟩, .bool false]) (by simp [results, Tryz.results60, go_sem]) rfl ⟨?_, hb3.out⟩
          rw [hf2.out]; rfl
        · have t2 : decide (4096 < n) = false := decide_eq_false h2
          have hf2 : Hid (R = some (n.toNat, r)) := hid (by rw [hfin.out, if_pos ⟨rfl, by omega, by omega⟩])
          have hn9 := hid (show ((n.toNat : Nat) : Int) = n by omega)
          clear h1 h2
          go_wp2_with fail
          refine bodyPost_ret (v := .tuple #[.int .i64 n, .string ⟨r.toArray⟩, .bool true]) (by simp [results, Tryz.results60, go_sem]) rfl ⟨?_, hb3.out⟩
          rw [hf2.out]
          unfold rnumV
          dsimp only
          rw [hn9.out]
theorem item_res {W : World} {n : Nat} {c0 c1 c2 c3 v : Value} {tmps : Array Value} (ha : Blk W n 70 #[c0, c1, c2, c3]) (h4 : tmps.getD 2 undef = .pointer (some ⟨n, 0, none⟩)) (h5 : tmps.getD 3 undef = v) : (results Tryz.f62 tmps).run Tryz.prog W = .ok (.tuple #[.agg #[c0, c1, c2, c3], v]) W := by
  have x0 := ha.cell 0
  have x1 := ha.cell 1
  have x2 := ha.cell 2
  have x3 := ha.cell 3
  simp only [List.getElem?_toArray, List.getElem?_cons_zero, List.getElem?_cons_succ] at x0 x1 x2 x3
  have g2 : tmps[2]?.getD undef = .pointer (some ⟨n, 0, none⟩) := by simpa using h4
  have g3 : tmps[3]?.getD undef = v := by simpa using h5
  simp [Go.results, Tryz.results62, asAddr, g2, g3, go_sem, x0, x1, x2, x3]
theorem itemD_none {l : List UInt8} (h : (32 : UInt8) ∉ l) : itemD l = none := by
  unfold itemD itemP
  rw [cutL_none h]
  rfl
theorem cut_at {s : ByteArray} {k : Nat} (hk : k < s.size) (hn : (32 : UInt8) ∉ s.data.toList.take k) (h : s.data[k]'hk = 32) : cutL s.data.toList = (s.data.toList.take k, s.data.toList.drop (k + 1)) := by
  have hl : k < s.data.toList.length := by rw [Array.length_toList]; exact hk
  have e : s.data.toList = s.data.toList.take k ++ 32 :: s.data.toList.drop (k + 1) := by
    conv => lhs; rw [← List.take_append_drop k s.data.toList]
    rw [List.drop_eq_getElem_cons hl, Array.getElem_toList, h]
  conv => lhs; rw [e]
  exact cutL_some _ hn
set_option maxRecDepth 100000 in
set_option maxHeartbeats 8000000 in
theorem ritem_any (s : ByteArray) (w : World) (hs : s.size ≤ 140737488351232) (he : Env w) : Calls Tryz.prog 62 #[.string s] w fun e w' => (∃ (kx : ByteArray) (v : Vl), e = .returned (.tuple #[.agg #[.string kx, .int .i64 v.k, .int .i64 v.n, .string v.s], .bool (itemD s.data.toList).isSome]) ∧ (itemD s.data.toList = none ∨ itemD s.data.toList = some (kx, v))) ∧ Below w.heap.size w w' := by
  have hs9 : (s.size : Int) ≤ 140737488351232 := by omega
  have hs8 := hid hs
  have hB0 := hid ((Below.refl w.heap.size w).alloc (Nat.le_refl _) (.cells #[.string ⟨#[]⟩, .int .i64 0, .int .i64 0, .string ⟨#[]⟩] 70))
  have kr0 := hid (Blk.new w 70 #[.string ⟨#[]⟩, .int .i64 0, .int .i64 0, .string ⟨#[]⟩])
  have hE := hid (he.below hB0.out)
  clear hs he
  go_enter Tryz.func62, Tryz.ntmps62
  go_upto_region 1 with fail
  generalize w.alloc (.cells #[.string ⟨#[]⟩, .int .i64 0, .int .i64 0, .string ⟨#[]⟩] 70) = w1 at *
  go_wp2_with fail
  go_loopw [4] (fun v wr => ∃ k : Nat, v = .int .i64 k ∧ k ≤ s.size ∧ (32 : UInt8) ∉ s.data.toList.take k ∧ Below w1.heap.size w1 wr) (fun v _ => s.size - (intOf v).toNat)
  case atStart => exact ⟨0, rfl, Nat.zero_le _, by simp, Below.refl _ _⟩
  case round =>
    obtain ⟨k, rfl, hks, hno0, hb0⟩ := hrel
    have hno := hid hno0
    have hb := hid hb0
    have kr := hid (kr0.out.below_all hb0)
    have hB := hid (hB0.out.trans (hb0.mono hB0.out.size))
    clear hno0 hb0
    by_cases hlt : k < s.size
    · have i1 : (k : Int) < (s.size : Int) := by omega
      have i2 : IntKind.i64.wrap ((k : Int) + 1) = (k : Int) + 1 := by rw [IntKind.wrap_i64]; omega
      have i3 : (k : Int) + 1 ≤ (s.size : Int) := by omega
      have i4 : k + 1 ≤ s.size := hlt
      have i5 : (k : Int) ≤ (s.size : Int) := by omega
      by_cases h32 : s.data[k]'hlt = 32
      · have b1 : (s[k]'hlt).toNat = 32 := byte_eq (hk := hlt) h32
        have b2 : (((s[k]'hlt).toNat : Int) == 32) = true := by rw [b1]; rfl
        have hcut := hid (cut_at hlt hno.out h32)
        have hpa := hid (rparse_any (s.extract (k + 1) s.size) wr (by rw [ByteArray.size_extract]; have := hs8.out; omega) (hE.out.below hb.out))
        have hpl : (s.extract (k + 1) s.size).data.toList = s.data.toList.drop (k + 1) := by rw [ext_drop]
        rw [hpl] at hpa
        have hks : Hid ((s.extract 0 k).size ≤ 9223372036854775806) := hid (by rw [ByteArray.size_extract]; have := hs8.out; omega)
        have hIP : Hid (itemP s.data.toList = if (parseL (s.data.toList.drop (k + 1))).e = 0 then some (s.extract 0 k, (parseL (s.data.toList.drop (k + 1))).v) else none) := hid (by
          unfold itemP
          rw [hcut.out]
          simp only
          rw [ext_take])
        generalize parseL (s.data.toList.drop (k + 1)) = P at *
        clear h32 hpl hcut
        go_wp2_with fail
        refine hpa.out.mono ?_
        rintro e w2 ⟨rfl, hb0⟩
        have hB2 := hid (hB.out.trans (hb0.mono hB.out.size))
        have hB3 := hid (hB2.out.alloc hB2.out.size (.cells #[.int .i64 P.v.k, .int .i64 P.v.n, .string P.v.s] 38))
        have kr := hid ((kr.out.below_all hb0).alloc (.cells #[.int .i64 P.v.k, .int .i64 P.v.n, .string P.v.s] 38))
        have kv := hid (Blk.new w2 38 #[.int .i64 P.v.k, .int .i64 P.v.n, .string P.v.s])
        have hB2s := hid (show w.heap.size < w2.heap.size by have := hb0.size; have := hB.out.size; have := kr0.out.lt; have := hb.out.size; omega)
        clear hb0 hpa
        go_upto_region 6 with fail
        generalize w2.alloc (.cells #[.int .i64 P.v.k, .int .i64 P.v.n, .string P.v.s] 38) = w3 at *
        generalize w2.heap.size = m2 at *
        have hm2 : Hid (m2 ≠ w.heap.size) := hid (by have := hB2s.out; omega)
        by_cases he0 : P.e = 0
        · have t0 : (P.e == 0) = true := by simpa using he0
          have hID : Hid (itemD s.data.toList = if validK (s.extract 0 k) = true then some (s.extract 0 k, P.v) else none) := hid (by unfold itemD; rw [hIP.out, if_pos he0])
          clear he0 hIP
          refine wp_region_held_drew (S := fun w' => w'.cell? ⟨m2, 0, none⟩ = some (.int .i64 P.v.k) ∧ w'.cell? ⟨m2, 1, none⟩ = some (.int .i64 P.v.n) ∧ w'.cell? ⟨m2, 2, none⟩ = some (.string P.v.s)) (by kernel_rfl) ?_ (fun hHeld => ?_)
          · exact ⟨kv.out.drew.cell 0, kv.out.drew.cell 1, kv.out.drew.cell 2⟩
          have hbd := hid ((Below.refl w3.heap.size w3).drew)
          have kz := hid (kr.out.drew)
          have kvd := hid (kv.out.drew)
          generalize World.drew w3 = wd at *
          have z0 := kz.out.cell 0
          have z1 := kz.out.cell 1
          have z2 := kz.out.cell 2
          have z3 := kz.out.cell 3
          simp only [List.getElem?_toArray, List.getElem?_cons_zero, List.getElem?_cons_succ] at z0 z1 z2 z3
          have fz := fun q => kz.out.frozen q
          refine wpAnyH_take (i := 0) (v := ?v1) rfl (by kernel_rfl) (by kernel_rfl) (by kernel_rfl) (fun _ _ _ h => h) (Or.inl ⟨by rfl, ?hy1⟩) (by assumption) ?rest1
          case hy1 => intro w' hSw; (try dsimp only at hSw); go_simp; try with_reducible rfl
          (try simp only [Act.put, List.setIfInBounds_toArray, List.set_cons_zero, List.set_cons_succ, List.getElem_toArray, List.getElem_cons_zero, List.getElem_cons_succ])
          refine wpAnyH_take (i := 1) (v := ?v2) rfl (by kernel_rfl) (by kernel_rfl) (by kernel_rfl) (fun _ _ _ h => h) (Or.inl ⟨by rfl, ?hy2⟩) (by assumption) ?rest2
          case hy2 => intro w' hSw; (try dsimp only at hSw); go_simp; try with_reducible rfl
          (try simp only [Act.put, List.setIfInBounds_toArray, List.set_cons_zero, List.set_cons_succ, List.getElem_toArray, List.getElem_cons_zero, List.getElem_cons_succ])
          refine wpAnyH_take (i := 2) (v := ?v3) rfl (by kernel_rfl) (by kernel_rfl) (by kernel_rfl) (fun _ _ _ h => h) (Or.inl ⟨by rfl, ?hy3⟩) (by assumption) ?rest3
          case hy3 => intro w' hSw; (try dsimp only at hSw); go_simp; try with_reducible rfl
          (try simp only [Act.put, List.setIfInBounds_toArray, List.set_cons_zero, List.set_cons_succ, List.getElem_toArray, List.getElem_cons_zero, List.getElem_cons_succ])
          refine wpAnyH_take (i := 3) (v := ?v4) rfl (by kernel_rfl) (by kernel_rfl) (by kernel_rfl) (fun _ _ _ h => h) (Or.inl ⟨by rfl, ?hy4⟩) (by assumption) ?rest4
          case hy4 => intro w' hSw; obtain ⟨q0, q1, q2⟩ := hSw; (try dsimp only at hSw); go_simp; try with_reducible rfl
          (try simp only [Act.put, List.setIfInBounds_toArray, List.set_cons_zero, List.set_cons_succ, List.getElem_toArray, List.getElem_cons_zero, List.getElem_cons_succ])
          refine wpAnyH_take (i := 4) (v := ?v5) rfl (by kernel_rfl) (by kernel_rfl) (by kernel_rfl) (fun _ _ _ h => h) (Or.inl ⟨by rfl, ?hy5⟩) (by assumption) ?rest5
          case hy5 => intro w' hSw; (try dsimp only at hSw); go_simp; try with_reducible rfl
          (try simp only [Act.put, List.setIfInBounds_toArray, List.set_cons_zero, List.set_cons_succ, List.getElem_toArray, List.getElem_cons_zero, List.getElem_cons_succ])
          refine wpAnyH_take (i := 5) (v := ?v6) rfl (by kernel_rfl) (by kernel_rfl) (by kernel_rfl) (fun _ _ _ h => h) (Or.inl ⟨by rfl, ?hy6⟩) (by assumption) ?rest6
          case hy6 => intro w' hSw; (try dsimp only at hSw); go_simp; try with_reducible rfl
          (try simp only [Act.put, List.setIfInBounds_toArray, List.set_cons_zero, List.set_cons_succ, List.getElem_toArray, List.getElem_cons_zero, List.getElem_cons_succ])
          refine wpAnyH_take (i := 6) (v := ?v7) rfl (by kernel_rfl) (by kernel_rfl) (by kernel_rfl) (fun _ _ _ h => h) (Or.inl ⟨by rfl, ?hy7⟩) (by assumption) ?rest7
          case hy7 => intro w' hSw; (try dsimp only at hSw); go_simp; try with_reducible rfl
          (try simp only [Act.put, List.setIfInBounds_toArray, List.set_cons_zero, List.set_cons_succ, List.getElem_toArray, List.getElem_cons_zero, List.getElem_cons_succ])
          refine wpAnyH_take (i := 7) (v := ?v8) rfl (by kernel_rfl) (by kernel_rfl) (by kernel_rfl) (fun _ _ _ h => h) (Or.inl ⟨by rfl, ?hy8⟩) (by assumption) ?rest8
          case hy8 => intro w' hSw; (try dsimp only at hSw); go_simp; try with_reducible rfl
          (try simp only [Act.put, List.setIfInBounds_toArray, List.set_cons_zero, List.set_cons_succ, List.getElem_toArray, List.getElem_cons_zero, List.getElem_cons_succ])
          refine wpAnyH_take (i := 8) (v := ?v9) rfl (by kernel_rfl) (by kernel_rfl) (by kernel_rfl) (fun _ _ _ h => h) (Or.inl ⟨by rfl, ?hy9⟩) (by assumption) ?rest9
          case hy9 => intro w' hSw; (try dsimp only at hSw); go_simp; try with_reducible rfl
          (try simp only [Act.put, List.setIfInBounds_toArray, List.set_cons_zero, List.set_cons_succ, List.getElem_toArray, List.getElem_cons_zero, List.getElem_cons_succ])
          refine wpAnyH_take (i := 9) (v := ?v10) rfl (by kernel_rfl) (by kernel_rfl) (by kernel_rfl) (fun _ _ _ h => h) (Or.inl ⟨by rfl, ?hy10⟩) (by assumption) ?rest10
          case hy10 => intro w' hSw; (try dsimp only at hSw); go_simp; try with_reducible rfl
          (try simp only [Act.put, List.setIfInBounds_toArray, List.set_cons_zero, List.set_cons_succ, List.getElem_toArray, List.getElem_cons_zero, List.getElem_cons_succ])
          refine wpAnyH_take (i := 10) (v := ?v11) rfl (by kernel_rfl) (by kernel_rfl) (by kernel_rfl) (fun _ _ _ h => h) (Or.inl ⟨by rfl, ?hy11⟩) (by assumption) ?rest11
          case hy11 => intro w' hSw; (try dsimp only at hSw); go_simp; try with_reducible rfl
          (try simp only [Act.put, List.setIfInBounds_toArray, List.set_cons_zero, List.set_cons_succ, List.getElem_toArray, List.getElem_cons_zero, List.getElem_cons_succ])
          refine wpAnyH_ready (rs := [11]) (by kernel_rfl) (by simp) ?_
          refine AllReadyH.cons rfl (fun K hK => ?_) AllReadyH.nil
          rw [if_pos (by rfl)]
          go_simp
          refine (rvalidk_any _ _ hks.out).mono ?_
          rintro e wq ⟨rfl, hwq⟩
          obtain rfl := hwq.symm
          refine hK.out _ _ ?_ (fun hHeld => ?_)
          · exact hHeld
          clear hK K
          (try simp only [Act.put, List.setIfInBounds_toArray, List.set_cons_zero, List.set_cons_succ, List.getElem_toArray, List.getElem_cons_zero, List.getElem_cons_succ])
          refine wpAnyH_take (i := 12) (v := ?v12) rfl (by kernel_rfl) (by kernel_rfl) (by kernel_rfl) (fun _ _ _ h => h) (Or.inl ⟨by rfl, ?hy12⟩) (by assumption) ?rest12
          case hy12 => intro w' hSw; (try dsimp only at hSw); go_simp; try with_reducible rfl
          (try simp only [Act.put, List.setIfInBounds_toArray, List.set_cons_zero, List.set_cons_succ, List.getElem_toArray, List.getElem_cons_zero, List.getElem_cons_succ])
          refine wpAnyH_ready (rs := [13]) (by kernel_rfl) (by simp) ?_
          refine AllReadyH.cons rfl (fun K hK => ?_) AllReadyH.nil
          go_simp
          have hU : Upd (fun q => q = w.heap.size) wd ((((wd.setCell ⟨w.heap.size, 0, none⟩ (.string (s.extract 0 k))).setCell ⟨w.heap.size, 1, none⟩ (.int .i64 P.v.k)).setCell ⟨w.heap.size, 2, none⟩ (.int .i64 P.v.n)).setCell ⟨w.heap.size, 3, none⟩ (.string P.v.s)) := ((((Upd.refl (fun q => q = w.heap.size) wd).setCell (p := ⟨w.heap.size, 0, none⟩) (fun _ => rfl) _).setCell (p := ⟨w.heap.size, 1, none⟩) (fun _ => rfl) _).setCell (p := ⟨w.heap.size, 2, none⟩) (fun _ => rfl) _).setCell (p := ⟨w.heap.size, 3, none⟩) (fun _ => rfl) _
          have kv4 := kvd.out.upd hU hm2.out
          refine hK.out _ _ ?_ (fun hHeld => ?_)
          · exact ⟨kv4.cell 0, kv4.cell 1, kv4.cell 2⟩
          clear hK K
          (try simp only [Act.put, List.setIfInBounds_toArray, List.set_cons_zero, List.set_cons_succ, List.getElem_toArray, List.getElem_cons_zero, List.getElem_cons_succ])
          refine wpAnyH_take (i := 14) (v := ?v13) rfl (by kernel_rfl) (by kernel_rfl) (by kernel_rfl) (fun _ _ _ h => h) (Or.inl ⟨by rfl, ?hy13⟩) (by assumption) ?rest13
          case hy13 => intro w' hSw; (try dsimp only at hSw); go_simp; try with_reducible rfl
          (try simp only [Act.put, List.setIfInBounds_toArray, List.set_cons_zero, List.set_cons_succ, List.getElem_toArray, List.getElem_cons_zero, List.getElem_cons_succ])
          refine wpAnyH_done (by kernel_rfl) ?_ _
          go_wp2_with fail
          refine bodyPost_ret (v := .tuple #[.agg #[.string (s.extract 0 k), .int .i64 P.v.k, .int .i64 P.v.n, .string P.v.s], .bool (validK (s.extract 0 k))]) (item_res (n := w.heap.size) (show Blk _ _ _ #[.string (s.extract 0 k), .int .i64 P.v.k, .int .i64 P.v.n, .string P.v.s] from by simpa using (((kz.out.set_ 0 _).set_ 1 _).set_ 2 _).set_ 3 _) rfl rfl) rfl ⟨⟨s.extract 0 k, P.v, ?_, ?_⟩, ?_⟩
          · rw [hID.out]; first | rfl | (cases validK (s.extract 0 k) <;> rfl)
          · rw [hID.out]
            by_cases hvv : validK (s.extract 0 k) = true
            · exact .inr (if_pos hvv)
            · exact .inl (if_neg hvv)
          · exact (hB3.out.trans (hbd.out.mono hB3.out.size)).trans (hU.below (B := w.heap.size) (by have := hB3.out.size; have := hbd.out.size; omega) fun q hq e => by omega)
        · have t0 : (P.e == 0) = false := by simpa using he0
          have hID : Hid (itemD s.data.toList = none) := hid (by unfold itemD; rw [hIP.out, if_neg he0])
          clear he0 hIP
          refine wp_region_held_drew (S := fun w' => w'.cell? ⟨m2, 0, none⟩ = some (.int .i64 P.v.k) ∧ w'.cell? ⟨m2, 1, none⟩ = some (.int .i64 P.v.n) ∧ w'.cell? ⟨m2, 2, none⟩ = some (.string P.v.s)) (by kernel_rfl) ?_ (fun hHeld => ?_)
          · exact ⟨kv.out.drew.cell 0, kv.out.drew.cell 1, kv.out.drew.cell 2⟩
          have hbd := hid ((Below.refl w3.heap.size w3).drew)
          have kz := hid (kr.out.drew)
          have kvd := hid (kv.out.drew)
          generalize World.drew w3 = wd at *
          have z0 := kz.out.cell 0
          have z1 := kz.out.cell 1
          have z2 := kz.out.cell 2
          have z3 := kz.out.cell 3
          simp only [List.getElem?_toArray, List.getElem?_cons_zero, List.getElem?_cons_succ] at z0 z1 z2 z3
          have fz := fun q => kz.out.frozen q
          refine wpAnyH_take (i := 0) (v := ?v14) rfl (by kernel_rfl) (by kernel_rfl) (by kernel_rfl) (fun _ _ _ h => h) (Or.inl ⟨by rfl, ?hy14⟩) (by assumption) ?rest14
          case hy14 => intro w' hSw; (try dsimp only at hSw); go_simp; try with_reducible rfl
          (try simp only [Act.put, List.setIfInBounds_toArray, List.set_cons_zero, List.set_cons_succ, List.getElem_toArray, List.getElem_cons_zero, List.getElem_cons_succ])
          refine wpAnyH_take (i := 1) (v := ?v15) rfl (by kernel_rfl) (by kernel_rfl) (by kernel_rfl) (fun _ _ _ h => h) (Or.inl ⟨by rfl, ?hy15⟩) (by assumption) ?rest15
          case hy15 => intro w' hSw; (try dsimp only at hSw); go_simp; try with_reducible rfl
          (try simp only [Act.put, List.setIfInBounds_toArray, List.set_cons_zero, List.set_cons_succ, List.getElem_toArray, List.getElem_cons_zero, List.getElem_cons_succ])
          refine wpAnyH_take (i := 2) (v := ?v16) rfl (by kernel_rfl) (by kernel_rfl) (by kernel_rfl) (fun _ _ _ h => h) (Or.inl ⟨by rfl, ?hy16⟩) (by assumption) ?rest16
          case hy16 => intro w' hSw; (try dsimp only at hSw); go_simp; try with_reducible rfl
          (try simp only [Act.put, List.setIfInBounds_toArray, List.set_cons_zero, List.set_cons_succ, List.getElem_toArray, List.getElem_cons_zero, List.getElem_cons_succ])
          refine wpAnyH_take (i := 3) (v := ?v17) rfl (by kernel_rfl) (by kernel_rfl) (by kernel_rfl) (fun _ _ _ h => h) (Or.inl ⟨by rfl, ?hy17⟩) (by assumption) ?rest17
          case hy17 => intro w' hSw; obtain ⟨q0, q1, q2⟩ := hSw; (try dsimp only at hSw); go_simp; try with_reducible rfl
          (try simp only [Act.put, List.setIfInBounds_toArray, List.set_cons_zero, List.set_cons_succ, List.getElem_toArray, List.getElem_cons_zero, List.getElem_cons_succ])
          refine wpAnyH_take (i := 4) (v := ?v18) rfl (by kernel_rfl) (by kernel_rfl) (by kernel_rfl) (fun _ _ _ h => h) (Or.inl ⟨by rfl, ?hy18⟩) (by assumption) ?rest18
          case hy18 => intro w' hSw; (try dsimp only at hSw); go_simp; try with_reducible rfl
          (try simp only [Act.put, List.setIfInBounds_toArray, List.set_cons_zero, List.set_cons_succ, List.getElem_toArray, List.getElem_cons_zero, List.getElem_cons_succ])
          refine wpAnyH_take (i := 5) (v := ?v19) rfl (by kernel_rfl) (by kernel_rfl) (by kernel_rfl) (fun _ _ _ h => h) (Or.inl ⟨by rfl, ?hy19⟩) (by assumption) ?rest19
          case hy19 => intro w' hSw; (try dsimp only at hSw); go_simp; try with_reducible rfl
          (try simp only [Act.put, List.setIfInBounds_toArray, List.set_cons_zero, List.set_cons_succ, List.getElem_toArray, List.getElem_cons_zero, List.getElem_cons_succ])
          refine wpAnyH_take (i := 6) (v := ?v20) rfl (by kernel_rfl) (by kernel_rfl) (by kernel_rfl) (fun _ _ _ h => h) (Or.inl ⟨by rfl, ?hy20⟩) (by assumption) ?rest20
          case hy20 => intro w' hSw; (try dsimp only at hSw); go_simp; try with_reducible rfl
          (try simp only [Act.put, List.setIfInBounds_toArray, List.set_cons_zero, List.set_cons_succ, List.getElem_toArray, List.getElem_cons_zero, List.getElem_cons_succ])
          refine wpAnyH_take (i := 7) (v := ?v21) rfl (by kernel_rfl) (by kernel_rfl) (by kernel_rfl) (fun _ _ _ h => h) (Or.inl ⟨by rfl, ?hy21⟩) (by assumption) ?rest21
          case hy21 => intro w' hSw; (try dsimp only at hSw); go_simp; try with_reducible rfl
          (try simp only [Act.put, List.setIfInBounds_toArray, List.set_cons_zero, List.set_cons_succ, List.getElem_toArray, List.getElem_cons_zero, List.getElem_cons_succ])
          refine wpAnyH_take (i := 8) (v := undef) rfl (by kernel_rfl) (by kernel_rfl) (by kernel_rfl) (fun _ _ _ h => h) (Or.inr ⟨by rfl, rfl⟩) (by assumption) ?_
          (try simp only [Act.put, List.setIfInBounds_toArray, List.set_cons_zero, List.set_cons_succ, List.getElem_toArray, List.getElem_cons_zero, List.getElem_cons_succ])
          refine wpAnyH_take (i := 9) (v := undef) rfl (by kernel_rfl) (by kernel_rfl) (by kernel_rfl) (fun _ _ _ h => h) (Or.inr ⟨by rfl, rfl⟩) (by assumption) ?_
          (try simp only [Act.put, List.setIfInBounds_toArray, List.set_cons_zero, List.set_cons_succ, List.getElem_toArray, List.getElem_cons_zero, List.getElem_cons_succ])
          refine wpAnyH_take (i := 10) (v := undef) rfl (by kernel_rfl) (by kernel_rfl) (by kernel_rfl) (fun _ _ _ h => h) (Or.inr ⟨by rfl, rfl⟩) (by assumption) ?_
          (try simp only [Act.put, List.setIfInBounds_toArray, List.set_cons_zero, List.set_cons_succ, List.getElem_toArray, List.getElem_cons_zero, List.getElem_cons_succ])
          refine wpAnyH_take (i := 11) (v := undef) rfl (by kernel_rfl) (by kernel_rfl) (by kernel_rfl) (fun _ _ _ h => h) (Or.inr ⟨by rfl, rfl⟩) (by assumption) ?_
          (try simp only [Act.put, List.setIfInBounds_toArray, List.set_cons_zero, List.set_cons_succ, List.getElem_toArray, List.getElem_cons_zero, List.getElem_cons_succ])
          refine wpAnyH_take (i := 12) (v := ?v22) rfl (by kernel_rfl) (by kernel_rfl) (by kernel_rfl) (fun _ _ _ h => h) (Or.inl ⟨by rfl, ?hy22⟩) (by assumption) ?rest22
          case hy22 => intro w' hSw; (try dsimp only at hSw); go_simp; try with_reducible rfl
          (try simp only [Act.put, List.setIfInBounds_toArray, List.set_cons_zero, List.set_cons_succ, List.getElem_toArray, List.getElem_cons_zero, List.getElem_cons_succ])
          refine wpAnyH_ready (rs := [13]) (by kernel_rfl) (by simp) ?_
          refine AllReadyH.cons rfl (fun K hK => ?_) AllReadyH.nil
          go_simp
          have hU : Upd (fun q => q = w.heap.size) wd ((((wd.setCell ⟨w.heap.size, 0, none⟩ (.string (s.extract 0 k))).setCell ⟨w.heap.size, 1, none⟩ (.int .i64 P.v.k)).setCell ⟨w.heap.size, 2, none⟩ (.int .i64 P.v.n)).setCell ⟨w.heap.size, 3, none⟩ (.string P.v.s)) := ((((Upd.refl (fun q => q = w.heap.size) wd).setCell (p := ⟨w.heap.size, 0, none⟩) (fun _ => rfl) _).setCell (p := ⟨w.heap.size, 1, none⟩) (fun _ => rfl) _).setCell (p := ⟨w.heap.size, 2, none⟩) (fun _ => rfl) _).setCell (p := ⟨w.heap.size, 3, none⟩) (fun _ => rfl) _
          have kv4 := kvd.out.upd hU hm2.out
          refine hK.out _ _ ?_ (fun hHeld => ?_)
          · exact ⟨kv4.cell 0, kv4.cell 1, kv4.cell 2⟩
          clear hK K
          (try simp only [Act.put, List.setIfInBounds_toArray, List.set_cons_zero, List.set_cons_succ, List.getElem_toArray, List.getElem_cons_zero, List.getElem_cons_succ])
          refine wpAnyH_take (i := 14) (v := ?v23) rfl (by kernel_rfl) (by kernel_rfl) (by kernel_rfl) (fun _ _ _ h => h) (Or.inl ⟨by rfl, ?hy23⟩) (by assumption) ?rest23
          case hy23 => intro w' hSw; (try dsimp only at hSw); go_simp; try with_reducible rfl
          (try simp only [Act.put, List.setIfInBounds_toArray, List.set_cons_zero, List.set_cons_succ, List.getElem_toArray, List.getElem_cons_zero, List.getElem_cons_succ])
          refine wpAnyH_done (by kernel_rfl) ?_ _
          go_wp2_with fail
          refine bodyPost_ret (v := .tuple #[.agg #[.string (s.extract 0 k), .int .i64 P.v.k, .int .i64 P.v.n, .string P.v.s], .bool (false)]) (item_res (n := w.heap.size) (show Blk _ _ _ #[.string (s.extract 0 k), .int .i64 P.v.k, .int .i64 P.v.n, .string P.v.s] from by simpa using (((kz.out.set_ 0 _).set_ 1 _).set_ 2 _).set_ 3 _) rfl rfl) rfl ⟨⟨s.extract 0 k, P.v, ?_, ?_⟩, ?_⟩
          · rw [hID.out]; first | rfl | (cases validK (s.extract 0 k) <;> rfl)
          · rw [hID.out]
            exact .inl rfl
  
  
          · exact (hB3.out.trans (hbd.out.mono hB3.out.size)).trans (hU.below (B := w.heap.size) (by have := hB3.out.size; have := hbd.out.size; omega) fun q hq e => by omega)
      · have b1 : (s[k]'hlt).toNat ≠ 32 := byte_ne (hk := hlt) h32
        have b2 : (((s[k]'hlt).toNat : Int) == 32) = false := by simp; omega
        have hn2 := hid (take_not hlt hno.out h32)
        have hltH := hid hlt
        clear h32 b1 hks i3 i4 hB kr
        go_wp2_with fail
        go_roundw
        case rel => exact ⟨k + 1, by go_num, hltH.out, hn2.out, hb.out⟩
        case measure => simp [intOf]; have := hltH.out; omega
    · obtain rfl : k = s.size := by omega
      have hfin := hid (itemD_none (by
        have h := hno.out
        rw [List.take_of_length_le (by rw [size_list]; exact Nat.le_refl _)] at h
        exact h))
      clear hlt hks
      have z0 := kr.out.cell 0
      have z1 := kr.out.cell 1
      have z2 := kr.out.cell 2
      have z3 := kr.out.cell 3
      simp only [List.getElem?_toArray, List.getElem?_cons_zero, List.getElem?_cons_succ] at z0 z1 z2 z3
      have fz := fun q => kr.out.frozen q
      go_wp2_with fail
      refine bodyPost_ret (v := .tuple #[.agg #[.string ⟨#[]⟩, .int .i64 0, .int .i64 0, .string ⟨#[]⟩], .bool false]) (item_res (n := w.heap.size) (show Blk _ _ _ #[.string ⟨#[]⟩, .int .i64 0, .int .i64 0, .string ⟨#[]⟩] from by simpa using (((kr.out.set_ 0 _).set_ 1 _).set_ 2 _).set_ 3 _) rfl rfl) rfl ⟨⟨⟨#[]⟩, vl0, by rw [hfin.out]; rfl, .inl hfin.out⟩, ?_⟩
      exact (((hB.out.setCell (p := ⟨w.heap.size, 0, none⟩) (Nat.le_refl _) _).setCell (p := ⟨w.heap.size, 1, none⟩) (Nat.le_refl _) _).setCell (p := ⟨w.heap.size, 2, none⟩) (Nat.le_refl _) _).setCell (p := ⟨w.heap.size, 3, none⟩) (Nat.le_refl _) _
end Go.Proofs.YtphglnenafdkaaaGreatDoor

namespace Go.Proofs.YtphglnenafdkaaaGreatDoor
open Go.RowKit
set_option linter.unusedVariables false

theorem SActs.all {S : Nat → Prop} {w : World} {A : Option Addr} {us : List SA} (h : SActs S w A us) : SActs (fun b => b < w.heap.size) w A us := ⟨h.row.all, fun a ha => ⟨(h.ok a ha).1.all, (h.ok a ha).2.all⟩⟩
def okKs (ks : List ByteArray) : Prop := ∀ k ∈ ks, k.size ≤ 9223372036854775806
def okWs (ws : List Wr) : Prop := ∀ x ∈ ws, x.key.size ≤ 9223372036854775806 ∧ x.v.s.size ≤ 9223372036854775806
section
variable {w w' : World} {B : Nat}
theorem cell_bel {b o : Nat} {v : Value} (h : Below B w w') (hb : b < B) (hc : w.cell? ⟨b, o, none⟩ = some v) : w'.cell? ⟨b, o, none⟩ = some v := (Upd.of_below (M := fun j => B ≤ j) h fun _ _ h => h).cell hc (by omega)
end
end Go.Proofs.YtphglnenafdkaaaGreatDoor

namespace Go.Proofs.YtphglnenafdkaaaGreatDoor
open Go.RowKit
set_option linter.unusedVariables false
set_option linter.unusedSimpArgs false

def strLen : Value → Nat
  | .string s => s.size
  | _ => 0
theorem rnew_blk (p r : Nat) (w : World) (hp : 1 ≤ p ∧ p ≤ 64) (hr : 1 ≤ r ∧ r ≤ 4096) : Calls Tryz.prog 15 #[.int .i64 p, .int .i64 r] w fun e w' => e = .returned (.tuple #[.pointer (some ⟨w.heap.size, 0, none⟩), .int .i64 0]) ∧ w' = w.alloc (.cells #[.int .i64 p, .int .i64 r, .slice none 0 0] 94) := by
  have t1 : decide ((p : Int) < 1) = false := decide_eq_false (by omega)
  have t2 : decide (64 < (p : Int)) = false := decide_eq_false (by omega)
  have t3 : decide ((r : Int) < 1) = false := decide_eq_false (by omega)
  have t4 : decide (4096 < (r : Int)) = false := decide_eq_false (by omega)
  have t2n : decide (64 < p) = false := decide_eq_false (by omega)
  have t4n : decide (4096 < r) = false := decide_eq_false (by omega)
  clear hp hr
  go_enter Tryz.func15, Tryz.ntmps15
  go_wp2_with fail
  go_ret2
  exact ⟨rfl, rfl⟩
/-- the document's store while it is read -/
structure RLd (w wr : World) (g nb p q : Nat) (acc : List Kv) (A : Option Addr) (c : Nat) : Prop where
  blk : Blk wr g 94 #[.int .i64 p, .int .i64 q, .slice A acc.length c]
  own : wr.ownsRow w.heap.size 70 4 (.slice A acc.length c) acc.length (kvCells acc)
  arr : IArr wr nb p (fun t => cntP p t acc)
  good : Goodly p q acc
  vals : ∀ x ∈ acc, x.2.ok = true ∧ x.2.rng
  ge : w.heap.size ≤ g ∧ w.heap.size ≤ nb ∧ g ≠ nb
  bel : Below w.heap.size w wr
theorem goodly_ok {p q : Nat} (hp : 1 ≤ p ∧ p ≤ 64) (hq : 1 ≤ q ∧ q ≤ 4096) {acc : List Kv} (h : Goodly p q acc) (hv : ∀ x ∈ acc, x.2.ok = true ∧ x.2.rng) : St.Ok ⟨p, q, acc⟩ := ⟨hp, hq, h.asc, h.key, fun x hx => (hv x hx).1, h.cnt⟩
theorem RLd.below {w wr w' : World} {g nb p q c : Nat} {acc : List Kv} {A : Option Addr} (h : RLd w wr g nb p q acc A c) (hb : Below wr.heap.size wr w') : RLd w w' g nb p q acc A c :=
  ⟨h.blk.below_all hb, own_below h.own hb, h.arr.below hb, h.good, h.vals, h.ge, h.bel.trans (hb.mono h.bel.size)⟩
theorem own_ne {w : World} {base g size n : Nat} {e t : TypeId} {v : Value} {xs : List Value} {cs : Array Value} (h : w.ownsRow base e size v n xs) (hb : Blk w g t cs) (hne : e ≠ t) : ∀ q, v.ownBlock = some q → q ≠ g := fun q hq e => by
  rcases h.2 with ⟨e1, _⟩ | ⟨b2, cap, cur, e1, _, hh, _⟩
  · rw [e1] at hq; cases hq
  · rw [e1] at hq
    injection hq with hq
    have hq2 : b2 = q := hq
    rw [hq2, e] at hh
    have := hb
    unfold Blk at this
    rw [hh] at this
    injection this with this
    injection this with _ e3 _
    exact absurd e3 hne
theorem own_keepL {w w' : World} {base : Nat} {e : TypeId} {size n : Nat} {v : Value} {xs : List Value} (h : w.ownsRow base e size v n xs) (hk : ∀ q, v.ownBlock = some q → w'.heap[q]? = w.heap[q]?) : w'.ownsRow base e size v n xs := by
  obtain ⟨h1, h2⟩ := h
  refine ⟨h1, ?_⟩
  rcases h2 with h0 | ⟨q, cap, cur, hv, hb, hh, hr⟩
  · exact .inl h0
  · subst hv
    exact .inr ⟨q, cap, cur, rfl, hb, (hk q rfl).trans hh, hr⟩
theorem RLd.rat {w wr : World} {g nb p q c : Nat} {acc : List Kv} {A : Option Addr} (h : RLd w wr g nb p q acc A c) (hp : 1 ≤ p ∧ p ≤ 64) (hq : 1 ≤ q ∧ q ≤ 4096) : RAt (fun j => w.heap.size ≤ j ∧ j < wr.heap.size) wr g ⟨p, q, acc⟩ := by
  refine ⟨A, c, h.blk, ?_, ?_, ⟨h.ge.1, h.blk.lt⟩, fun j hj => hj.2, goodly_ok hp hq h.good h.vals⟩
  · exact (Rd.of_own h.own).more fun b hb hl => ⟨⟨(h.own.lt b hb.symm).1, hl⟩, own_ne h.own h.blk (by decide) b hb.symm⟩
  · obtain ⟨A3, c3, e, f1, f2⟩ := own_form h.own
    injection e with e1 e2 e3
    subst e1 e3
    rcases h.own.2 with ⟨e, h0⟩ | ⟨q, cap, cur, e, _⟩
    · injection e with e1 e2 e3
      subst e1 e3
      exact .inl ⟨rfl, h0, rfl⟩
    · injection e with e1 e2 e3
      exact .inr ⟨⟨q, 0, e1⟩, f1, f2⟩
/-- what Load of the document leaves -/
def loadR (w : World) : Option St → Ending → World → Prop
  | none, e, w' => e = .returned (.tuple #[.pointer none, .int .i64 42]) ∧ Below w.heap.size w w'
  | some x, e, w' => ∃ S g, e = .returned (.tuple #[.pointer (some ⟨g, 0, none⟩), .int .i64 0]) ∧ RAt S w' g x ∧ (∀ j, S j → w.heap.size ≤ j) ∧ Below w.heap.size w w'
theorem numH_rng {l : List UInt8} {p : Nat} {r : List UInt8} (h : numH l = some (p, r)) : 1 ≤ p ∧ p ≤ 4096 ∧ r.length ≤ l.length := by
  unfold numH at h
  rcases nl_cases l with h1 | ⟨a, r', h1, h2⟩
  · rw [lnL_none h1] at h; cases h
  · rw [h2, lnL_some r' h1] at h
    simp only at h
    split at h
    · rename_i hc
      injection h with h
      injection h with e1 e2
      rw [← e1, ← e2, h2]
      simp
      omega
    · cases h
theorem lnL_len {l a r : List UInt8} (h : lnL l = some (a, r)) : a.length + r.length + 1 = l.length := by
  rcases nl_cases l with h1 | ⟨a', r', h1, h2⟩
  · rw [lnL_none h1] at h; cases h
  · rw [h2, lnL_some r' h1] at h
    injection h with h
    injection h with e1 e2
    rw [h2, ← e1, ← e2]
    simp
    omega
end Go.Proofs.YtphglnenafdkaaaGreatDoor

