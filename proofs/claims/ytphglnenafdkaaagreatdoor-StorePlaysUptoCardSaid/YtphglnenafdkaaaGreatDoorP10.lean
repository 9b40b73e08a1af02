/- Texts of the proof, joined: SOwn, SEq, SLive, SRoom, SPlS, SPlF. -/
import Derived.Test.YtphglnenafdkaaaGreatDoorP08
import Derived.Test.YtphglnenafdkaaaGreatDoorP09
import Derived.Test.YtphglnenafdkaaaGreatDoorP05
import Derived.Test.YtphglnenafdkaaaGreatDoorP07
namespace Go.Proofs.YtphglnenafdkaaaGreatDoor
open Go.RowKit
set_option linter.unusedVariables false
set_option linter.unusedSimpArgs false

theorem info_str4 : (Tryz.prog.info? 9).map (fun i => (i.zero, i.size, i.bytes)) = some (some (.string ⟨#[]⟩), 1, 16) := by kernel_rfl
theorem info_write : (Tryz.prog.info? 40).map (fun i => (i.zero, i.size, i.bytes)) = some (some (.agg #[.string ⟨#[]⟩, .bool false, .int .i64 0, .int .i64 0, .string ⟨#[]⟩]), 5, 56) := by kernel_rfl
theorem strs_one (ks : List ByteArray) : ∀ v ∈ strs ks, v.oneCell' = true := by
  intro v hv
  obtain ⟨x, _, rfl⟩ := List.mem_map.1 hv
  rfl
theorem wrCells_one (ws : List Wr) : ∀ v ∈ wrCells ws, v.oneCell' = true := by
  intro v hv
  obtain ⟨x, _, hx⟩ := List.mem_flatMap.1 hv
  simp only [List.mem_cons, List.not_mem_nil, or_false] at hx
  rcases hx with rfl | rfl | rfl | rfl | rfl <;> rfl
theorem wrCells_len (ws : List Wr) : (wrCells ws).length = ws.length * 5 := by
  unfold wrCells
  induction ws with
  | nil => rfl
  | cons x l ih => rw [List.flatMap_cons, List.length_append, ih]; simp; omega
/-- a row's first n -/
theorem Rd.pre_own {w : World} {base : Nat} {e : TypeId} {size n c : Nat} {A : Option Addr} {xs ys : List Value} (h : w.ownsRow base e size (.slice A (n + 1) c) (n + 1) (xs ++ ys)) (hx : xs.length = n * size) : Rd (fun b => base ≤ b) w size A n xs := by
  have h1 := Rd.of_own' h
  refine ⟨hx, fun hn => ?_⟩
  obtain ⟨b, o, e1, hS, hl, hc⟩ := h1.2 (by omega)
  refine ⟨b, o, e1, hS, hl, fun j u hu => hc j u ?_⟩
  rw [List.getElem?_append_left (List.getElem?_eq_some_iff.1 hu).1]
  exact hu
/-- a row's block is its own -/
def RowT (w : World) (base : Nat) (e : TypeId) (A : Option Addr) : Prop := ∀ g o t, A = some ⟨g, o, t⟩ → base ≤ g ∧ o = 0 ∧ t = none ∧ ∃ cur, Blk w g e cur
section
variable {w w' : World} {base : Nat} {e : TypeId} {A : Option Addr}
theorem RowT.of_own {size n m c : Nat} {xs : List Value} (h : w.ownsRow base e size (.slice A n c) m xs) : RowT w base e A := by
  rcases h.2 with ⟨h1, _⟩ | ⟨g, cap, cur, h1, hb, hg, _⟩
  · injection h1 with h1
    subst h1
    intro g o t h; cases h
  · injection h1 with h1
    subst h1
    intro g o t h
    injection h with h
    injection h with h1 h2 h3
    subst h1 h2 h3
    exact ⟨hb, rfl, rfl, cur, hg⟩
theorem RowT.upd {M : Nat → Prop} (h : RowT w base e A) (hu : Upd M w w') (hM : ∀ g, base ≤ g → ¬ M g) : RowT w' base e A := fun g o t hA => by
  obtain ⟨h1, h2, h3, cur, h4⟩ := h g o t hA
  exact ⟨h1, h2, h3, cur, h4.upd hu (hM g h1)⟩
theorem RowT.set (h : RowT w base e A) {p : Addr} (hp : p.block < base) (u : Value) : RowT (w.setCell p u) base e A := h.upd ((Upd.refl (fun j => j = p.block) w).setCell (p := p) (fun _ => rfl) u) fun g hg e => by omega
theorem RowT.below_all (h : RowT w base e A) (hb : Below w.heap.size w w') : RowT w' base e A := fun g o t hA => by
  obtain ⟨h1, h2, h3, cur, h4⟩ := h g o t hA
  exact ⟨h1, h2, h3, cur, h4.below_all hb⟩
theorem RowT.mono (h : RowT w base e A) {b : Nat} (hb : b ≤ base) : RowT w b e A := fun g o t hA => by
  obtain ⟨h1, h2⟩ := h g o t hA
  exact ⟨Nat.le_trans hb h1, h2⟩
end
section
variable {w w' : World}
set_option maxRecDepth 100000 in
set_option maxHeartbeats 4000000 in
theorem own_anyW {Sx : Nat → Prop} (a : SA) (h : a.ok Sx w) (h1 : a.ks.length ≤ 100000) (h2 : a.ws.length ≤ 100000) : Calls Tryz.prog 16 #[.agg #[.int .i64 a.kind, .slice a.A1 a.ks.length a.c1, .slice a.A2 a.ws.length a.c2]] w fun e w' => ∃ B1 d1 B2 d2, e = .returned (.agg #[.int .i64 a.kind, .slice B1 a.ks.length d1, .slice B2 a.ws.length d2]) ∧ Rd (fun b => w.heap.size ≤ b) w' 1 B1 a.ks.length (strs a.ks) ∧ Rd (fun b => w.heap.size ≤ b) w' 5 B2 a.ws.length (wrCells a.ws) ∧ RowT w' w.heap.size 9 B1 ∧ RowT w' w.heap.size 40 B2 ∧ Below w.heap.size w w' := by
  have hb0 : Below w.heap.size w ((w.alloc (.cells #[.int .i64 a.kind, .slice a.A1 a.ks.length a.c1, .slice a.A2 a.ws.length a.c2] 51)).alloc (.cells #[.int .i64 0, .slice none 0 0, .slice none 0 0] 51)) := below_two _ _
  have k1 : Blk ((w.alloc (.cells #[.int .i64 a.kind, .slice a.A1 a.ks.length a.c1, .slice a.A2 a.ws.length a.c2] 51)).alloc (.cells #[.int .i64 0, .slice none 0 0, .slice none 0 0] 51)) w.heap.size 51 #[.int .i64 a.kind, .slice a.A1 a.ks.length a.c1, .slice a.A2 a.ws.length a.c2] := (Blk.new w _ _).alloc _
  have k2 : Blk ((w.alloc (.cells #[.int .i64 a.kind, .slice a.A1 a.ks.length a.c1, .slice a.A2 a.ws.length a.c2] 51)).alloc (.cells #[.int .i64 0, .slice none 0 0, .slice none 0 0] 51)) (w.heap.size + 1) 51 #[.int .i64 0, .slice none 0 0, .slice none 0 0] := Blk.new' _ _ _ (by simp)
  have hB := hid hb0
  have K1 := hid k1
  have K2 := hid k2
  have hk5 := hid (h.1.all.below_all hb0)
  have hw5 := hid (h.2.all.below_all hb0)
  have hn1 := hid h1
  have hn2 := hid h2
  clear hb0 k1 k2 h h1 h2
  go_enter Tryz.func16, Tryz.ntmps16
  go_upto_region 1 with fail
  generalize (w.alloc (.cells #[.int .i64 a.kind, .slice a.A1 a.ks.length a.c1, .slice a.A2 a.ws.length a.c2] 51)).alloc (.cells #[.int .i64 0, .slice none 0 0, .slice none 0 0] 51) = w5 at *
  generalize hm : w.heap.size = m at *
  go_cut [] (fun wx => ∃ (A3 : Option Addr) (c3 : Nat) (w3 : World), w3.ownsRow w5.heap.size 9 1 (.slice A3 (a.ks.length + 1) c3) (a.ks.length + 1) (strs a.ks ++ #[.string ⟨#[98, 101, 104, 105, 110, 100]⟩].toList) ∧ Below w5.heap.size w5 w3 ∧ wx = w3.setCell ⟨m, 1, none⟩ (.slice A3 a.ks.length c3))
  case first =>
    have hrd := hk5
    have hnb := hn1
    have hone := hid (strs_one a.ks)
    obtain ⟨ip, hip, hp0, hp1, hp2⟩ := info_parts info_str4
    have hkeep : Hid (∀ w', Below w5.heap.size w5 w' → w'.cell? ⟨m, 1, none⟩ = some (.slice a.A1 a.ks.length a.c1)) := hid fun w' h => (K1.out.below_all h).cell 1
    have fq : Hid (∀ w', Below w5.heap.size w5 w' → w'.frozen? ⟨m, 1, none⟩ = false) := hid fun w' h => (K1.out.below_all h).frozen 1
    have hHeld := hkeep.out w5.drew (Below.refl _ _).drew
    refine wp_region_heldE (S := fun w' => w'.cell? ⟨m, 1, none⟩ = some (.slice a.A1 a.ks.length a.c1)) 11 (by kernel_rfl) ?_
    refine wpAnyE_take [2, 3, 5, 9, 10, 11] (i := 1) (v := ?v7) rfl (by kernel_rfl) (by kernel_rfl) (by kernel_rfl) (by rfl) (by kernel_rfl) (by kernel_rfl) (fun _ _ _ h => h) (Or.inl ⟨by rfl, ?hy7⟩) (hHeld) ?rest7
    case hy7 => intro w hSw; (try dsimp only at hSw); go_simp; try with_reducible rfl
    (try simp only [Act.put, List.setIfInBounds_toArray, List.set_cons_zero, List.set_cons_succ, List.getElem_toArray, List.getElem_cons_zero, List.getElem_cons_succ])
    refine wpAnyE_take [3, 5, 9, 10, 11] (i := 2) (v := ?v8) rfl (by kernel_rfl) (by kernel_rfl) (by kernel_rfl) (by rfl) (by kernel_rfl) (by kernel_rfl) (fun _ _ _ h => h) (Or.inl ⟨by rfl, ?hy8⟩) (hHeld) ?rest8
    case hy8 => intro w hSw; (try dsimp only at hSw); go_simp; try with_reducible rfl
    (try simp only [Act.put, List.setIfInBounds_toArray, List.set_cons_zero, List.set_cons_succ, List.getElem_toArray, List.getElem_cons_zero, List.getElem_cons_succ])
    refine wpAnyE_take [7, 8, 9, 10, 11] (i := 6) (v := ?v9) rfl (by kernel_rfl) (by kernel_rfl) (by kernel_rfl) (by rfl) (by kernel_rfl) (by kernel_rfl) (fun _ _ _ h => h) (Or.inl ⟨by rfl, ?hy9⟩) (hHeld) ?rest9
    case hy9 => intro w hSw; (try dsimp only at hSw); go_simp; try with_reducible rfl
    (try simp only [Act.put, List.setIfInBounds_toArray, List.set_cons_zero, List.set_cons_succ, List.getElem_toArray, List.getElem_cons_zero, List.getElem_cons_succ])
    refine wpAnyE_take [8, 9, 10, 11] (i := 7) (v := ?v10) rfl (by kernel_rfl) (by kernel_rfl) (by kernel_rfl) (by rfl) (by kernel_rfl) (by kernel_rfl) (fun _ _ _ h => h) (Or.inl ⟨by rfl, ?hy10⟩) (hHeld) ?rest10
    case hy10 => intro w hSw; (try dsimp only at hSw); go_simp; try with_reducible rfl
    (try simp only [Act.put, List.setIfInBounds_toArray, List.set_cons_zero, List.set_cons_succ, List.getElem_toArray, List.getElem_cons_zero, List.getElem_cons_succ])
    refine wpAnyE_take [9, 10, 11] (i := 8) (v := ?v11) rfl (by kernel_rfl) (by kernel_rfl) (by kernel_rfl) (by rfl) (by kernel_rfl) (by kernel_rfl) (fun _ _ _ h => h) (Or.inl ⟨by rfl, ?hy11⟩) (hHeld) ?rest11
    case hy11 => intro w hSw; (try dsimp only at hSw); go_simp; try with_reducible rfl
    (try simp only [Act.put, List.setIfInBounds_toArray, List.set_cons_zero, List.set_cons_succ, List.getElem_toArray, List.getElem_cons_zero, List.getElem_cons_succ])
    refine wpAnyE_ready (rs := [0, 4]) (by kernel_rfl) (by simp) ?_
    refine AllReadyE.cons rfl (fun K hK => ?_) (AllReadyE.cons rfl (fun K hK => ?_) AllReadyE.nil)
    · go_simp
      refine hK.out _ _ (fun _ => hkeep.out _ (((Below.refl _ w5).alloc (Nat.le_refl _) _).drew)) ?_
      clear hK K
      (try simp only [Act.put, List.setIfInBounds_toArray, List.set_cons_zero, List.set_cons_succ, List.getElem_toArray, List.getElem_cons_zero, List.getElem_cons_succ])
      refine wpAnyE_ready (rs := [3, 4]) (by kernel_rfl) (by simp) ?_
      refine AllReadyE.cons rfl (fun K hK => ?_) (AllReadyE.cons rfl (fun K hK => ?_) AllReadyE.nil)
      · refine step_append_rd _ rfl (.tmp 3) (.tmp 5) 25 rfl w5.heap.size 9 ip _ 1 16 Tryz.underlying25 hip hp0 hp1 hp2 rfl (by omega) (.slice (some ⟨w5.heap.size, 0, none⟩) 0 0) 0 [] rfl ?_ (fun b => b < m) a.A1 a.ks.length a.c1 (strs a.ks) rfl ?_ ?_ ?_ ?_ ?_ a.ks.length (Nat.zero_add _) (strs a.ks) rfl ?_
        · exact (own_empty w5 _ 1).drew
        · exact hrd.out.below_all (((Below.refl _ w5).alloc (Nat.le_refl _) (.cells #[] 9)).drew)
        · exact hone.out
        · have := hnb.out; simp only [maxLen]; omega
        · have := hnb.out; omega
        · exact below_sz (((Below.refl _ w5).alloc (Nat.le_refl _) (.cells #[] 9)).drew)
        intro A2 c2 w2 hown2 hg2 hat2
        have hbA : Hid (Below w5.heap.size w5 w2) := hid (below_gr (((Below.refl _ w5).alloc (Nat.le_refl _) (.cells #[] 9)).drew) hg2 (fun k hk => by simp [Value.ownBlock] at hk; omega))
        clear hg2 hat2
        refine hK.out _ _ (fun _ => hkeep.out _ hbA.out) ?_
        clear hK K
        (try simp only [Act.put, List.setIfInBounds_toArray, List.set_cons_zero, List.set_cons_succ, List.getElem_toArray, List.getElem_cons_zero, List.getElem_cons_succ])
        refine wpAnyE_ready (rs := [4]) (by kernel_rfl) (by simp) ?_
        refine AllReadyE.cons rfl (fun K hK => ?_) AllReadyE.nil
        go_simp
        refine hK.out _ _ (fun _ => hkeep.out _ (below_al hbA.out _)) ?_
        clear hK K
        (try simp only [Act.put, List.setIfInBounds_toArray, List.set_cons_zero, List.set_cons_succ, List.getElem_toArray, List.getElem_cons_zero, List.getElem_cons_succ])
        refine wpAnyE_ready (rs := [5]) (by kernel_rfl) (by simp) ?_
        refine AllReadyE.cons rfl (fun K hK => ?_) AllReadyE.nil
        refine step_append_rd _ rfl (.tmp 6) (.tmp 7) 25 rfl w5.heap.size 9 ip _ 1 16 Tryz.underlying25 hip hp0 hp1 hp2 rfl (by omega) (.slice A2 a.ks.length c2) a.ks.length (strs a.ks) rfl ?_ (fun b => b = w2.heap.size) (some ⟨w2.heap.size, 0, none⟩) 1 1 #[.string ⟨#[98, 101, 104, 105, 110, 100]⟩].toList rfl ?_ ?_ ?_ ?_ ?_ (a.ks.length + 1) rfl ((strs a.ks) ++ #[.string ⟨#[98, 101, 104, 105, 110, 100]⟩].toList) rfl ?_
        · exact hown2.alloc _
        · exact Rd.new w2 9 1 1 #[.string ⟨#[98, 101, 104, 105, 110, 100]⟩] w2.heap.size rfl rfl
        · intro v hv; simp at hv; rcases hv with rfl <;> rfl
        · have := hnb.out; simp only [maxLen]; omega
        · have := hnb.out; omega
        · exact below_sz (below_al hbA.out _)
        intro A3 c3 w3 hown3 hg3 hat3
        have hbB : Hid (Below w5.heap.size w5 w3) := hid (below_gr (below_al hbA.out _) hg3 (fun k hk => (hown2.lt k hk).1))
        obtain ⟨A9, c9, he9, hc9, hm9⟩ := own_form hown3
        injection he9 with e1 e2 e3
        subst e1; subst e3
        have j1 : ((a.ks.length : Nat) : Int) ≤ (c3 : Int) := by omega
        have j2 : a.ks.length ≤ c3 := by omega
        have j3 : (c3 : Int) ≤ 9223372036854775807 := by simp only [maxLen] at hm9; omega
        have r4 : w3.cell? ⟨m, 1, none⟩ = some (.slice a.A1 a.ks.length a.c1) := hkeep.out _ hbB.out
        have q4 := fq.out _ hbB.out
        have hO3 := hid hown3
        clear hg3 hat3 hown3 hown2
        refine hK.out _ _ (fun _ => hkeep.out _ hbB.out) ?_
        clear hK K
        (try simp only [Act.put, List.setIfInBounds_toArray, List.set_cons_zero, List.set_cons_succ, List.getElem_toArray, List.getElem_cons_zero, List.getElem_cons_succ])
        refine wpAnyE_take [10, 11] (i := 9) (v := ?v1) rfl (by kernel_rfl) (by kernel_rfl) (by kernel_rfl) (by rfl) (by kernel_rfl) (by kernel_rfl) (fun _ _ _ h => h) (Or.inl ⟨by rfl, ?hy1⟩) (hkeep.out _ hbB.out) ?rest1
        case hy1 => intro w hSw; (try dsimp only at hSw); go_simp; try with_reducible rfl
        (try simp only [Act.put, List.setIfInBounds_toArray, List.set_cons_zero, List.set_cons_succ, List.getElem_toArray, List.getElem_cons_zero, List.getElem_cons_succ])
        refine wpAnyE_take [11] (i := 10) (v := ?v2) rfl (by kernel_rfl) (by kernel_rfl) (by kernel_rfl) (by rfl) (by kernel_rfl) (by kernel_rfl) (fun _ _ _ h => h) (Or.inl ⟨by rfl, ?hy2⟩) (hkeep.out _ hbB.out) ?rest2
        case hy2 => intro w hSw; (try dsimp only at hSw); go_simp; try with_reducible rfl
        (try simp only [Act.put, List.setIfInBounds_toArray, List.set_cons_zero, List.set_cons_succ, List.getElem_toArray, List.getElem_cons_zero, List.getElem_cons_succ])
        refine wpAnyE_ready (rs := [11]) (by kernel_rfl) (by simp) ?_
        refine AllReadyE.cons rfl (fun K hK => ?_) AllReadyE.nil
        go_simp
        refine hK.out _ _ (fun h => absurd rfl h) ?_
        clear hK K
        (try simp only [Act.put, List.setIfInBounds_toArray, List.set_cons_zero, List.set_cons_succ, List.getElem_toArray, List.getElem_cons_zero, List.getElem_cons_succ])
        refine wpAnyE_done (by kernel_rfl) ?_ _
        go_wp2_with fail
        go_meet
        exact ⟨A3, c3, w3, hO3.out, hbB.out, rfl⟩
      · go_simp
        refine hK.out _ _ (fun _ => hkeep.out _ ((((Below.refl _ w5).alloc (Nat.le_refl _) _).drew).alloc (by simp) _)) ?_
        clear hK K
        (try simp only [Act.put, List.setIfInBounds_toArray, List.set_cons_zero, List.set_cons_succ, List.getElem_toArray, List.getElem_cons_zero, List.getElem_cons_succ])
        refine wpAnyE_ready (rs := [3]) (by kernel_rfl) (by simp) ?_
        refine AllReadyE.cons rfl (fun K hK => ?_) AllReadyE.nil
        refine step_append_rd _ rfl (.tmp 3) (.tmp 5) 25 rfl w5.heap.size 9 ip _ 1 16 Tryz.underlying25 hip hp0 hp1 hp2 rfl (by omega) (.slice (some ⟨w5.heap.size, 0, none⟩) 0 0) 0 [] rfl ?_ (fun b => b < m) a.A1 a.ks.length a.c1 (strs a.ks) rfl ?_ ?_ ?_ ?_ ?_ a.ks.length (Nat.zero_add _) (strs a.ks) rfl ?_
        · exact (own_empty w5 _ 1).drew.alloc _
        · exact hrd.out.below_all ((((Below.refl _ w5).alloc (Nat.le_refl _) (.cells #[] 9)).drew).alloc (by simp) (.cells #[.string ⟨#[98, 101, 104, 105, 110, 100]⟩] 9))
        · exact hone.out
        · have := hnb.out; simp only [maxLen]; omega
        · have := hnb.out; omega
        · exact below_sz ((((Below.refl _ w5).alloc (Nat.le_refl _) (.cells #[] 9)).drew).alloc (by simp) (.cells #[.string ⟨#[98, 101, 104, 105, 110, 100]⟩] 9))
        intro A2 c2 w2 hown2 hg2 hat2
        have hbA : Hid (Below w5.heap.size w5 w2) := hid (below_gr ((((Below.refl _ w5).alloc (Nat.le_refl _) (.cells #[] 9)).drew).alloc (by simp) (.cells #[.string ⟨#[98, 101, 104, 105, 110, 100]⟩] 9)) hg2 (fun k hk => by simp [Value.ownBlock] at hk; omega))
        have hI : Hid (Rd (fun b => b = w5.heap.size + 1) w2 1 (some ⟨w5.heap.size + 1, 0, none⟩) 1 #[.string ⟨#[98, 101, 104, 105, 110, 100]⟩].toList) := hid ((Rd.new (w5.alloc (.cells #[] 9)).drew 9 1 1 #[.string ⟨#[98, 101, 104, 105, 110, 100]⟩] (w5.heap.size + 1) (by simp) rfl).grown_ hg2 (fun b hb => by simp [Value.ownBlock, hb]))
        clear hg2 hat2
        refine hK.out _ _ (fun _ => hkeep.out _ hbA.out) ?_
        clear hK K
        (try simp only [Act.put, List.setIfInBounds_toArray, List.set_cons_zero, List.set_cons_succ, List.getElem_toArray, List.getElem_cons_zero, List.getElem_cons_succ])
        refine wpAnyE_ready (rs := [5]) (by kernel_rfl) (by simp) ?_
        refine AllReadyE.cons rfl (fun K hK => ?_) AllReadyE.nil
        refine step_append_rd _ rfl (.tmp 6) (.tmp 7) 25 rfl w5.heap.size 9 ip _ 1 16 Tryz.underlying25 hip hp0 hp1 hp2 rfl (by omega) (.slice A2 a.ks.length c2) a.ks.length (strs a.ks) rfl ?_ (fun b => b = w5.heap.size + 1) (some ⟨w5.heap.size + 1, 0, none⟩) 1 1 #[.string ⟨#[98, 101, 104, 105, 110, 100]⟩].toList rfl ?_ ?_ ?_ ?_ ?_ (a.ks.length + 1) rfl ((strs a.ks) ++ #[.string ⟨#[98, 101, 104, 105, 110, 100]⟩].toList) rfl ?_
        · exact hown2
        · exact hI.out
        · intro v hv; simp at hv; rcases hv with rfl <;> rfl
        · have := hnb.out; simp only [maxLen]; omega
        · have := hnb.out; omega
        · exact below_sz hbA.out
        intro A3 c3 w3 hown3 hg3 hat3
        have hbB : Hid (Below w5.heap.size w5 w3) := hid (below_gr hbA.out hg3 (fun k hk => (hown2.lt k hk).1))
        obtain ⟨A9, c9, he9, hc9, hm9⟩ := own_form hown3
        injection he9 with e1 e2 e3
        subst e1; subst e3
        have j1 : ((a.ks.length : Nat) : Int) ≤ (c3 : Int) := by omega
        have j2 : a.ks.length ≤ c3 := by omega
        have j3 : (c3 : Int) ≤ 9223372036854775807 := by simp only [maxLen] at hm9; omega
        have r4 : w3.cell? ⟨m, 1, none⟩ = some (.slice a.A1 a.ks.length a.c1) := hkeep.out _ hbB.out
        have q4 := fq.out _ hbB.out
        have hO3 := hid hown3
        clear hg3 hat3 hown3 hown2
        refine hK.out _ _ (fun _ => hkeep.out _ hbB.out) ?_
        clear hK K
        (try simp only [Act.put, List.setIfInBounds_toArray, List.set_cons_zero, List.set_cons_succ, List.getElem_toArray, List.getElem_cons_zero, List.getElem_cons_succ])
        refine wpAnyE_take [10, 11] (i := 9) (v := ?v3) rfl (by kernel_rfl) (by kernel_rfl) (by kernel_rfl) (by rfl) (by kernel_rfl) (by kernel_rfl) (fun _ _ _ h => h) (Or.inl ⟨by rfl, ?hy3⟩) (hkeep.out _ hbB.out) ?rest3
        case hy3 => intro w hSw; (try dsimp only at hSw); go_simp; try with_reducible rfl
        (try simp only [Act.put, List.setIfInBounds_toArray, List.set_cons_zero, List.set_cons_succ, List.getElem_toArray, List.getElem_cons_zero, List.getElem_cons_succ])
        refine wpAnyE_take [11] (i := 10) (v := ?v4) rfl (by kernel_rfl) (by kernel_rfl) (by kernel_rfl) (by rfl) (by kernel_rfl) (by kernel_rfl) (fun _ _ _ h => h) (Or.inl ⟨by rfl, ?hy4⟩) (hkeep.out _ hbB.out) ?rest4
        case hy4 => intro w hSw; (try dsimp only at hSw); go_simp; try with_reducible rfl
        (try simp only [Act.put, List.setIfInBounds_toArray, List.set_cons_zero, List.set_cons_succ, List.getElem_toArray, List.getElem_cons_zero, List.getElem_cons_succ])
        refine wpAnyE_ready (rs := [11]) (by kernel_rfl) (by simp) ?_
        refine AllReadyE.cons rfl (fun K hK => ?_) AllReadyE.nil
        go_simp
        refine hK.out _ _ (fun h => absurd rfl h) ?_
        clear hK K
        (try simp only [Act.put, List.setIfInBounds_toArray, List.set_cons_zero, List.set_cons_succ, List.getElem_toArray, List.getElem_cons_zero, List.getElem_cons_succ])
        refine wpAnyE_done (by kernel_rfl) ?_ _
        go_wp2_with fail
        go_meet
        exact ⟨A3, c3, w3, hO3.out, hbB.out, rfl⟩
    · go_simp
      refine hK.out _ _ (fun _ => hkeep.out _ (((Below.refl _ w5).alloc (Nat.le_refl _) _).drew)) ?_
      clear hK K
      (try simp only [Act.put, List.setIfInBounds_toArray, List.set_cons_zero, List.set_cons_succ, List.getElem_toArray, List.getElem_cons_zero, List.getElem_cons_succ])
      refine wpAnyE_ready (rs := [0]) (by kernel_rfl) (by simp) ?_
      refine AllReadyE.cons rfl (fun K hK => ?_) AllReadyE.nil
      go_simp
      refine hK.out _ _ (fun _ => hkeep.out _ ((((Below.refl _ w5).alloc (Nat.le_refl _) _).drew).alloc (by simp) _)) ?_
      clear hK K
      (try simp only [Act.put, List.setIfInBounds_toArray, List.set_cons_zero, List.set_cons_succ, List.getElem_toArray, List.getElem_cons_zero, List.getElem_cons_succ])
      refine wpAnyE_ready (rs := [3]) (by kernel_rfl) (by simp) ?_
      refine AllReadyE.cons rfl (fun K hK => ?_) AllReadyE.nil
      refine step_append_rd _ rfl (.tmp 3) (.tmp 5) 25 rfl w5.heap.size 9 ip _ 1 16 Tryz.underlying25 hip hp0 hp1 hp2 rfl (by omega) (.slice (some ⟨w5.heap.size + 1, 0, none⟩) 0 0) 0 [] rfl ?_ (fun b => b < m) a.A1 a.ks.length a.c1 (strs a.ks) rfl ?_ ?_ ?_ ?_ ?_ a.ks.length (Nat.zero_add _) (strs a.ks) rfl ?_
      · exact own_base (by simp) (own_empty' (w5.alloc (.cells #[.string ⟨#[98, 101, 104, 105, 110, 100]⟩] 9)).drew _ 1 (w5.heap.size + 1) (by simp))
      · exact hrd.out.below_all ((((Below.refl _ w5).alloc (Nat.le_refl _) (.cells #[.string ⟨#[98, 101, 104, 105, 110, 100]⟩] 9)).drew).alloc (by simp) (.cells #[] 9))
      · exact hone.out
      · have := hnb.out; simp only [maxLen]; omega
      · have := hnb.out; omega
      · exact below_sz ((((Below.refl _ w5).alloc (Nat.le_refl _) (.cells #[.string ⟨#[98, 101, 104, 105, 110, 100]⟩] 9)).drew).alloc (by simp) (.cells #[] 9))
      intro A2 c2 w2 hown2 hg2 hat2
      have hbA : Hid (Below w5.heap.size w5 w2) := hid (below_gr ((((Below.refl _ w5).alloc (Nat.le_refl _) (.cells #[.string ⟨#[98, 101, 104, 105, 110, 100]⟩] 9)).drew).alloc (by simp) (.cells #[] 9)) hg2 (fun k hk => by simp [Value.ownBlock] at hk; omega))
      have hI : Hid (Rd (fun b => b = w5.heap.size) w2 1 (some ⟨w5.heap.size, 0, none⟩) 1 #[.string ⟨#[98, 101, 104, 105, 110, 100]⟩].toList) := hid (((Rd.new w5 9 1 1 #[.string ⟨#[98, 101, 104, 105, 110, 100]⟩] w5.heap.size rfl rfl).drew.alloc (.cells #[] 9)).grown_ hg2 (fun b hb => by simp [Value.ownBlock, hb]))
      clear hg2 hat2
      refine hK.out _ _ (fun _ => hkeep.out _ hbA.out) ?_
      clear hK K
      (try simp only [Act.put, List.setIfInBounds_toArray, List.set_cons_zero, List.set_cons_succ, List.getElem_toArray, List.getElem_cons_zero, List.getElem_cons_succ])
      refine wpAnyE_ready (rs := [5]) (by kernel_rfl) (by simp) ?_
      refine AllReadyE.cons rfl (fun K hK => ?_) AllReadyE.nil
      refine step_append_rd _ rfl (.tmp 6) (.tmp 7) 25 rfl w5.heap.size 9 ip _ 1 16 Tryz.underlying25 hip hp0 hp1 hp2 rfl (by omega) (.slice A2 a.ks.length c2) a.ks.length (strs a.ks) rfl ?_ (fun b => b = w5.heap.size) (some ⟨w5.heap.size, 0, none⟩) 1 1 #[.string ⟨#[98, 101, 104, 105, 110, 100]⟩].toList rfl ?_ ?_ ?_ ?_ ?_ (a.ks.length + 1) rfl ((strs a.ks) ++ #[.string ⟨#[98, 101, 104, 105, 110, 100]⟩].toList) rfl ?_
      · exact hown2
      · exact hI.out
      · intro v hv; simp at hv; rcases hv with rfl <;> rfl
      · have := hnb.out; simp only [maxLen]; omega
      · have := hnb.out; omega
      · exact below_sz hbA.out
      intro A3 c3 w3 hown3 hg3 hat3
      have hbB : Hid (Below w5.heap.size w5 w3) := hid (below_gr hbA.out hg3 (fun k hk => (hown2.lt k hk).1))
      obtain ⟨A9, c9, he9, hc9, hm9⟩ := own_form hown3
      injection he9 with e1 e2 e3
      subst e1; subst e3
      have j1 : ((a.ks.length : Nat) : Int) ≤ (c3 : Int) := by omega
      have j2 : a.ks.length ≤ c3 := by omega
      have j3 : (c3 : Int) ≤ 9223372036854775807 := by simp only [maxLen] at hm9; omega
      have r4 : w3.cell? ⟨m, 1, none⟩ = some (.slice a.A1 a.ks.length a.c1) := hkeep.out _ hbB.out
      have q4 := fq.out _ hbB.out
      have hO3 := hid hown3
      clear hg3 hat3 hown3 hown2
      refine hK.out _ _ (fun _ => hkeep.out _ hbB.out) ?_
      clear hK K
      (try simp only [Act.put, List.setIfInBounds_toArray, List.set_cons_zero, List.set_cons_succ, List.getElem_toArray, List.getElem_cons_zero, List.getElem_cons_succ])
      refine wpAnyE_take [10, 11] (i := 9) (v := ?v5) rfl (by kernel_rfl) (by kernel_rfl) (by kernel_rfl) (by rfl) (by kernel_rfl) (by kernel_rfl) (fun _ _ _ h => h) (Or.inl ⟨by rfl, ?hy5⟩) (hkeep.out _ hbB.out) ?rest5
      case hy5 => intro w hSw; (try dsimp only at hSw); go_simp; try with_reducible rfl
      (try simp only [Act.put, List.setIfInBounds_toArray, List.set_cons_zero, List.set_cons_succ, List.getElem_toArray, List.getElem_cons_zero, List.getElem_cons_succ])
      refine wpAnyE_take [11] (i := 10) (v := ?v6) rfl (by kernel_rfl) (by kernel_rfl) (by kernel_rfl) (by rfl) (by kernel_rfl) (by kernel_rfl) (fun _ _ _ h => h) (Or.inl ⟨by rfl, ?hy6⟩) (hkeep.out _ hbB.out) ?rest6
      case hy6 => intro w hSw; (try dsimp only at hSw); go_simp; try with_reducible rfl
      (try simp only [Act.put, List.setIfInBounds_toArray, List.set_cons_zero, List.set_cons_succ, List.getElem_toArray, List.getElem_cons_zero, List.getElem_cons_succ])
      refine wpAnyE_ready (rs := [11]) (by kernel_rfl) (by simp) ?_
      refine AllReadyE.cons rfl (fun K hK => ?_) AllReadyE.nil
      go_simp
      refine hK.out _ _ (fun h => absurd rfl h) ?_
      clear hK K
      (try simp only [Act.put, List.setIfInBounds_toArray, List.set_cons_zero, List.set_cons_succ, List.getElem_toArray, List.getElem_cons_zero, List.getElem_cons_succ])
      refine wpAnyE_done (by kernel_rfl) ?_ _
      go_wp2_with fail
      go_meet
      exact ⟨A3, c3, w3, hO3.out, hbB.out, rfl⟩
  case rest =>
    obtain ⟨A3, c3, w3, hO3, hb3, rfl⟩ := hcut
    have hu1 : Upd (fun j => j = m) w5 (w3.setCell ⟨m, 1, none⟩ (.slice A3 a.ks.length c3)) := (Upd.of_below (M := fun j => j = m) hb3 fun k hk h => by omega).setCell (p := ⟨m, 1, none⟩) (fun _ => rfl) _
    have hml : m < w5.heap.size := K1.out.lt
    have hbs := hB.out.size
    have hm2 := hid K2.out.lt
    have K1a := hid ((K1.out.below_all hb3).set_ 1 (.slice A3 a.ks.length c3))
    have K2a : Hid (Blk (w3.setCell ⟨m, 1, none⟩ (.slice A3 a.ks.length c3)) (m + 1) 51 #[.int .i64 0, .slice none 0 0, .slice none 0 0]) := hid (K2.out.upd hu1 (by omega))
    have hw5a : Hid (Rd (fun b => b < m) (w3.setCell ⟨m, 1, none⟩ (.slice A3 a.ks.length c3)) 5 a.A2 a.ws.length (wrCells a.ws)) := hid ((hw5.out.below_all hb3).setCell (by simp only; omega) _)
    have hR1 : Hid (Rd (fun b => w5.heap.size ≤ b) (w3.setCell ⟨m, 1, none⟩ (.slice A3 a.ks.length c3)) 1 A3 a.ks.length (strs a.ks)) := hid ((Rd.pre_own hO3 (by simp [strs])).setCell (by simp only; omega) _)
    have hT1 : Hid (RowT (w3.setCell ⟨m, 1, none⟩ (.slice A3 a.ks.length c3)) w5.heap.size 9 A3) := hid ((RowT.of_own hO3).set (p := ⟨m, 1, none⟩) hml _)
    have hBa : Hid (Below m w (w3.setCell ⟨m, 1, none⟩ (.slice A3 a.ks.length c3))) := hid ((hB.out.trans (hb3.mono (by omega))).setCell (p := ⟨m, 1, none⟩) (Nat.le_refl _) _)
    generalize w3.setCell ⟨m, 1, none⟩ (.slice A3 a.ks.length c3) = w6 at *
    have hs65 : Hid (w5.heap.size ≤ w6.heap.size) := hid hu1.size
    clear hO3 hb3 hu1 hbs K1 K2 hB hk5 hw5
    go_upto_region 2 with fail
    go_cut [] (fun wx => ∃ (A3 : Option Addr) (c3 : Nat) (w3 : World), w3.ownsRow w6.heap.size 40 5 (.slice A3 (a.ws.length + 1) c3) (a.ws.length + 1) (wrCells a.ws ++ #[.string ⟨#[98, 101, 104, 105, 110, 100]⟩, .bool false, .int .i64 0, .int .i64 0, .string ⟨#[]⟩].toList) ∧ Below w6.heap.size w6 w3 ∧ wx = w3.setCell ⟨m, 2, none⟩ (.slice A3 a.ws.length c3))
    case first =>
      have hrd := hw5a
      have hnb := hn2
      have hone := hid (wrCells_one a.ws)
      obtain ⟨ip, hip, hp0, hp1, hp2⟩ := info_parts info_write
      have hkeep : Hid (∀ w', Below w6.heap.size w6 w' → w'.cell? ⟨m, 2, none⟩ = some (.slice a.A2 a.ws.length a.c2)) := hid fun w' h => (K1a.out.below_all h).cell 2
      have fq : Hid (∀ w', Below w6.heap.size w6 w' → w'.frozen? ⟨m, 2, none⟩ = false) := hid fun w' h => (K1a.out.below_all h).frozen 2
      have hHeld := hkeep.out w6.drew (Below.refl _ _).drew
      refine wp_region_heldE (S := fun w' => w'.cell? ⟨m, 2, none⟩ = some (.slice a.A2 a.ws.length a.c2)) 12 (by kernel_rfl) ?_
      refine wpAnyE_take [2, 3, 6, 10, 11, 12] (i := 1) (v := ?v18) rfl (by kernel_rfl) (by kernel_rfl) (by kernel_rfl) (by rfl) (by kernel_rfl) (by kernel_rfl) (fun _ _ _ h => h) (Or.inl ⟨by rfl, ?hy18⟩) (hHeld) ?rest18
      case hy18 => intro w hSw; (try dsimp only at hSw); go_simp; try with_reducible rfl
      (try simp only [Act.put, List.setIfInBounds_toArray, List.set_cons_zero, List.set_cons_succ, List.getElem_toArray, List.getElem_cons_zero, List.getElem_cons_succ])
      refine wpAnyE_take [3, 6, 10, 11, 12] (i := 2) (v := ?v19) rfl (by kernel_rfl) (by kernel_rfl) (by kernel_rfl) (by rfl) (by kernel_rfl) (by kernel_rfl) (fun _ _ _ h => h) (Or.inl ⟨by rfl, ?hy19⟩) (hHeld) ?rest19
      case hy19 => intro w hSw; (try dsimp only at hSw); go_simp; try with_reducible rfl
      (try simp only [Act.put, List.setIfInBounds_toArray, List.set_cons_zero, List.set_cons_succ, List.getElem_toArray, List.getElem_cons_zero, List.getElem_cons_succ])
      refine wpAnyE_take [5, 6, 10, 11, 12] (i := 4) (v := ?v20) rfl (by kernel_rfl) (by kernel_rfl) (by kernel_rfl) (by rfl) (by kernel_rfl) (by kernel_rfl) (fun _ _ _ h => h) (Or.inl ⟨by rfl, ?hy20⟩) (hHeld) ?rest20
      case hy20 => intro w hSw; (try dsimp only at hSw); go_simp; try with_reducible rfl
      (try simp only [Act.put, List.setIfInBounds_toArray, List.set_cons_zero, List.set_cons_succ, List.getElem_toArray, List.getElem_cons_zero, List.getElem_cons_succ])
      refine wpAnyE_take [8, 9, 10, 11, 12] (i := 7) (v := ?v21) rfl (by kernel_rfl) (by kernel_rfl) (by kernel_rfl) (by rfl) (by kernel_rfl) (by kernel_rfl) (fun _ _ _ h => h) (Or.inl ⟨by rfl, ?hy21⟩) (hHeld) ?rest21
      case hy21 => intro w hSw; (try dsimp only at hSw); go_simp; try with_reducible rfl
      (try simp only [Act.put, List.setIfInBounds_toArray, List.set_cons_zero, List.set_cons_succ, List.getElem_toArray, List.getElem_cons_zero, List.getElem_cons_succ])
      refine wpAnyE_take [9, 10, 11, 12] (i := 8) (v := ?v22) rfl (by kernel_rfl) (by kernel_rfl) (by kernel_rfl) (by rfl) (by kernel_rfl) (by kernel_rfl) (fun _ _ _ h => h) (Or.inl ⟨by rfl, ?hy22⟩) (hHeld) ?rest22
      case hy22 => intro w hSw; (try dsimp only at hSw); go_simp; try with_reducible rfl
      (try simp only [Act.put, List.setIfInBounds_toArray, List.set_cons_zero, List.set_cons_succ, List.getElem_toArray, List.getElem_cons_zero, List.getElem_cons_succ])
      refine wpAnyE_take [10, 11, 12] (i := 9) (v := ?v23) rfl (by kernel_rfl) (by kernel_rfl) (by kernel_rfl) (by rfl) (by kernel_rfl) (by kernel_rfl) (fun _ _ _ h => h) (Or.inl ⟨by rfl, ?hy23⟩) (hHeld) ?rest23
      case hy23 => intro w hSw; (try dsimp only at hSw); go_simp; try with_reducible rfl
      (try simp only [Act.put, List.setIfInBounds_toArray, List.set_cons_zero, List.set_cons_succ, List.getElem_toArray, List.getElem_cons_zero, List.getElem_cons_succ])
      refine wpAnyE_ready (rs := [0, 5]) (by kernel_rfl) (by simp) ?_
      refine AllReadyE.cons rfl (fun K hK => ?_) (AllReadyE.cons rfl (fun K hK => ?_) AllReadyE.nil)
      · go_simp
        refine hK.out _ _ (fun _ => hkeep.out _ (((Below.refl _ w6).alloc (Nat.le_refl _) _).drew)) ?_
        clear hK K
        (try simp only [Act.put, List.setIfInBounds_toArray, List.set_cons_zero, List.set_cons_succ, List.getElem_toArray, List.getElem_cons_zero, List.getElem_cons_succ])
        refine wpAnyE_ready (rs := [3, 5]) (by kernel_rfl) (by simp) ?_
        refine AllReadyE.cons rfl (fun K hK => ?_) (AllReadyE.cons rfl (fun K hK => ?_) AllReadyE.nil)
        · refine step_append_rd _ rfl (.tmp 14) (.tmp 16) 26 rfl w6.heap.size 40 ip _ 5 56 Tryz.underlying26 hip hp0 hp1 hp2 rfl (by omega) (.slice (some ⟨w6.heap.size, 0, none⟩) 0 0) 0 [] rfl ?_ (fun b => b < m) a.A2 a.ws.length a.c2 (wrCells a.ws) rfl ?_ ?_ ?_ ?_ ?_ a.ws.length (Nat.zero_add _) (wrCells a.ws) rfl ?_
          · exact (own_empty w6 _ 5).drew
          · exact hrd.out.below_all (((Below.refl _ w6).alloc (Nat.le_refl _) (.cells #[] 40)).drew)
          · exact hone.out
          · have := hnb.out; simp only [maxLen]; omega
          · have := hnb.out; omega
          · exact below_sz (((Below.refl _ w6).alloc (Nat.le_refl _) (.cells #[] 40)).drew)
          intro A2 c2 w2 hown2 hg2 hat2
          have hbA : Hid (Below w6.heap.size w6 w2) := hid (below_gr (((Below.refl _ w6).alloc (Nat.le_refl _) (.cells #[] 40)).drew) hg2 (fun k hk => by simp [Value.ownBlock] at hk; omega))
          clear hg2 hat2
          refine hK.out _ _ (fun _ => hkeep.out _ hbA.out) ?_
          clear hK K
          (try simp only [Act.put, List.setIfInBounds_toArray, List.set_cons_zero, List.set_cons_succ, List.getElem_toArray, List.getElem_cons_zero, List.getElem_cons_succ])
          refine wpAnyE_ready (rs := [5]) (by kernel_rfl) (by simp) ?_
          refine AllReadyE.cons rfl (fun K hK => ?_) AllReadyE.nil
          go_simp
          refine hK.out _ _ (fun _ => hkeep.out _ (below_al hbA.out _)) ?_
          clear hK K
          (try simp only [Act.put, List.setIfInBounds_toArray, List.set_cons_zero, List.set_cons_succ, List.getElem_toArray, List.getElem_cons_zero, List.getElem_cons_succ])
          refine wpAnyE_ready (rs := [6]) (by kernel_rfl) (by simp) ?_
          refine AllReadyE.cons rfl (fun K hK => ?_) AllReadyE.nil
          refine step_append_rd _ rfl (.tmp 17) (.tmp 19) 26 rfl w6.heap.size 40 ip _ 5 56 Tryz.underlying26 hip hp0 hp1 hp2 rfl (by omega) (.slice A2 a.ws.length c2) a.ws.length (wrCells a.ws) rfl ?_ (fun b => b = w2.heap.size) (some ⟨w2.heap.size, 0, none⟩) 1 1 #[.string ⟨#[98, 101, 104, 105, 110, 100]⟩, .bool false, .int .i64 0, .int .i64 0, .string ⟨#[]⟩].toList rfl ?_ ?_ ?_ ?_ ?_ (a.ws.length + 1) rfl ((wrCells a.ws) ++ #[.string ⟨#[98, 101, 104, 105, 110, 100]⟩, .bool false, .int .i64 0, .int .i64 0, .string ⟨#[]⟩].toList) rfl ?_
          · exact hown2.alloc _
          · exact Rd.new w2 40 5 1 #[.string ⟨#[98, 101, 104, 105, 110, 100]⟩, .bool false, .int .i64 0, .int .i64 0, .string ⟨#[]⟩] w2.heap.size rfl rfl
          · intro v hv; simp at hv; rcases hv with rfl | rfl | rfl | rfl | rfl <;> rfl
          · have := hnb.out; simp only [maxLen]; omega
          · have := hnb.out; omega
          · exact below_sz (below_al hbA.out _)
          intro A3 c3 w3 hown3 hg3 hat3
          have hbB : Hid (Below w6.heap.size w6 w3) := hid (below_gr (below_al hbA.out _) hg3 (fun k hk => (hown2.lt k hk).1))
          obtain ⟨A9, c9, he9, hc9, hm9⟩ := own_form hown3
          injection he9 with e1 e2 e3
          subst e1; subst e3
          have j1 : ((a.ws.length : Nat) : Int) ≤ (c3 : Int) := by omega
          have j2 : a.ws.length ≤ c3 := by omega
          have j3 : (c3 : Int) ≤ 9223372036854775807 := by simp only [maxLen] at hm9; omega
          have r4 : w3.cell? ⟨m, 2, none⟩ = some (.slice a.A2 a.ws.length a.c2) := hkeep.out _ hbB.out
          have q4 := fq.out _ hbB.out
          have hO3 := hid hown3
          clear hg3 hat3 hown3 hown2
          refine hK.out _ _ (fun _ => hkeep.out _ hbB.out) ?_
          clear hK K
          (try simp only [Act.put, List.setIfInBounds_toArray, List.set_cons_zero, List.set_cons_succ, List.getElem_toArray, List.getElem_cons_zero, List.getElem_cons_succ])
          refine wpAnyE_take [11, 12] (i := 10) (v := ?v12) rfl (by kernel_rfl) (by kernel_rfl) (by kernel_rfl) (by rfl) (by kernel_rfl) (by kernel_rfl) (fun _ _ _ h => h) (Or.inl ⟨by rfl, ?hy12⟩) (hkeep.out _ hbB.out) ?rest12
          case hy12 => intro w hSw; (try dsimp only at hSw); go_simp; try with_reducible rfl
          (try simp only [Act.put, List.setIfInBounds_toArray, List.set_cons_zero, List.set_cons_succ, List.getElem_toArray, List.getElem_cons_zero, List.getElem_cons_succ])
          refine wpAnyE_take [12] (i := 11) (v := ?v13) rfl (by kernel_rfl) (by kernel_rfl) (by kernel_rfl) (by rfl) (by kernel_rfl) (by kernel_rfl) (fun _ _ _ h => h) (Or.inl ⟨by rfl, ?hy13⟩) (hkeep.out _ hbB.out) ?rest13
          case hy13 => intro w hSw; (try dsimp only at hSw); go_simp; try with_reducible rfl
          (try simp only [Act.put, List.setIfInBounds_toArray, List.set_cons_zero, List.set_cons_succ, List.getElem_toArray, List.getElem_cons_zero, List.getElem_cons_succ])
          refine wpAnyE_ready (rs := [12]) (by kernel_rfl) (by simp) ?_
          refine AllReadyE.cons rfl (fun K hK => ?_) AllReadyE.nil
          go_simp
          refine hK.out _ _ (fun h => absurd rfl h) ?_
          clear hK K
          (try simp only [Act.put, List.setIfInBounds_toArray, List.set_cons_zero, List.set_cons_succ, List.getElem_toArray, List.getElem_cons_zero, List.getElem_cons_succ])
          refine wpAnyE_done (by kernel_rfl) ?_ _
          go_wp2_with fail
          go_meet
          exact ⟨A3, c3, w3, hO3.out, hbB.out, rfl⟩
        · go_simp
          refine hK.out _ _ (fun _ => hkeep.out _ ((((Below.refl _ w6).alloc (Nat.le_refl _) _).drew).alloc (by simp) _)) ?_
          clear hK K
          (try simp only [Act.put, List.setIfInBounds_toArray, List.set_cons_zero, List.set_cons_succ, List.getElem_toArray, List.getElem_cons_zero, List.getElem_cons_succ])
          refine wpAnyE_ready (rs := [3]) (by kernel_rfl) (by simp) ?_
          refine AllReadyE.cons rfl (fun K hK => ?_) AllReadyE.nil
          refine step_append_rd _ rfl (.tmp 14) (.tmp 16) 26 rfl w6.heap.size 40 ip _ 5 56 Tryz.underlying26 hip hp0 hp1 hp2 rfl (by omega) (.slice (some ⟨w6.heap.size, 0, none⟩) 0 0) 0 [] rfl ?_ (fun b => b < m) a.A2 a.ws.length a.c2 (wrCells a.ws) rfl ?_ ?_ ?_ ?_ ?_ a.ws.length (Nat.zero_add _) (wrCells a.ws) rfl ?_
          · exact (own_empty w6 _ 5).drew.alloc _
          · exact hrd.out.below_all ((((Below.refl _ w6).alloc (Nat.le_refl _) (.cells #[] 40)).drew).alloc (by simp) (.cells #[.string ⟨#[98, 101, 104, 105, 110, 100]⟩, .bool false, .int .i64 0, .int .i64 0, .string ⟨#[]⟩] 40))
          · exact hone.out
          · have := hnb.out; simp only [maxLen]; omega
          · have := hnb.out; omega
          · exact below_sz ((((Below.refl _ w6).alloc (Nat.le_refl _) (.cells #[] 40)).drew).alloc (by simp) (.cells #[.string ⟨#[98, 101, 104, 105, 110, 100]⟩, .bool false, .int .i64 0, .int .i64 0, .string ⟨#[]⟩] 40))
          intro A2 c2 w2 hown2 hg2 hat2
          have hbA : Hid (Below w6.heap.size w6 w2) := hid (below_gr ((((Below.refl _ w6).alloc (Nat.le_refl _) (.cells #[] 40)).drew).alloc (by simp) (.cells #[.string ⟨#[98, 101, 104, 105, 110, 100]⟩, .bool false, .int .i64 0, .int .i64 0, .string ⟨#[]⟩] 40)) hg2 (fun k hk => by simp [Value.ownBlock] at hk; omega))
          have hI : Hid (Rd (fun b => b = w6.heap.size + 1) w2 5 (some ⟨w6.heap.size + 1, 0, none⟩) 1 #[.string ⟨#[98, 101, 104, 105, 110, 100]⟩, .bool false, .int .i64 0, .int .i64 0, .string ⟨#[]⟩].toList) := hid ((Rd.new (w6.alloc (.cells #[] 40)).drew 40 5 1 #[.string ⟨#[98, 101, 104, 105, 110, 100]⟩, .bool false, .int .i64 0, .int .i64 0, .string ⟨#[]⟩] (w6.heap.size + 1) (by simp) rfl).grown_ hg2 (fun b hb => by simp [Value.ownBlock, hb]))
          clear hg2 hat2
          refine hK.out _ _ (fun _ => hkeep.out _ hbA.out) ?_
          clear hK K
          (try simp only [Act.put, List.setIfInBounds_toArray, List.set_cons_zero, List.set_cons_succ, List.getElem_toArray, List.getElem_cons_zero, List.getElem_cons_succ])
          refine wpAnyE_ready (rs := [6]) (by kernel_rfl) (by simp) ?_
          refine AllReadyE.cons rfl (fun K hK => ?_) AllReadyE.nil
          refine step_append_rd _ rfl (.tmp 17) (.tmp 19) 26 rfl w6.heap.size 40 ip _ 5 56 Tryz.underlying26 hip hp0 hp1 hp2 rfl (by omega) (.slice A2 a.ws.length c2) a.ws.length (wrCells a.ws) rfl ?_ (fun b => b = w6.heap.size + 1) (some ⟨w6.heap.size + 1, 0, none⟩) 1 1 #[.string ⟨#[98, 101, 104, 105, 110, 100]⟩, .bool false, .int .i64 0, .int .i64 0, .string ⟨#[]⟩].toList rfl ?_ ?_ ?_ ?_ ?_ (a.ws.length + 1) rfl ((wrCells a.ws) ++ #[.string ⟨#[98, 101, 104, 105, 110, 100]⟩, .bool false, .int .i64 0, .int .i64 0, .string ⟨#[]⟩].toList) rfl ?_
          · exact hown2
          · exact hI.out
          · intro v hv; simp at hv; rcases hv with rfl | rfl | rfl | rfl | rfl <;> rfl
          · have := hnb.out; simp only [maxLen]; omega
          · have := hnb.out; omega
          · exact below_sz hbA.out
          intro A3 c3 w3 hown3 hg3 hat3
          have hbB : Hid (Below w6.heap.size w6 w3) := hid (below_gr hbA.out hg3 (fun k hk => (hown2.lt k hk).1))
          obtain ⟨A9, c9, he9, hc9, hm9⟩ := own_form hown3
          injection he9 with e1 e2 e3
          subst e1; subst e3
          have j1 : ((a.ws.length : Nat) : Int) ≤ (c3 : Int) := by omega
          have j2 : a.ws.length ≤ c3 := by omega
          have j3 : (c3 : Int) ≤ 9223372036854775807 := by simp only [maxLen] at hm9; omega
          have r4 : w3.cell? ⟨m, 2, none⟩ = some (.slice a.A2 a.ws.length a.c2) := hkeep.out _ hbB.out
          have q4 := fq.out _ hbB.out
          have hO3 := hid hown3
          clear hg3 hat3 hown3 hown2
          refine hK.out _ _ (fun _ => hkeep.out _ hbB.out) ?_
          clear hK K
          (try simp only [Act.put, List.setIfInBounds_toArray, List.set_cons_zero, List.set_cons_succ, List.getElem_toArray, List.getElem_cons_zero, List.getElem_cons_succ])
          refine wpAnyE_take [11, 12] (i := 10) (v := ?v14) rfl (by kernel_rfl) (by kernel_rfl) (by kernel_rfl) (by rfl) (by kernel_rfl) (by kernel_rfl) (fun _ _ _ h => h) (Or.inl ⟨by rfl, ?hy14⟩) (hkeep.out _ hbB.out) ?rest14
          case hy14 => intro w hSw; (try dsimp only at hSw); go_simp; try with_reducible rfl
          (try simp only [Act.put, List.setIfInBounds_toArray, List.set_cons_zero, List.set_cons_succ, List.getElem_toArray, List.getElem_cons_zero, List.getElem_cons_succ])
          refine wpAnyE_take [12] (i := 11) (v := ?v15) rfl (by kernel_rfl) (by kernel_rfl) (by kernel_rfl) (by rfl) (by kernel_rfl) (by kernel_rfl) (fun _ _ _ h => h) (Or.inl ⟨by rfl, ?hy15⟩) (hkeep.out _ hbB.out) ?rest15
          case hy15 => intro w hSw; (try dsimp only at hSw); go_simp; try with_reducible rfl
          (try simp only [Act.put, List.setIfInBounds_toArray, List.set_cons_zero, List.set_cons_succ, List.getElem_toArray, List.getElem_cons_zero, List.getElem_cons_succ])
          refine wpAnyE_ready (rs := [12]) (by kernel_rfl) (by simp) ?_
          refine AllReadyE.cons rfl (fun K hK => ?_) AllReadyE.nil
          go_simp
          refine hK.out _ _ (fun h => absurd rfl h) ?_
          clear hK K
          (try simp only [Act.put, List.setIfInBounds_toArray, List.set_cons_zero, List.set_cons_succ, List.getElem_toArray, List.getElem_cons_zero, List.getElem_cons_succ])
          refine wpAnyE_done (by kernel_rfl) ?_ _
          go_wp2_with fail
          go_meet
          exact ⟨A3, c3, w3, hO3.out, hbB.out, rfl⟩
      · go_simp
        refine hK.out _ _ (fun _ => hkeep.out _ (((Below.refl _ w6).alloc (Nat.le_refl _) _).drew)) ?_
        clear hK K
        (try simp only [Act.put, List.setIfInBounds_toArray, List.set_cons_zero, List.set_cons_succ, List.getElem_toArray, List.getElem_cons_zero, List.getElem_cons_succ])
        refine wpAnyE_ready (rs := [0]) (by kernel_rfl) (by simp) ?_
        refine AllReadyE.cons rfl (fun K hK => ?_) AllReadyE.nil
        go_simp
        refine hK.out _ _ (fun _ => hkeep.out _ ((((Below.refl _ w6).alloc (Nat.le_refl _) _).drew).alloc (by simp) _)) ?_
        clear hK K
        (try simp only [Act.put, List.setIfInBounds_toArray, List.set_cons_zero, List.set_cons_succ, List.getElem_toArray, List.getElem_cons_zero, List.getElem_cons_succ])
        refine wpAnyE_ready (rs := [3]) (by kernel_rfl) (by simp) ?_
        refine AllReadyE.cons rfl (fun K hK => ?_) AllReadyE.nil
        refine step_append_rd _ rfl (.tmp 14) (.tmp 16) 26 rfl w6.heap.size 40 ip _ 5 56 Tryz.underlying26 hip hp0 hp1 hp2 rfl (by omega) (.slice (some ⟨w6.heap.size + 1, 0, none⟩) 0 0) 0 [] rfl ?_ (fun b => b < m) a.A2 a.ws.length a.c2 (wrCells a.ws) rfl ?_ ?_ ?_ ?_ ?_ a.ws.length (Nat.zero_add _) (wrCells a.ws) rfl ?_
        · exact own_base (by simp) (own_empty' (w6.alloc (.cells #[.string ⟨#[98, 101, 104, 105, 110, 100]⟩, .bool false, .int .i64 0, .int .i64 0, .string ⟨#[]⟩] 40)).drew _ 5 (w6.heap.size + 1) (by simp))
        · exact hrd.out.below_all ((((Below.refl _ w6).alloc (Nat.le_refl _) (.cells #[.string ⟨#[98, 101, 104, 105, 110, 100]⟩, .bool false, .int .i64 0, .int .i64 0, .string ⟨#[]⟩] 40)).drew).alloc (by simp) (.cells #[] 40))
        · exact hone.out
        · have := hnb.out; simp only [maxLen]; omega
        · have := hnb.out; omega
        · exact below_sz ((((Below.refl _ w6).alloc (Nat.le_refl _) (.cells #[.string ⟨#[98, 101, 104, 105, 110, 100]⟩, .bool false, .int .i64 0, .int .i64 0, .string ⟨#[]⟩] 40)).drew).alloc (by simp) (.cells #[] 40))
        intro A2 c2 w2 hown2 hg2 hat2
        have hbA : Hid (Below w6.heap.size w6 w2) := hid (below_gr ((((Below.refl _ w6).alloc (Nat.le_refl _) (.cells #[.string ⟨#[98, 101, 104, 105, 110, 100]⟩, .bool false, .int .i64 0, .int .i64 0, .string ⟨#[]⟩] 40)).drew).alloc (by simp) (.cells #[] 40)) hg2 (fun k hk => by simp [Value.ownBlock] at hk; omega))
        have hI : Hid (Rd (fun b => b = w6.heap.size) w2 5 (some ⟨w6.heap.size, 0, none⟩) 1 #[.string ⟨#[98, 101, 104, 105, 110, 100]⟩, .bool false, .int .i64 0, .int .i64 0, .string ⟨#[]⟩].toList) := hid (((Rd.new w6 40 5 1 #[.string ⟨#[98, 101, 104, 105, 110, 100]⟩, .bool false, .int .i64 0, .int .i64 0, .string ⟨#[]⟩] w6.heap.size rfl rfl).drew.alloc (.cells #[] 40)).grown_ hg2 (fun b hb => by simp [Value.ownBlock, hb]))
        clear hg2 hat2
        refine hK.out _ _ (fun _ => hkeep.out _ hbA.out) ?_
        clear hK K
        (try simp only [Act.put, List.setIfInBounds_toArray, List.set_cons_zero, List.set_cons_succ, List.getElem_toArray, List.getElem_cons_zero, List.getElem_cons_succ])
        refine wpAnyE_ready (rs := [6]) (by kernel_rfl) (by simp) ?_
        refine AllReadyE.cons rfl (fun K hK => ?_) AllReadyE.nil
        refine step_append_rd _ rfl (.tmp 17) (.tmp 19) 26 rfl w6.heap.size 40 ip _ 5 56 Tryz.underlying26 hip hp0 hp1 hp2 rfl (by omega) (.slice A2 a.ws.length c2) a.ws.length (wrCells a.ws) rfl ?_ (fun b => b = w6.heap.size) (some ⟨w6.heap.size, 0, none⟩) 1 1 #[.string ⟨#[98, 101, 104, 105, 110, 100]⟩, .bool false, .int .i64 0, .int .i64 0, .string ⟨#[]⟩].toList rfl ?_ ?_ ?_ ?_ ?_ (a.ws.length + 1) rfl ((wrCells a.ws) ++ #[.string ⟨#[98, 101, 104, 105, 110, 100]⟩, .bool false, .int .i64 0, .int .i64 0, .string ⟨#[]⟩].toList) rfl ?_
        · exact hown2
        · exact hI.out
        · intro v hv; simp at hv; rcases hv with rfl | rfl | rfl | rfl | rfl <;> rfl
        · have := hnb.out; simp only [maxLen]; omega
        · have := hnb.out; omega
        · exact below_sz hbA.out
        intro A3 c3 w3 hown3 hg3 hat3
        have hbB : Hid (Below w6.heap.size w6 w3) := hid (below_gr hbA.out hg3 (fun k hk => (hown2.lt k hk).1))
        obtain ⟨A9, c9, he9, hc9, hm9⟩ := own_form hown3
        injection he9 with e1 e2 e3
        subst e1; subst e3
        have j1 : ((a.ws.length : Nat) : Int) ≤ (c3 : Int) := by omega
        have j2 : a.ws.length ≤ c3 := by omega
        have j3 : (c3 : Int) ≤ 9223372036854775807 := by simp only [maxLen] at hm9; omega
        have r4 : w3.cell? ⟨m, 2, none⟩ = some (.slice a.A2 a.ws.length a.c2) := hkeep.out _ hbB.out
        have q4 := fq.out _ hbB.out
        have hO3 := hid hown3
        clear hg3 hat3 hown3 hown2
        refine hK.out _ _ (fun _ => hkeep.out _ hbB.out) ?_
        clear hK K
        (try simp only [Act.put, List.setIfInBounds_toArray, List.set_cons_zero, List.set_cons_succ, List.getElem_toArray, List.getElem_cons_zero, List.getElem_cons_succ])
        refine wpAnyE_take [11, 12] (i := 10) (v := ?v16) rfl (by kernel_rfl) (by kernel_rfl) (by kernel_rfl) (by rfl) (by kernel_rfl) (by kernel_rfl) (fun _ _ _ h => h) (Or.inl ⟨by rfl, ?hy16⟩) (hkeep.out _ hbB.out) ?rest16
        case hy16 => intro w hSw; (try dsimp only at hSw); go_simp; try with_reducible rfl
        (try simp only [Act.put, List.setIfInBounds_toArray, List.set_cons_zero, List.set_cons_succ, List.getElem_toArray, List.getElem_cons_zero, List.getElem_cons_succ])
        refine wpAnyE_take [12] (i := 11) (v := ?v17) rfl (by kernel_rfl) (by kernel_rfl) (by kernel_rfl) (by rfl) (by kernel_rfl) (by kernel_rfl) (fun _ _ _ h => h) (Or.inl ⟨by rfl, ?hy17⟩) (hkeep.out _ hbB.out) ?rest17
        case hy17 => intro w hSw; (try dsimp only at hSw); go_simp; try with_reducible rfl
        (try simp only [Act.put, List.setIfInBounds_toArray, List.set_cons_zero, List.set_cons_succ, List.getElem_toArray, List.getElem_cons_zero, List.getElem_cons_succ])
        refine wpAnyE_ready (rs := [12]) (by kernel_rfl) (by simp) ?_
        refine AllReadyE.cons rfl (fun K hK => ?_) AllReadyE.nil
        go_simp
        refine hK.out _ _ (fun h => absurd rfl h) ?_
        clear hK K
        (try simp only [Act.put, List.setIfInBounds_toArray, List.set_cons_zero, List.set_cons_succ, List.getElem_toArray, List.getElem_cons_zero, List.getElem_cons_succ])
        refine wpAnyE_done (by kernel_rfl) ?_ _
        go_wp2_with fail
        go_meet
        exact ⟨A3, c3, w3, hO3.out, hbB.out, rfl⟩
    case rest =>
      obtain ⟨B3, e3, w8, hO3, hb3, rfl⟩ := hcut
      have hu1 : Upd (fun j => j = m) w6 (w8.setCell ⟨m, 2, none⟩ (.slice B3 a.ws.length e3)) := (Upd.of_below (M := fun j => j = m) hb3 fun k hk h => by omega).setCell (p := ⟨m, 2, none⟩) (fun _ => rfl) _
      have h65 := hs65.out
      have K1b := hid ((K1a.out.below_all hb3).set_ 2 (.slice B3 a.ws.length e3))
      have K2b : Hid (Blk (w8.setCell ⟨m, 2, none⟩ (.slice B3 a.ws.length e3)) (m + 1) 51 #[.int .i64 0, .slice none 0 0, .slice none 0 0]) := hid (K2a.out.upd hu1 (by omega))
      have hR2 : Hid (Rd (fun b => w6.heap.size ≤ b) (w8.setCell ⟨m, 2, none⟩ (.slice B3 a.ws.length e3)) 5 B3 a.ws.length (wrCells a.ws)) := hid ((Rd.pre_own hO3 (wrCells_len _)).setCell (by simp only; omega) _)
      have hR1b : Hid (Rd (fun b => w5.heap.size ≤ b) (w8.setCell ⟨m, 2, none⟩ (.slice B3 a.ws.length e3)) 1 A3 a.ks.length (strs a.ks)) := hid (hR1.out.upd hu1 (fun b hb e => by omega))
      have hT1b : Hid (RowT (w8.setCell ⟨m, 2, none⟩ (.slice B3 a.ws.length e3)) w5.heap.size 9 A3) := hid (hT1.out.upd hu1 (fun b hb e => by omega))
      have hT2 : Hid (RowT (w8.setCell ⟨m, 2, none⟩ (.slice B3 a.ws.length e3)) w6.heap.size 40 B3) := hid ((RowT.of_own hO3).set (p := ⟨m, 2, none⟩) (by simp only; omega) _)
      have hBb : Hid (Below m w (w8.setCell ⟨m, 2, none⟩ (.slice B3 a.ws.length e3))) := hid ((hBa.out.trans (hb3.mono (by have := hBa.out.size; omega))).setCell (p := ⟨m, 2, none⟩) (Nat.le_refl _) _)
      have hm1 := hid (show m + 1 < w5.heap.size ∧ m < w5.heap.size from ⟨hm2.out, hml⟩)
      generalize w8.setCell ⟨m, 2, none⟩ (.slice B3 a.ws.length e3) = w9 at *
      clear hO3 hb3 hu1 K1a K2a hw5a hR1 hT1 hBa
      have y0 : w9.cell? ⟨m, 0, none⟩ = some (.int .i64 a.kind) := K1b.out.cell 0
      have y1 : w9.cell? ⟨m, 1, none⟩ = some (.slice A3 a.ks.length c3) := K1b.out.cell 1
      have y2 : w9.cell? ⟨m, 2, none⟩ = some (.slice B3 a.ws.length e3) := K1b.out.cell 2
      have z0 : w9.cell? ⟨m + 1, 0, none⟩ = some (.int .i64 0) := K2b.out.cell 0
      have z1 : w9.cell? ⟨m + 1, 1, none⟩ = some (.slice none 0 0) := K2b.out.cell 1
      have z2 : w9.cell? ⟨m + 1, 2, none⟩ = some (.slice none 0 0) := K2b.out.cell 2
      have zf := K2b.out.frozen
      go_wp2_with fail
      have kfin := ((K2b.out.set_ 0 (.int .i64 a.kind)).set_ 1 (.slice A3 a.ks.length c3)).set_ 2 (.slice B3 a.ws.length e3)
      have hfin1 : Rd (fun b => w.heap.size ≤ b) (((w9.setCell ⟨m + 1, 0, none⟩ (.int .i64 a.kind)).setCell ⟨m + 1, 1, none⟩ (.slice A3 a.ks.length c3)).setCell ⟨m + 1, 2, none⟩ (.slice B3 a.ws.length e3)) 1 A3 a.ks.length (strs a.ks) := (((hR1b.out.setCell (p := ⟨m + 1, 0, none⟩) (by have := hm1.out; simp only; omega) _).setCell (p := ⟨m + 1, 1, none⟩) (by have := hm1.out; simp only; omega) _).setCell (p := ⟨m + 1, 2, none⟩) (by have := hm1.out; simp only; omega) _).more fun b hb _ => by have := hm1.out; omega
      have hfin2 : Rd (fun b => w.heap.size ≤ b) (((w9.setCell ⟨m + 1, 0, none⟩ (.int .i64 a.kind)).setCell ⟨m + 1, 1, none⟩ (.slice A3 a.ks.length c3)).setCell ⟨m + 1, 2, none⟩ (.slice B3 a.ws.length e3)) 5 B3 a.ws.length (wrCells a.ws) := (((hR2.out.setCell (p := ⟨m + 1, 0, none⟩) (by have := hm1.out; have := hs65.out; simp only; omega) _).setCell (p := ⟨m + 1, 1, none⟩) (by have := hm1.out; have := hs65.out; simp only; omega) _).setCell (p := ⟨m + 1, 2, none⟩) (by have := hm1.out; have := hs65.out; simp only; omega) _).more fun b hb _ => by have := hm1.out; have := hs65.out; omega
      refine bodyPost_ret (v := .agg #[.int .i64 a.kind, .slice A3 a.ks.length c3, .slice B3 a.ws.length e3]) ?_ rfl ?_
      · exact results_cell_row (P := Tryz.prog) rfl _ _ (m + 1) 51 _ (0, 0) _ rfl kfin Tryz.underlying51 rfl (by kernel_rfl)
      · exact ⟨A3, c3, B3, e3, rfl, hfin1, hfin2, (((hT1b.out.set (p := ⟨m + 1, 0, none⟩) (by have := hm1.out; simp only; omega) _).set (p := ⟨m + 1, 1, none⟩) (by have := hm1.out; simp only; omega) _).set (p := ⟨m + 1, 2, none⟩) (by have := hm1.out; simp only; omega) _).mono (by have := hm1.out; omega), (((hT2.out.set (p := ⟨m + 1, 0, none⟩) (by have := hm1.out; have := hs65.out; simp only; omega) _).set (p := ⟨m + 1, 1, none⟩) (by have := hm1.out; have := hs65.out; simp only; omega) _).set (p := ⟨m + 1, 2, none⟩) (by have := hm1.out; have := hs65.out; simp only; omega) _).mono (by have := hm1.out; have := hs65.out; omega), by rw [hm]; exact ((hBb.out.setCell (p := ⟨m + 1, 0, none⟩) (by simp) _).setCell (p := ⟨m + 1, 1, none⟩) (by simp) _).setCell (p := ⟨m + 1, 2, none⟩) (by simp) _⟩
theorem own_any {Sx : Nat → Prop} (a : SA) (h : a.ok Sx w) (h1 : a.ks.length ≤ 100000) (h2 : a.ws.length ≤ 100000) : Calls Tryz.prog 16 #[.agg #[.int .i64 a.kind, .slice a.A1 a.ks.length a.c1, .slice a.A2 a.ws.length a.c2]] w fun e w' => ∃ B1 d1 B2 d2, e = .returned (.agg #[.int .i64 a.kind, .slice B1 a.ks.length d1, .slice B2 a.ws.length d2]) ∧ Rd (fun b => w.heap.size ≤ b) w' 1 B1 a.ks.length (strs a.ks) ∧ Rd (fun b => w.heap.size ≤ b) w' 5 B2 a.ws.length (wrCells a.ws) ∧ Below w.heap.size w w' :=
  (own_anyW a h h1 h2).mono fun e w' ⟨B1, d1, B2, d2, e1, r1, r2, _, _, hb⟩ => ⟨B1, d1, B2, d2, e1, r1, r2, hb⟩
end
end Go.Proofs.YtphglnenafdkaaaGreatDoor

namespace Go.Proofs.YtphglnenafdkaaaGreatDoor
open Go.RowKit
set_option linter.unusedVariables false
set_option linter.unusedSimpArgs false

theorem run_eqVal9998 (a b : Vl) (w : World) :
    (Op.equalIn 9999 38 (.agg #[.int .i64 a.k, .int .i64 a.n, .string a.s]) (.agg #[.int .i64 b.k, .int .i64 b.n, .string b.s])).run Tryz.prog w = .ok (decide (a = b)) w := by
  have ht : Tryz.prog.underlying 38 = some (.struct (Tryz.prog.fieldsOf 38)) := by kernel_rfl
  have hp : Tryz.prog.stoodInHeld 38 = false := by kernel_rfl
  rw [run_equalIn_agg w 9998 _ _ _ ht hp]
  have e : decide (a = b) = (a.k == b.k && (a.n == b.n && (a.s.toList == b.s.toList))) := by
    rw [bytes_dec, Bool.eq_iff_iff]
    simp only [decide_eq_true_eq, Bool.and_eq_true, beq_iff_eq]
    exact ⟨fun e => by subst e; simp, fun ⟨h1, h2, h3⟩ => by cases a; cases b; simp_all⟩
  rw [e]
  clear ht hp e
  simp only [Program.fieldsOf, Tryz.underlying38]
  go_simp
  by_cases h1 : a.k = b.k <;> by_cases h2 : a.n = b.n <;> by_cases h3 : a.s.toList = b.s.toList <;> simp [h1, h2, h3]
set_option maxRecDepth 100000 in
theorem run_eqItem (a b : Kv) (w : World) :
    (Op.equalIn 10000 70 (.agg #[.string a.1, .int .i64 a.2.k, .int .i64 a.2.n, .string a.2.s]) (.agg #[.string b.1, .int .i64 b.2.k, .int .i64 b.2.n, .string b.2.s])).run Tryz.prog w = .ok (decide (a = b)) w := by
  have ht : Tryz.prog.underlying 70 = some (.struct (Tryz.prog.fieldsOf 70)) := by kernel_rfl
  have hp : Tryz.prog.stoodInHeld 70 = false := by kernel_rfl
  have hv : ∀ w, (Op.equalIn 9999 38 (.agg #[.int .i64 a.2.k, .int .i64 a.2.n, .string a.2.s]) (.agg #[.int .i64 b.2.k, .int .i64 b.2.n, .string b.2.s])).run Tryz.prog w = .ok (decide (a.2 = b.2)) w := run_eqVal9998 a.2 b.2
  have e : decide (a = b) = ((a.1.toList == b.1.toList) && decide (a.2 = b.2)) := by
    rw [bytes_dec, Bool.eq_iff_iff]
    simp only [decide_eq_true_eq, Bool.and_eq_true]
    exact ⟨fun e => by subst e; simp, fun ⟨h1, h2⟩ => by obtain ⟨a1, a2⟩ := a; obtain ⟨b1, b2⟩ := b; simp_all⟩
  rw [e]
  generalize decide (a.2 = b.2) = r at *
  have he : (Op.equalIn 10000 70 (.agg #[.string a.1, .int .i64 a.2.k, .int .i64 a.2.n, .string a.2.s]) (.agg #[.string b.1, .int .i64 b.2.k, .int .i64 b.2.n, .string b.2.s])).run Tryz.prog w = (Op.eqFields 9999 #[.string a.1, .int .i64 a.2.k, .int .i64 a.2.n, .string a.2.s] #[.string b.1, .int .i64 b.2.k, .int .i64 b.2.n, .string b.2.s] (Tryz.prog.fieldsOf 70).toList).run Tryz.prog w := run_equalIn_agg w 9999 _ _ _ ht hp
  rw [he]
  clear he ht hp e
  simp only [Program.fieldsOf, Tryz.underlying70]
  have h9 := Tryz.underlying9
  obtain ⟨a1, ak, an, at_⟩ := a
  obtain ⟨b1, bk, bn, bt⟩ := b
  simp only at hv ⊢
  cases h1 : (a1.toList == b1.toList) <;> cases r <;> go_simp <;> simp_all
end Go.Proofs.YtphglnenafdkaaaGreatDoor

namespace Go.Proofs.YtphglnenafdkaaaGreatDoor
open Go.RowKit
set_option linter.unusedVariables false
set_option linter.unusedSimpArgs false

theorem num_any (n : Int) (w : World) : Calls Tryz.prog 11 #[.int .i64 n] w fun e w' => e = .returned (.int .i64 n) ∧ w' = w := by
  go_enter Tryz.func11, Tryz.ntmps11
  go_wp2_with fail
  go_ret
  exact ⟨rfl, rfl⟩
def ka : ByteArray := ⟨#[97]⟩
def kb : ByteArray := ⟨#[98]⟩
def five : Vl := ⟨1, 5, ⟨#[]⟩⟩
def wsA : List Wr := [⟨ka, false, five⟩]
def stA : St := ⟨2, 3, []⟩
def stB : St := claimS stA [ka, kb]
def stC : St := applyS stB wsA
theorem lv_e1 : applyE stA wsA = 41 := by decide +kernel
theorem lv_e2 : claimE stA [ka, kb] = 0 := by decide +kernel
theorem lv_e3 : applyE stB wsA = 0 := by decide +kernel
theorem lv_d : dumpL stC.L = [(ka, five)] := by decide +kernel
theorem lv_g : valK ka stC.L = five := by decide +kernel
theorem lv_v : valK ka stB.L = vl0 := by decide +kernel
theorem lv_h : hasK kb stC.L = true := by decide +kernel
section
variable {S : Nat → Prop} {w w' : World} {g : Nat} {s : St}
theorem live_apply (h : PAt S w g s) : Calls Tryz.prog 12 #[.pointer (some ⟨g, 0, none⟩), .slice (some ⟨w.heap.size, 0, none⟩) 1 1] (w.alloc (.cells #[.string ⟨#[97]⟩, .bool false, .int .i64 1, .int .i64 5, .string ⟨#[]⟩] 40)) fun e w' => e = .returned (.int .i64 (applyE s wsA)) ∧ PAt S w' g (applyS s wsA) ∧ Upd S w w' := by
  have hB : Below w.heap.size w (w.alloc (.cells #[.string ⟨#[97]⟩, .bool false, .int .i64 1, .int .i64 5, .string ⟨#[]⟩] 40)) := (Below.refl _ _).alloc (Nat.le_refl _) _
  have hr := Rd.new w 40 5 1 #[.string ⟨#[97]⟩, .bool false, .int .i64 1, .int .i64 5, .string ⟨#[]⟩] w.heap.size rfl rfl
  refine (apply_any (c := 1) wsA (h.below hB) hr (fun b hb hS => by have := h.lt _ hS; omega) (fun x hx => ?_) (by decide)).mono ?_
  · rw [List.mem_singleton.1 hx]; decide
  · rintro e w' ⟨rfl, h1, h2⟩
    exact ⟨rfl, h1, (Upd.of_below (M := S) hB fun k hk h => by omega).trans h2 fun _ _ h => h⟩
theorem live_claim (h : PAt S w g s) : Calls Tryz.prog 10 #[.pointer (some ⟨g, 0, none⟩), .slice (some ⟨w.heap.size, 0, none⟩) 2 2] (w.alloc (.cells #[.string ⟨#[97]⟩, .string ⟨#[98]⟩] 9)) fun e w' => e = .returned (.int .i64 (claimE s [ka, kb])) ∧ PAt S w' g (claimS s [ka, kb]) ∧ Upd S w w' := by
  have hB : Below w.heap.size w (w.alloc (.cells #[.string ⟨#[97]⟩, .string ⟨#[98]⟩] 9)) := (Below.refl _ _).alloc (Nat.le_refl _) _
  have hr := Rd.new w 9 1 2 #[.string ⟨#[97]⟩, .string ⟨#[98]⟩] w.heap.size rfl rfl
  refine (claim_any (c := 2) [ka, kb] (h.below hB) hr (fun b hb hS => by have := h.lt _ hS; omega) (fun x hx => ?_) (by decide)).mono ?_
  · simp only [List.mem_cons, List.not_mem_nil, or_false] at hx
    rcases hx with rfl | rfl <;> decide
  · rintro e w' ⟨rfl, h1, h2⟩
    exact ⟨rfl, h1, (Upd.of_below (M := S) hB fun k hk h => by omega).trans h2 fun _ _ h => h⟩
theorem live_new (w : World) : Calls Tryz.prog 14 #[.int .i64 2, .int .i64 3] w fun e w' => ∃ S g, e = .returned (.tuple #[.pointer (some ⟨g, 0, none⟩), .int .i64 0]) ∧ PAt S w' g stA ∧ (∀ j, S j → w.heap.size ≤ j) ∧ Below w.heap.size w w' := new_ok 2 3 w (by omega) (by omega)
set_option maxRecDepth 100000 in
set_option maxHeartbeats 4000000 in
theorem live_any (w : World) : Calls Tryz.prog 9 #[] w fun e w' => e = .returned (.bool true) ∧ Below w.heap.size w w' := by
  go_enter Tryz.func9, Tryz.ntmps9
  go_wp2_with fail
  refine (live_new w).mono ?_
  rintro e w1 ⟨S, g, rfl, hp0, hS0, hb0⟩
  have P1 := hid hp0; have hS := hid hS0; have B1 := hid hb0
  clear hp0 hS0 hb0
  go_wp2_with fail
  refine (num_any _ _).mono ?_
  rintro e wq ⟨rfl, hwq⟩
  obtain rfl := hwq.symm
  have ha := hid (live_apply P1.out)
  rw [lv_e1] at ha
  go_wp2_with fail
  refine ha.out.mono ?_
  rintro e w2 ⟨rfl, hp0, hu0⟩
  rw [applyS_no (by rw [lv_e1]; decide)] at hp0
  have P2 := hid hp0
  have B2 : Hid (Below w.heap.size w w2) := hid (B1.out.trans (hu0.below B1.out.size fun k hk h => by have := hS.out k h; omega))
  clear hp0 hu0 ha P1 B1
  have hc := hid (live_claim P2.out)
  rw [lv_e2] at hc
  go_wp2_with fail
  refine hc.out.mono ?_
  rintro e w3 ⟨rfl, hp0, hu0⟩
  have P3 : Hid (PAt S w3 g stB) := hid hp0
  have B3 : Hid (Below w.heap.size w w3) := hid (B2.out.trans (hu0.below B2.out.size fun k hk h => by have := hS.out k h; omega))
  clear hp0 hu0 hc P2 B2
  go_wp2_with fail
  refine (view_any P3.out).mono ?_
  rintro e w4 ⟨S', v, rfl, hv0, hs0, hb0⟩
  have V4 := hid hv0
  have P4 := hid (P3.out.below hb0)
  have B4 : Hid (Below w.heap.size w w4) := hid (B3.out.trans (hb0.mono B3.out.size))
  have hSS : Hid (∀ b, S' b → ¬ S b) := hid fun b h1 h2 => by have := hs0 b h1; have := P3.out.lt b h2; omega
  clear hv0 hs0 hb0 P3 B3
  have ha := hid (live_apply P4.out)
  rw [lv_e3] at ha
  go_wp2_with fail
  refine ha.out.mono ?_
  rintro e w5 ⟨rfl, hp0, hu0⟩
  have P5 : Hid (PAt S w5 g stC) := hid hp0
  have B5 : Hid (Below w.heap.size w w5) := hid (B4.out.trans (hu0.below B4.out.size fun k hk h => by have := hS.out k h; omega))
  have V5 := hid (V4.out.upd hu0 hSS.out)
  clear hp0 hu0 ha P4 B4 V4
  have hd0 := dumpM_any P5.out
  rw [lv_d] at hd0
  have hd := hid hd0
  clear hd0
  go_wp2_with fail
  refine hd.out.mono ?_
  rintro e w6 ⟨A, c, rfl, ho0, hb0⟩
  have P6 := hid (P5.out.below hb0)
  have V6 := hid (V5.out.below hb0)
  have B6 : Hid (Below w.heap.size w w6) := hid (B5.out.trans (hb0.mono B5.out.size))
  obtain ⟨b, o, hA, _, _, x0, x1, x2, x3⟩ := rd_kv (L := [(ka, five)]) (Rd.of_own ho0) (i := 0) (by decide)
  subst hA
  clear ho0 hb0 hd P5 V5 B5
  simp only [List.getElem_cons_zero, five, ka, Nat.zero_mul, Nat.add_zero] at x0 x1 x2 x3
  have heq : ∀ w, (Op.equalIn 10000 70 (.agg #[.string ⟨#[97]⟩, .int .i64 1, .int .i64 5, .string ⟨#[]⟩]) (.agg #[.string ⟨#[97]⟩, .int .i64 1, .int .i64 5, .string ⟨#[]⟩])).run Tryz.prog w = .ok true w := fun w => run_eqItem (ka, five) (ka, five) w
  have hgd : Tryz.prog.eqGuardType Tryz.prog.depth 70 = false := by kernel_rfl
  have hg0 := get_any ka P6.out
  rw [lv_g] at hg0
  simp only [five] at hg0
  have hf1 : ∀ w', (Instr.field 38 (.agg #[.int .i64 1, .int .i64 5, .string ⟨#[]⟩]) 1).run Tryz.prog w' = .ok (.int .i64 5) w' := fun _ => by kernel_rfl
  have hf0 : ∀ w', (Instr.field 38 (.agg #[.int .i64 0, .int .i64 0, .string ⟨#[]⟩]) 0).run Tryz.prog w' = .ok (.int .i64 0) w' := fun _ => by kernel_rfl
  have hg := hid hg0
  clear hg0
  go_wp2_with (go_at_call 11; refine (num_any _ _).mono ?_; rintro e wq ⟨rfl, hwq⟩; obtain rfl := hwq.symm)
  refine hg.out.mono ?_
  rintro e w7 ⟨rfl, hb0⟩
  have P7 := hid (P6.out.below hb0)
  have V7 := V6.out.below hb0
  have B7 : Hid (Below w.heap.size w w7) := hid (B6.out.trans (hb0.mono B6.out.size))
  have hv0 := vget_any ka V7 (claim_ok (st_ok (p := 2) (r := 3) (by omega) (by omega)) _)
  rw [lv_v] at hv0
  simp only [vl0] at hv0
  have hv := hid hv0
  clear hb0 hg P6 V6 B6 V7 hv0 x0 x1 x2 x3
  go_wp2_with fail
  refine hv.out.mono ?_
  rintro e w8 ⟨rfl, hb0⟩
  have P8 := hid (P7.out.below hb0)
  have B8 : Hid (Below w.heap.size w w8) := hid (B7.out.trans (hb0.mono B7.out.size))
  have hc0 := claimed_b kb P8.out (by decide)
  rw [lv_h] at hc0
  have hc := hid hc0
  clear hb0 hv P7 B7 hc0
  go_wp2_with fail
  refine hc.out.mono ?_
  rintro e w9 ⟨rfl, hb0⟩
  have B9 : Hid (Below w.heap.size w w9) := hid (B8.out.trans (hb0.mono B8.out.size))
  clear hb0 hc P8 B8
  go_wp2_with fail
  go_ret
  exact ⟨rfl, B9.out⟩
end
end Go.Proofs.YtphglnenafdkaaaGreatDoor

namespace Go.Proofs.YtphglnenafdkaaaGreatDoor
open Go.RowKit
set_option linter.unusedVariables false
set_option linter.unusedSimpArgs false

theorem long_no {us : List SA} (h : longB us = false) : us.length ≤ 200 ∧ ∀ a ∈ us, a.ks.length ≤ 6000 ∧ a.ws.length ≤ 6000 := by
  unfold longB at h
  simp at h
  refine ⟨by omega, fun a ha => ?_⟩
  have := partsA_mem ha
  unfold partA at this
  omega
theorem good_pr {p r : Int} (h : goodPR p r = true) : ∃ p' r' : Nat, p = p' ∧ r = r' ∧ (1 ≤ p' ∧ p' ≤ 64) ∧ (1 ≤ r' ∧ r' ≤ 4096) := by
  unfold goodPR at h
  simp at h
  exact ⟨p.toNat, r.toNat, by omega, by omega, by omega, by omega⟩
/-- a store's bytes as a text -/
def btS (s : St) : ByteArray := bt ((bytesS s).map UInt8.toNat)
theorem bcells_bytes (l : List UInt8) : Lib.byteCells l = bcells (l.map UInt8.toNat) := by
  unfold Lib.byteCells bcells
  rw [List.map_map]; rfl
theorem bytes_text {S : Nat → Prop} {w : World} {g : Nat} {s : St} (h : PAt S w g s) (he : Env w) (hr : RngL s.L) : Calls Tryz.prog 13 #[.pointer (some ⟨g, 0, none⟩)] w fun e w' => ∃ A n c, e = .returned (.slice A n c) ∧ (convert 41 9 (.slice A n c)).run Tryz.prog w' = .ok (.string (btS s)) w' ∧ Below w.heap.size w w' := by
  refine (bytes_any h he hr).mono ?_
  rintro e w' ⟨v, rfl, ho, hb⟩
  obtain ⟨A, c, rfl, _⟩ := own_form ho
  rw [bcells_bytes] at ho
  exact ⟨A, _, c, rfl, convB (Rd.of_own ho) (by simp), hb⟩
/-- the store, within a round -/
structure RoomRel (g : Nat) (p r : Nat) (w1 wr : World) : Prop where
  st : ∃ S s, PAt S wr g s ∧ (∀ j, S j → w1.heap.size ≤ j) ∧ RngL s.L ∧ s.parts = p ∧ s.room = r
  bel : Below w1.heap.size w1 wr
theorem claimS_pr (s : St) (ks : List ByteArray) : (claimS s ks).parts = s.parts ∧ (claimS s ks).room = s.room := by unfold claimS; split <;> exact ⟨rfl, rfl⟩
theorem applyS_pr (s : St) (ws : List Wr) : (applyS s ws).parts = s.parts ∧ (applyS s ws).room = s.room := by unfold applyS; split <;> exact ⟨rfl, rfl⟩
theorem applyE_ne5 (s : St) (ws : List Wr) : applyE s ws ≠ 5 := by
  have key : ∀ n i, (scan (wrE s ws) n i).1 ≠ 5 := by
    intro n
    induction n with
    | zero => intro i; simp [scan]
    | succ n ih =>
      intro i
      unfold scan
      split
      · exact ih _
      · exact wrE_ne5 s ws i
  exact key _ _
section
variable {w w' : World}
end
end Go.Proofs.YtphglnenafdkaaaGreatDoor

namespace Go.Proofs.YtphglnenafdkaaaGreatDoor
open Go.RowKit
set_option linter.unusedVariables false
set_option linter.unusedSimpArgs false

theorem btS_eq (s : St) : btS s = ⟨(bytesS s).toArray⟩ := by
  unfold btS bt
  congr 1
  rw [List.map_map]
  congr 1
  conv => rhs; rw [← List.map_id (bytesS s)]
  apply List.map_congr_left
  intro c _
  simp
theorem beq_text (t : ByteArray) : (t.toList == t.toList) = true := by simp
theorem neqValF (v : Vl) (w : World) : (binOp .neq 38 (.agg #[.int .i64 v.k, .int .i64 v.n, .string v.s]) (.agg #[.int .i64 v.k, .int .i64 v.n, .string v.s])).run Tryz.prog w = .ok (.bool false) w := by
  rw [run_neq_struct, run_eqVal]; simp [Result.andThen]
theorem bytes_textP {S : Nat → Prop} {w : World} {g : Nat} {s : St} (h : PAt S w g s) (he : Env w) (hr : RngL s.L) : Calls Tryz.prog 13 #[.pointer (some ⟨g, 0, none⟩)] w fun e w' => ∃ A n c, e = .returned (.slice A n c) ∧ (∀ w'', Below w'.heap.size w' w'' → (convert 41 9 (.slice A n c)).run Tryz.prog w'' = .ok (.string (btS s)) w'') ∧ Below w.heap.size w w' := by
  refine (bytes_any h he hr).mono ?_
  rintro e w' ⟨v, rfl, ho, hb⟩
  obtain ⟨A, c, rfl, _⟩ := own_form ho
  rw [bcells_bytes] at ho
  exact ⟨A, _, c, rfl, fun w'' h => convB ((Rd.of_own ho).below_all h) (by simp), hb⟩
section
variable {S S2 : Nat → Prop} {w w' : World} {g r : Nat} {s : St}
theorem rbytes_text (h : RAt S w r s) (hr : RngL s.L) : Calls Tryz.prog 52 #[.pointer (some ⟨r, 0, none⟩)] w fun e w' => e = .returned (.string (btS s)) ∧ Below w.heap.size w w' := by
  rw [btS_eq]; exact rbytes_any h hr
set_option maxRecDepth 100000 in
set_option maxHeartbeats 4000000 in
theorem items_eq {S1 S2 : Nat → Prop} {A B : Option Addr} {c d : Nat} (M : List Kv) (h1 : Rd S1 w 4 A M.length (kvCells M)) (h2 : Rd S2 w 4 B M.length (kvCells M)) (hn : M.length ≤ 1000000) :
    Calls Tryz.prog 26 #[.slice A M.length c, .slice B M.length d] w fun e w' => e = .returned (.bool true) ∧ Below w.heap.size w w' := by
  have ha := hid h1
  have hb := hid h2
  have hn9 : (M.length : Int) ≤ 1000000 := by omega
  clear h1 h2 hn
  go_enter Tryz.func26, Tryz.ntmps26
  go_wp2_with fail
  go_loopw [5] (fun v wr => ∃ i : Nat, v = .int .i64 i ∧ i ≤ M.length ∧ Below w.heap.size w wr) (fun v _ => M.length - (intOf v).toNat)
  case atStart => exact ⟨0, rfl, Nat.zero_le _, Below.refl _ _⟩
  case round =>
    obtain ⟨i, rfl, hi, hB0⟩ := hrel
    have hB := hid hB0
    clear hB0
    by_cases hlt : i < M.length
    · have i1 : (i : Int) < (M.length : Int) := by omega
      have i2 : IntKind.i64.wrap ((i : Int) + 1) = (i : Int) + 1 := by rw [IntKind.wrap_i64]; omega
      obtain ⟨b1, o1, hA9, _, _, x0, x1, x2, x3⟩ := rd_kv (ha.out.below_all hB.out) hlt
      obtain ⟨b2, o2, hB9, _, _, y0, y1, y2, y3⟩ := rd_kv (hb.out.below_all hB.out) hlt
      subst hA9 hB9
      generalize M[i] = x at *
      have hlt9 := hid hlt
      clear hlt
      go_wp2_with fail
      go_quiet (fail)
      go_wp2_with fail
      go_roundw
      case rel => exact ⟨i + 1, by go_num, hlt9.out, below_drewN hB.out _⟩
      case measure => simp [intOf]; have := hlt9.out; omega
    · obtain rfl : i = M.length := by omega
      go_wp2_with fail
      go_ret
      exact ⟨rfl, hB.out⟩
set_option maxRecDepth 100000 in
set_option maxHeartbeats 4000000 in
theorem keysL_eq {S1 S2 : Nat → Prop} {A B : Option Addr} {c d : Nat} (M : List Kv) (h1 : Rd S1 w 1 A M.length (strs (M.map (·.1)))) (h2 : Rd S2 w 4 B M.length (kvCells M)) (hn : M.length ≤ 1000000) :
    Calls Tryz.prog 51 #[.slice A M.length c, .slice B M.length d] w fun e w' => e = .returned (.bool true) ∧ Below w.heap.size w w' := by
  have ha := hid h1
  have hb := hid h2
  have hn9 : (M.length : Int) ≤ 1000000 := by omega
  clear h1 h2 hn
  go_enter Tryz.func51, Tryz.ntmps51
  go_wp2_with fail
  go_loopw [5] (fun v wr => ∃ i : Nat, v = .int .i64 i ∧ i ≤ M.length ∧ Below w.heap.size w wr) (fun v _ => M.length - (intOf v).toNat)
  case atStart => exact ⟨0, rfl, Nat.zero_le _, Below.refl _ _⟩
  case round =>
    obtain ⟨i, rfl, hi, hB0⟩ := hrel
    have hB := hid hB0
    clear hB0
    by_cases hlt : i < M.length
    · have i1 : (i : Int) < (M.length : Int) := by omega
      have i2 : IntKind.i64.wrap ((i : Int) + 1) = (i : Int) + 1 := by rw [IntKind.wrap_i64]; omega
      obtain ⟨b1, o1, hA9, _, _, x0⟩ := rd_strs (ks := M.map (·.1)) (by rw [List.length_map]; exact ha.out.below_all hB.out) (i := i) (by rw [List.length_map]; exact hlt)
      rw [show (M.map (·.1))[i]'(by rw [List.length_map]; exact hlt) = M[i].1 by simp] at x0
      obtain ⟨b2, o2, hB9, _, _, y0, -⟩ := rd_kv (hb.out.below_all hB.out) hlt
      subst hA9 hB9
      generalize (M[i]).1 = x at *
      have hlt9 := hid hlt
      clear hlt
      go_wp2_with fail
      go_quiet (fail)
      go_wp2_with fail
      go_roundw
      case rel => exact ⟨i + 1, by go_num, hlt9.out, below_drewN hB.out _⟩
      case measure => simp [intOf]; have := hlt9.out; omega
    · obtain rfl : i = M.length := by omega
      go_wp2_with fail
      go_ret
      exact ⟨rfl, hB.out⟩
set_option maxRecDepth 100000 in
set_option maxHeartbeats 4000000 in
theorem stands_any (h1 : PAt S w g s) (h2 : RAt S2 w r s) (he : Env w) (hr : RngL s.L) : Calls Tryz.prog 21 #[.pointer (some ⟨g, 0, none⟩), .pointer (some ⟨r, 0, none⟩)] w fun e w' => e = .returned (.bool true) ∧ Below w.heap.size w w' := by
  have hll0 := h1.ok.len
  have hok := hid h1.ok
  have hdl := hid (show (dumpL s.L).length ≤ 1000000 from Nat.le_trans (List.length_filter_le _ _) (by omega))
  have hll := hid (show s.L.length ≤ 1000000 by omega)
  have hpr := hid (show (s.parts : Int) ≤ 64 by have := h1.ok.parts; omega)
  have hRng := hid hr
  clear hll0 hr
  go_enter Tryz.func21, Tryz.ntmps21
  go_upto_region 1 with fail
  obtain ⟨RA, rc, hin⟩ := h2
  have hX := hid (fun W (hW : Below w.heap.size w W) => (hin.below hW).cells)
  have hRd := hid hin.rd.all
  have h2 : RAt S2 w r s := ⟨RA, rc, hin⟩
  clear hin
  refine wp_region_held_drew (S := fun w' => Below w.heap.size w w') (by kernel_rfl) ?_ (fun hHeld => ?_)
  · exact (Below.refl _ _).drew
  have hbd := hid ((Below.refl w.heap.size w).drew)
  have hP := hid (h1.below hbd.out)
  have hR := hid (h2.below hbd.out)
  have hE := hid (he.below hbd.out)
  generalize World.drew w = wd at *
  clear h1 h2 he
  refine wpAnyH_take (i := 0) (v := ?v1) rfl (by kernel_rfl) (by kernel_rfl) (by kernel_rfl) (fun _ _ _ h => h) (Or.inl ⟨by rfl, ?hy1⟩) (by assumption) ?rest1
  case hy1 => intro w' hSw; (try dsimp only at hSw); go_simp; try with_reducible rfl
  (try simp only [Act.put, List.setIfInBounds_toArray, List.set_cons_zero, List.set_cons_succ, List.getElem_toArray, List.getElem_cons_zero, List.getElem_cons_succ])
  refine wpAnyH_take (i := 2) (v := ?v2) rfl (by kernel_rfl) (by kernel_rfl) (by kernel_rfl) (fun _ _ _ h => h) (Or.inl ⟨by rfl, ?hy2⟩) (by assumption) ?rest2
  case hy2 => intro w' hSw; obtain ⟨q0, q1, q2⟩ := hX.out w' hSw; (try dsimp only at hSw); go_simp; try with_reducible rfl
  (try simp only [Act.put, List.setIfInBounds_toArray, List.set_cons_zero, List.set_cons_succ, List.getElem_toArray, List.getElem_cons_zero, List.getElem_cons_succ])
  refine wpAnyH_take (i := 3) (v := ?v3) rfl (by kernel_rfl) (by kernel_rfl) (by kernel_rfl) (fun _ _ _ h => h) (Or.inl ⟨by rfl, ?hy3⟩) (by assumption) ?rest3
  case hy3 => intro w' hSw; obtain ⟨q0, q1, q2⟩ := hX.out w' hSw; (try dsimp only at hSw); go_simp; try with_reducible rfl
  (try simp only [Act.put, List.setIfInBounds_toArray, List.set_cons_zero, List.set_cons_succ, List.getElem_toArray, List.getElem_cons_zero, List.getElem_cons_succ])
  refine wpAnyH_take (i := 4) (v := ?v4) rfl (by kernel_rfl) (by kernel_rfl) (by kernel_rfl) (fun _ _ _ h => h) (Or.inl ⟨by rfl, ?hy4⟩) (by assumption) ?rest4
  case hy4 => intro w' hSw; obtain ⟨q0, q1, q2⟩ := hX.out w' hSw; (try dsimp only at hSw); go_simp; try with_reducible rfl
  (try simp only [Act.put, List.setIfInBounds_toArray, List.set_cons_zero, List.set_cons_succ, List.getElem_toArray, List.getElem_cons_zero, List.getElem_cons_succ])
  refine wpAnyH_take (i := 5) (v := ?v5) rfl (by kernel_rfl) (by kernel_rfl) (by kernel_rfl) (fun _ _ _ h => h) (Or.inl ⟨by rfl, ?hy5⟩) (by assumption) ?rest5
  case hy5 => intro w' hSw; obtain ⟨q0, q1, q2⟩ := hX.out w' hSw; (try dsimp only at hSw); go_simp; try with_reducible rfl
  (try simp only [Act.put, List.setIfInBounds_toArray, List.set_cons_zero, List.set_cons_succ, List.getElem_toArray, List.getElem_cons_zero, List.getElem_cons_succ])
  refine wpAnyH_ready (rs := [1]) (by kernel_rfl) (by simp) ?_
  refine AllReadyH.cons rfl (fun K hK => ?_) AllReadyH.nil
  go_simp
  refine (parts_any hP.out).mono ?_
  rintro e wq ⟨rfl, hwq⟩
  obtain rfl := hwq.symm
  refine hK.out _ _ ?_ (fun hHeld => ?_)
  · exact hbd.out
  clear hK K
  (try simp only [Act.put, List.setIfInBounds_toArray, List.set_cons_zero, List.set_cons_succ, List.getElem_toArray, List.getElem_cons_zero, List.getElem_cons_succ])
  refine wpAnyH_take (i := 6) (v := ?v6) rfl (by kernel_rfl) (by kernel_rfl) (by kernel_rfl) (fun _ _ _ h => h) (Or.inl ⟨by rfl, ?hy6⟩) (by assumption) ?rest6
  case hy6 => intro w' hSw; (try dsimp only at hSw); go_simp; try with_reducible rfl
  (try simp only [Act.put, List.setIfInBounds_toArray, List.set_cons_zero, List.set_cons_succ, List.getElem_toArray, List.getElem_cons_zero, List.getElem_cons_succ])
  refine wpAnyH_take (i := 7) (v := ?v7) rfl (by kernel_rfl) (by kernel_rfl) (by kernel_rfl) (fun _ _ _ h => h) (Or.inl ⟨by rfl, ?hy7⟩) (by assumption) ?rest7
  case hy7 => intro w' hSw; (try dsimp only at hSw); go_simp; try with_reducible rfl
  (try simp only [Act.put, List.setIfInBounds_toArray, List.set_cons_zero, List.set_cons_succ, List.getElem_toArray, List.getElem_cons_zero, List.getElem_cons_succ])
  refine wpAnyH_take (i := 8) (v := ?v8) rfl (by kernel_rfl) (by kernel_rfl) (by kernel_rfl) (fun _ _ _ h => h) (Or.inl ⟨by rfl, ?hy8⟩) (by assumption) ?rest8
  case hy8 => intro w' hSw; (try dsimp only at hSw); go_simp; try with_reducible rfl
  (try simp only [Act.put, List.setIfInBounds_toArray, List.set_cons_zero, List.set_cons_succ, List.getElem_toArray, List.getElem_cons_zero, List.getElem_cons_succ])
  refine wpAnyH_take (i := 10) (v := ?v9) rfl (by kernel_rfl) (by kernel_rfl) (by kernel_rfl) (fun _ _ _ h => h) (Or.inl ⟨by rfl, ?hy9⟩) (by assumption) ?rest9
  case hy9 => intro w' hSw; (try dsimp only at hSw); go_simp; try with_reducible rfl
  (try simp only [Act.put, List.setIfInBounds_toArray, List.set_cons_zero, List.set_cons_succ, List.getElem_toArray, List.getElem_cons_zero, List.getElem_cons_succ])
  refine wpAnyH_take (i := 11) (v := ?v10) rfl (by kernel_rfl) (by kernel_rfl) (by kernel_rfl) (fun _ _ _ h => h) (Or.inl ⟨by rfl, ?hy10⟩) (by assumption) ?rest10
  case hy10 => intro w' hSw; obtain ⟨q0, q1, q2⟩ := hX.out w' hSw; (try dsimp only at hSw); go_simp; try with_reducible rfl
  (try simp only [Act.put, List.setIfInBounds_toArray, List.set_cons_zero, List.set_cons_succ, List.getElem_toArray, List.getElem_cons_zero, List.getElem_cons_succ])
  refine wpAnyH_take (i := 12) (v := ?v11) rfl (by kernel_rfl) (by kernel_rfl) (by kernel_rfl) (fun _ _ _ h => h) (Or.inl ⟨by rfl, ?hy11⟩) (by assumption) ?rest11
  case hy11 => intro w' hSw; obtain ⟨q0, q1, q2⟩ := hX.out w' hSw; (try dsimp only at hSw); go_simp; try with_reducible rfl
  (try simp only [Act.put, List.setIfInBounds_toArray, List.set_cons_zero, List.set_cons_succ, List.getElem_toArray, List.getElem_cons_zero, List.getElem_cons_succ])
  refine wpAnyH_take (i := 13) (v := ?v12) rfl (by kernel_rfl) (by kernel_rfl) (by kernel_rfl) (fun _ _ _ h => h) (Or.inl ⟨by rfl, ?hy12⟩) (by assumption) ?rest12
  case hy12 => intro w' hSw; obtain ⟨q0, q1, q2⟩ := hX.out w' hSw; (try dsimp only at hSw); go_simp; try with_reducible rfl
  (try simp only [Act.put, List.setIfInBounds_toArray, List.set_cons_zero, List.set_cons_succ, List.getElem_toArray, List.getElem_cons_zero, List.getElem_cons_succ])
  refine wpAnyH_ready (rs := [9]) (by kernel_rfl) (by simp) ?_
  refine AllReadyH.cons rfl (fun K hK => ?_) AllReadyH.nil
  rw [if_pos (by rfl)]
  go_simp
  refine (sroom_any hP.out).mono ?_
  rintro e wq ⟨rfl, hwq⟩
  obtain rfl := hwq.symm
  refine hK.out _ _ ?_ (fun hHeld => ?_)
  · exact hbd.out
  clear hK K
  (try simp only [Act.put, List.setIfInBounds_toArray, List.set_cons_zero, List.set_cons_succ, List.getElem_toArray, List.getElem_cons_zero, List.getElem_cons_succ])
  refine wpAnyH_take (i := 14) (v := ?v13) rfl (by kernel_rfl) (by kernel_rfl) (by kernel_rfl) (fun _ _ _ h => h) (Or.inl ⟨by rfl, ?hy13⟩) (by assumption) ?rest13
  case hy13 => intro w' hSw; (try dsimp only at hSw); go_simp; try with_reducible rfl
  (try simp only [Act.put, List.setIfInBounds_toArray, List.set_cons_zero, List.set_cons_succ, List.getElem_toArray, List.getElem_cons_zero, List.getElem_cons_succ])
  refine wpAnyH_take (i := 15) (v := ?v14) rfl (by kernel_rfl) (by kernel_rfl) (by kernel_rfl) (fun _ _ _ h => h) (Or.inl ⟨by rfl, ?hy14⟩) (by assumption) ?rest14
  case hy14 => intro w' hSw; (try dsimp only at hSw); go_simp; try with_reducible rfl
  (try simp only [Act.put, List.setIfInBounds_toArray, List.set_cons_zero, List.set_cons_succ, List.getElem_toArray, List.getElem_cons_zero, List.getElem_cons_succ])
  refine wpAnyH_take (i := 16) (v := ?v15) rfl (by kernel_rfl) (by kernel_rfl) (by kernel_rfl) (fun _ _ _ h => h) (Or.inl ⟨by rfl, ?hy15⟩) (by assumption) ?rest15
  case hy15 => intro w' hSw; (try dsimp only at hSw); go_simp; try with_reducible rfl
  (try simp only [Act.put, List.setIfInBounds_toArray, List.set_cons_zero, List.set_cons_succ, List.getElem_toArray, List.getElem_cons_zero, List.getElem_cons_succ])
  refine wpAnyH_take (i := 17) (v := ?v16) rfl (by kernel_rfl) (by kernel_rfl) (by kernel_rfl) (fun _ _ _ h => h) (Or.inl ⟨by rfl, ?hy16⟩) (by assumption) ?rest16
  case hy16 => intro w' hSw; (try dsimp only at hSw); go_simp; try with_reducible rfl
  (try simp only [Act.put, List.setIfInBounds_toArray, List.set_cons_zero, List.set_cons_succ, List.getElem_toArray, List.getElem_cons_zero, List.getElem_cons_succ])
  refine wpAnyH_take (i := 19) (v := ?v17) rfl (by kernel_rfl) (by kernel_rfl) (by kernel_rfl) (fun _ _ _ h => h) (Or.inl ⟨by rfl, ?hy17⟩) (by assumption) ?rest17
  case hy17 => intro w' hSw; (try dsimp only at hSw); go_simp; try with_reducible rfl
  (try simp only [Act.put, List.setIfInBounds_toArray, List.set_cons_zero, List.set_cons_succ, List.getElem_toArray, List.getElem_cons_zero, List.getElem_cons_succ])
  refine wpAnyH_ready (rs := [18]) (by kernel_rfl) (by simp) ?_
  refine AllReadyH.cons rfl (fun K hK => ?_) AllReadyH.nil
  rw [if_pos (by rfl)]
  go_simp
  refine (dumpM_any hP.out).mono ?_
  rintro e w1 ⟨A1, c1, rfl, ho10, hb10⟩
  have ho1 := hid ho10
  have hb1 := hid hb10
  clear ho10 hb10
  refine hK.out _ _ ?_ (fun hHeld => ?_)
  · exact hbd.out.trans (hb1.out.mono hbd.out.size)
  clear hK K
  (try simp only [Act.put, List.setIfInBounds_toArray, List.set_cons_zero, List.set_cons_succ, List.getElem_toArray, List.getElem_cons_zero, List.getElem_cons_succ])
  refine wpAnyH_ready (rs := [20]) (by kernel_rfl) (by simp) ?_
  refine AllReadyH.cons rfl (fun K hK => ?_) AllReadyH.nil
  rw [if_pos (by rfl)]
  go_simp
  refine (rdump_any (hR.out.below hb1.out)).mono ?_
  rintro e w2 ⟨A2, c2, rfl, ho20, hb20⟩
  have ho2 := hid ho20
  have ho1 := hid (own_below ho1.out hb20)
  have hb2 := hid (hb1.out.trans (hb20.mono hb1.out.size))
  clear ho20 hb20 hb1
  refine hK.out _ _ ?_ (fun hHeld => ?_)
  · exact hbd.out.trans (hb2.out.mono hbd.out.size)
  clear hK K
  (try simp only [Act.put, List.setIfInBounds_toArray, List.set_cons_zero, List.set_cons_succ, List.getElem_toArray, List.getElem_cons_zero, List.getElem_cons_succ])
  refine wpAnyH_ready (rs := [21]) (by kernel_rfl) (by simp) ?_
  refine AllReadyH.cons rfl (fun K hK => ?_) AllReadyH.nil
  rw [if_pos (by rfl)]
  go_simp
  refine (items_eq (c := c1) (d := c2) (dumpL s.L) (Rd.of_own' ho1.out) (Rd.of_own' ho2.out) hdl.out).mono ?_
  rintro e w3 ⟨rfl, hb30⟩
  have hb3 := hid (hb2.out.trans (hb30.mono hb2.out.size))
  clear hb30 hb2 ho1 ho2
  refine hK.out _ _ ?_ (fun hHeld => ?_)
  · exact hbd.out.trans (hb3.out.mono hbd.out.size)
  clear hK K
  (try simp only [Act.put, List.setIfInBounds_toArray, List.set_cons_zero, List.set_cons_succ, List.getElem_toArray, List.getElem_cons_zero, List.getElem_cons_succ])
  refine wpAnyH_take (i := 22) (v := ?v18) rfl (by kernel_rfl) (by kernel_rfl) (by kernel_rfl) (fun _ _ _ h => h) (Or.inl ⟨by rfl, ?hy18⟩) (by assumption) ?rest18
  case hy18 => intro w' hSw; (try dsimp only at hSw); go_simp; try with_reducible rfl
  (try simp only [Act.put, List.setIfInBounds_toArray, List.set_cons_zero, List.set_cons_succ, List.getElem_toArray, List.getElem_cons_zero, List.getElem_cons_succ])
  refine wpAnyH_take (i := 23) (v := ?v19) rfl (by kernel_rfl) (by kernel_rfl) (by kernel_rfl) (fun _ _ _ h => h) (Or.inl ⟨by rfl, ?hy19⟩) (by assumption) ?rest19
  case hy19 => intro w' hSw; (try dsimp only at hSw); go_simp; try with_reducible rfl
  (try simp only [Act.put, List.setIfInBounds_toArray, List.set_cons_zero, List.set_cons_succ, List.getElem_toArray, List.getElem_cons_zero, List.getElem_cons_succ])
  refine wpAnyH_take (i := 24) (v := ?v20) rfl (by kernel_rfl) (by kernel_rfl) (by kernel_rfl) (fun _ _ _ h => h) (Or.inl ⟨by rfl, ?hy20⟩) (by assumption) ?rest20
  case hy20 => intro w' hSw; (try dsimp only at hSw); go_simp; try with_reducible rfl
  (try simp only [Act.put, List.setIfInBounds_toArray, List.set_cons_zero, List.set_cons_succ, List.getElem_toArray, List.getElem_cons_zero, List.getElem_cons_succ])
  refine wpAnyH_take (i := 25) (v := ?v21) rfl (by kernel_rfl) (by kernel_rfl) (by kernel_rfl) (fun _ _ _ h => h) (Or.inl ⟨by rfl, ?hy21⟩) (by assumption) ?rest21
  case hy21 => intro w' hSw; (try dsimp only at hSw); go_simp; try with_reducible rfl
  (try simp only [Act.put, List.setIfInBounds_toArray, List.set_cons_zero, List.set_cons_succ, List.getElem_toArray, List.getElem_cons_zero, List.getElem_cons_succ])
  refine wpAnyH_take (i := 27) (v := ?v22) rfl (by kernel_rfl) (by kernel_rfl) (by kernel_rfl) (fun _ _ _ h => h) (Or.inl ⟨by rfl, ?hy22⟩) (by assumption) ?rest22
  case hy22 => intro w' hSw; (try dsimp only at hSw); go_simp; try with_reducible rfl
  (try simp only [Act.put, List.setIfInBounds_toArray, List.set_cons_zero, List.set_cons_succ, List.getElem_toArray, List.getElem_cons_zero, List.getElem_cons_succ])
  refine wpAnyH_take (i := 28) (v := ?v23) rfl (by kernel_rfl) (by kernel_rfl) (by kernel_rfl) (fun _ _ _ h => h) (Or.inl ⟨by rfl, ?hy23⟩) (by assumption) ?rest23
  case hy23 => intro w' hSw; obtain ⟨q0, q1, q2⟩ := hX.out w' hSw; (try dsimp only at hSw); go_simp; try with_reducible rfl
  (try simp only [Act.put, List.setIfInBounds_toArray, List.set_cons_zero, List.set_cons_succ, List.getElem_toArray, List.getElem_cons_zero, List.getElem_cons_succ])
  refine wpAnyH_take (i := 29) (v := ?v24) rfl (by kernel_rfl) (by kernel_rfl) (by kernel_rfl) (fun _ _ _ h => h) (Or.inl ⟨by rfl, ?hy24⟩) (by assumption) ?rest24
  case hy24 => intro w' hSw; obtain ⟨q0, q1, q2⟩ := hX.out w' hSw; (try dsimp only at hSw); go_simp; try with_reducible rfl
  (try simp only [Act.put, List.setIfInBounds_toArray, List.set_cons_zero, List.set_cons_succ, List.getElem_toArray, List.getElem_cons_zero, List.getElem_cons_succ])
  refine wpAnyH_take (i := 30) (v := ?v25) rfl (by kernel_rfl) (by kernel_rfl) (by kernel_rfl) (fun _ _ _ h => h) (Or.inl ⟨by rfl, ?hy25⟩) (by assumption) ?rest25
  case hy25 => intro w' hSw; obtain ⟨q0, q1, q2⟩ := hX.out w' hSw; (try dsimp only at hSw); go_simp; try with_reducible rfl
  (try simp only [Act.put, List.setIfInBounds_toArray, List.set_cons_zero, List.set_cons_succ, List.getElem_toArray, List.getElem_cons_zero, List.getElem_cons_succ])
  refine wpAnyH_ready (rs := [26]) (by kernel_rfl) (by simp) ?_
  refine AllReadyH.cons rfl (fun K hK => ?_) AllReadyH.nil
  rw [if_pos (by rfl)]
  go_simp
  refine (keys_any (hP.out.below hb3.out)).mono ?_
  rintro e w4 ⟨A4, c4, rfl, ho40, hb40⟩
  have ho4 := hid ho40
  have hb4 := hid (hb3.out.trans (hb40.mono hb3.out.size))
  clear ho40 hb40 hb3
  refine hK.out _ _ ?_ (fun hHeld => ?_)
  · exact hbd.out.trans (hb4.out.mono hbd.out.size)
  clear hK K
  (try simp only [Act.put, List.setIfInBounds_toArray, List.set_cons_zero, List.set_cons_succ, List.getElem_toArray, List.getElem_cons_zero, List.getElem_cons_succ])
  refine wpAnyH_ready (rs := [31]) (by kernel_rfl) (by simp) ?_
  refine AllReadyH.cons rfl (fun K hK => ?_) AllReadyH.nil
  rw [if_pos (by rfl)]
  go_simp
  refine (keysL_eq (c := c4) (d := rc) s.L (Rd.of_own' ho4.out) (hRd.out.below_all (hbd.out.trans (hb4.out.mono hbd.out.size))) hll.out).mono ?_
  rintro e w5 ⟨rfl, hb50⟩
  have hb5 := hid (hb4.out.trans (hb50.mono hb4.out.size))
  clear hb50 hb4 ho4
  refine hK.out _ _ ?_ (fun hHeld => ?_)
  · exact hbd.out.trans (hb5.out.mono hbd.out.size)
  clear hK K
  (try simp only [Act.put, List.setIfInBounds_toArray, List.set_cons_zero, List.set_cons_succ, List.getElem_toArray, List.getElem_cons_zero, List.getElem_cons_succ])
  refine wpAnyH_take (i := 32) (v := ?v26) rfl (by kernel_rfl) (by kernel_rfl) (by kernel_rfl) (fun _ _ _ h => h) (Or.inl ⟨by rfl, ?hy26⟩) (by assumption) ?rest26
  case hy26 => intro w' hSw; (try dsimp only at hSw); go_simp; try with_reducible rfl
  (try simp only [Act.put, List.setIfInBounds_toArray, List.set_cons_zero, List.set_cons_succ, List.getElem_toArray, List.getElem_cons_zero, List.getElem_cons_succ])
  refine wpAnyH_take (i := 33) (v := ?v27) rfl (by kernel_rfl) (by kernel_rfl) (by kernel_rfl) (fun _ _ _ h => h) (Or.inl ⟨by rfl, ?hy27⟩) (by assumption) ?rest27
  case hy27 => intro w' hSw; (try dsimp only at hSw); go_simp; try with_reducible rfl
  (try simp only [Act.put, List.setIfInBounds_toArray, List.set_cons_zero, List.set_cons_succ, List.getElem_toArray, List.getElem_cons_zero, List.getElem_cons_succ])
  refine wpAnyH_take (i := 34) (v := ?v28) rfl (by kernel_rfl) (by kernel_rfl) (by kernel_rfl) (fun _ _ _ h => h) (Or.inl ⟨by rfl, ?hy28⟩) (by assumption) ?rest28
  case hy28 => intro w' hSw; (try dsimp only at hSw); go_simp; try with_reducible rfl
  (try simp only [Act.put, List.setIfInBounds_toArray, List.set_cons_zero, List.set_cons_succ, List.getElem_toArray, List.getElem_cons_zero, List.getElem_cons_succ])
  refine wpAnyH_take (i := 35) (v := ?v29) rfl (by kernel_rfl) (by kernel_rfl) (by kernel_rfl) (fun _ _ _ h => h) (Or.inl ⟨by rfl, ?hy29⟩) (by assumption) ?rest29
  case hy29 => intro w' hSw; (try dsimp only at hSw); go_simp; try with_reducible rfl
  (try simp only [Act.put, List.setIfInBounds_toArray, List.set_cons_zero, List.set_cons_succ, List.getElem_toArray, List.getElem_cons_zero, List.getElem_cons_succ])
  refine wpAnyH_take (i := 38) (v := ?v30) rfl (by kernel_rfl) (by kernel_rfl) (by kernel_rfl) (fun _ _ _ h => h) (Or.inl ⟨by rfl, ?hy30⟩) (by assumption) ?rest30
  case hy30 => intro w' hSw; (try dsimp only at hSw); go_simp; try with_reducible rfl
  (try simp only [Act.put, List.setIfInBounds_toArray, List.set_cons_zero, List.set_cons_succ, List.getElem_toArray, List.getElem_cons_zero, List.getElem_cons_succ])
  refine wpAnyH_ready (rs := [36]) (by kernel_rfl) (by simp) ?_
  refine AllReadyH.cons rfl (fun K hK => ?_) AllReadyH.nil
  rw [if_pos (by rfl)]
  go_simp
  refine (bytes_textP (hP.out.below hb5.out) (hE.out.below hb5.out) hRng.out).mono ?_
  rintro e w6 ⟨A6, n6, c6, rfl, hcv0, hb60⟩
  have hcv := hid hcv0
  have hb6 := hid (hb5.out.trans (hb60.mono hb5.out.size))
  clear hcv0 hb60 hb5
  refine hK.out _ _ ?_ (fun hHeld => ?_)
  · exact hbd.out.trans (hb6.out.mono hbd.out.size)
  clear hK K
  (try simp only [Act.put, List.setIfInBounds_toArray, List.set_cons_zero, List.set_cons_succ, List.getElem_toArray, List.getElem_cons_zero, List.getElem_cons_succ])
  refine wpAnyH_more (S' := fun w'' => Below w6.heap.size w6 w'') (fun w h => (hbd.out.trans (hb6.out.mono hbd.out.size)).trans (Below.mono h (by have := hbd.out.size; have := hb6.out.size; omega))) _ _ _ _ ?_
  have hHeld := Below.refl w6.heap.size w6
  refine wpAnyH_take (i := 37) (v := ?v31) rfl (by kernel_rfl) (by kernel_rfl) (by kernel_rfl) (fun _ _ _ h => h) (Or.inl ⟨by rfl, ?hy31⟩) (by assumption) ?rest31
  case hy31 => intro w' hSw; have hq := hcv.out w' hSw; (try dsimp only at hSw); go_simp; try with_reducible rfl
  (try simp only [Act.put, List.setIfInBounds_toArray, List.set_cons_zero, List.set_cons_succ, List.getElem_toArray, List.getElem_cons_zero, List.getElem_cons_succ])
  refine wpAnyH_ready (rs := [39]) (by kernel_rfl) (by simp) ?_
  refine AllReadyH.cons rfl (fun K hK => ?_) AllReadyH.nil
  rw [if_pos (by rfl)]
  go_simp
  refine (rbytes_text (hR.out.below hb6.out) hRng.out).mono ?_
  rintro e w7 ⟨rfl, hb70⟩
  have hb7 := hid hb70
  have hb8 := hid (hb6.out.trans (hb70.mono hb6.out.size))
  clear hb70 hb6 hcv
  refine hK.out _ _ ?_ (fun hHeld => ?_)
  · exact hb7.out
  clear hK K
  (try simp only [Act.put, List.setIfInBounds_toArray, List.set_cons_zero, List.set_cons_succ, List.getElem_toArray, List.getElem_cons_zero, List.getElem_cons_succ])
  have heq := beq_text (btS s)
  generalize btS s = tx at *
  refine wpAnyH_take (i := 40) (v := ?v32) rfl (by kernel_rfl) (by kernel_rfl) (by kernel_rfl) (fun _ _ _ h => h) (Or.inl ⟨by rfl, ?hy32⟩) (by assumption) ?rest32
  case hy32 => intro w' hSw; have hq := heq; (try dsimp only at hSw); go_simp; try with_reducible rfl
  (try simp only [Act.put, List.setIfInBounds_toArray, List.set_cons_zero, List.set_cons_succ, List.getElem_toArray, List.getElem_cons_zero, List.getElem_cons_succ])
  refine wpAnyH_take (i := 41) (v := ?v33) rfl (by kernel_rfl) (by kernel_rfl) (by kernel_rfl) (fun _ _ _ h => h) (Or.inl ⟨by rfl, ?hy33⟩) (by assumption) ?rest33
  case hy33 => intro w' hSw; have hq := heq; (try dsimp only at hSw); go_simp; try with_reducible rfl
  (try simp only [Act.put, List.setIfInBounds_toArray, List.set_cons_zero, List.set_cons_succ, List.getElem_toArray, List.getElem_cons_zero, List.getElem_cons_succ])
  refine wpAnyH_done (by kernel_rfl) ?_ _
  go_wp2_with fail
  have hB8 := hid (hbd.out.trans (hb8.out.mono hbd.out.size))
  have hP8 := hid (hP.out.below hb8.out)
  have hR8 := hid (hR.out.below hb8.out)
  clear hb8 hb7 hHeld hX hRd hP hR hE hbd heq
  go_wp2_with fail
  go_loopw [5] (fun v wr => ∃ i : Int, v = .int .i64 i ∧ -1 ≤ i ∧ i ≤ (s.parts : Int) + 1 ∧ Below w7.heap.size w7 wr) (fun v _ => ((s.parts : Int) + 1 - intOf v).toNat)
  case atStart => exact ⟨-1, rfl, by omega, by omega, Below.refl _ _⟩
  case round =>
    obtain ⟨i, rfl, hi0, hi1, hb0⟩ := hrel
    have hb := hid hb0
    clear hb0
    have hPr := hid (hP8.out.below hb.out)
    have hRr := hid (hR8.out.below hb.out)
    obtain ⟨RA, rc, hin⟩ := hRr.out
    obtain ⟨d0, d1, d2⟩ := hin.cells
    clear hin
    by_cases hle : i ≤ (s.parts : Int)
    · have i2 : IntKind.i64.wrap (i + 1) = i + 1 := by rw [IntKind.wrap_i64]; have := hpr.out; omega
      have i3 := hid (And.intro hi0 hle)
      clear hi0 hi1 d1 d2
      go_wp2_with fail
      refine (claimsI_any hPr.out i).mono ?_
      rintro e wq ⟨rfl, hwq⟩
      obtain rfl := hwq.symm
      go_wp2_with fail
      refine (rclaims_any hRr.out i).mono ?_
      rintro e w9 ⟨rfl, hb9⟩
      have hb9 := hid (hb.out.trans (hb9.mono hb.out.size))
      generalize cntI s.parts i s.L = n at *
      go_wp2_with fail
      go_roundw
      case rel => exact ⟨i + 1, rfl, by have := i3.out; omega, by have := i3.out; omega, hb9.out⟩
      case measure => simp [intOf]; have := i3.out; omega
    · clear hi0 hi1 d1 d2 hPr hRr
      go_wp2_with fail
      have hB9 := hid (hB8.out.trans (hb.out.mono hB8.out.size))
      have hP9 := hid (hP8.out.below hb.out)
      have hR9 := hid (hR8.out.below hb.out)
      clear hb hP8 hR8 hB8 hle d0
      rename World => w9
      go_loopw [6] (fun v wr => ∃ i : Nat, v = .int .i64 i ∧ i ≤ s.L.length ∧ Below w9.heap.size w9 wr) (fun v _ => s.L.length - (intOf v).toNat)
      case atStart => exact ⟨0, rfl, Nat.zero_le _, Below.refl _ _⟩
      case round =>
        obtain ⟨i, rfl, hi, hb0⟩ := hrel
        have hb := hid hb0
        clear hb0
        have hPr0 := hP9.out.below hb.out
        have hRr0 := hR9.out.below hb.out
        obtain ⟨RA, rc, hin⟩ := hRr0
        obtain ⟨d0, d1, d2⟩ := hin.cells
        have hl9 : (s.L.length : Int) ≤ 1000000 := by have := hll.out; omega
        by_cases hlt : i < s.L.length
        · have i1 : (i : Int) < (s.L.length : Int) := by omega
          have i2 : IntKind.i64.wrap ((i : Int) + 1) = (i : Int) + 1 := by rw [IntKind.wrap_i64]; omega
          clear d0 d1
          go_upto_region 11 with fail
          obtain ⟨b9, o9, hA9, -⟩ := rd_kv hin.rd hlt
          obtain ⟨x, hx⟩ : ∃ x, x = s.L[i] := ⟨_, rfl⟩
          have hY := hid (fun W (hW : Below wr.heap.size wr W) => (show W.cell? ⟨r, 2, none⟩ = some (.slice (some ⟨b9, o9, none⟩) s.L.length rc) ∧ (i : Int) < (s.L.length : Int) ∧ W.cell? ⟨b9, o9 + i * 4, none⟩ = some (.string x.1) ∧ W.cell? ⟨b9, o9 + i * 4 + 1, none⟩ = some (.int .i64 x.2.k) ∧ W.cell? ⟨b9, o9 + i * 4 + 2, none⟩ = some (.int .i64 x.2.n) ∧ W.cell? ⟨b9, o9 + i * 4 + 3, none⟩ = some (.string x.2.s) from by
            have hw := hin.below hW
            obtain ⟨b', o', e', _, _, z0, z1, z2, z3⟩ := rd_kv hw.rd hlt
            rw [hA9] at e'
            injection e' with e'
            injection e' with e1 e2
            subst e1 e2
            rw [hx]
            exact ⟨by rw [← hA9]; exact hw.cells.2.2, by omega, z0, z1, z2, z3⟩))
          have hmem : x ∈ s.L := by rw [hx]; exact List.getElem_mem hlt
          have hval := hid (valK_mem hok.out.asc hmem)
          have hhas := hid (hasK_mem.2 ⟨x, hmem, rfl⟩)
          have hks := hid (show x.1.size ≤ 9223372036854775806 by have := hok.out.key x hmem; unfold validK at this; simp at this; omega)
          have hlt9 := hid hlt
          have hPr0 := hid hPr0
          clear hx hmem hlt hi hin d2
          refine wp_region_held_drew (S := fun w' => Below wr.heap.size wr w') (by kernel_rfl) ?_ (fun hHeld => ?_)
          · exact (Below.refl _ _).drew
          have hbd := hid ((Below.refl wr.heap.size wr).drew)
          have hPr := hid (hPr0.out.below hbd.out)
          generalize World.drew wr = wv at *
          refine wpAnyH_take (i := 0) (v := ?v34) rfl (by kernel_rfl) (by kernel_rfl) (by kernel_rfl) (fun _ _ _ h => h) (Or.inl ⟨by rfl, ?hy34⟩) (by assumption) ?rest34
          case hy34 => intro w' hSw; (try dsimp only at hSw); go_simp; try with_reducible rfl
          (try simp only [Act.put, List.setIfInBounds_toArray, List.set_cons_zero, List.set_cons_succ, List.getElem_toArray, List.getElem_cons_zero, List.getElem_cons_succ])
          refine wpAnyH_take (i := 1) (v := ?v35) rfl (by kernel_rfl) (by kernel_rfl) (by kernel_rfl) (fun _ _ _ h => h) (Or.inl ⟨by rfl, ?hy35⟩) (by assumption) ?rest35
          case hy35 => intro w' hSw; (try dsimp only at hSw); go_simp; try with_reducible rfl
          (try simp only [Act.put, List.setIfInBounds_toArray, List.set_cons_zero, List.set_cons_succ, List.getElem_toArray, List.getElem_cons_zero, List.getElem_cons_succ])
          refine wpAnyH_take (i := 5) (v := ?v36) rfl (by kernel_rfl) (by kernel_rfl) (by kernel_rfl) (fun _ _ _ h => h) (Or.inl ⟨by rfl, ?hy36⟩) (by assumption) ?rest36
          case hy36 => intro w' hSw; (try dsimp only at hSw); go_simp; try with_reducible rfl
          (try simp only [Act.put, List.setIfInBounds_toArray, List.set_cons_zero, List.set_cons_succ, List.getElem_toArray, List.getElem_cons_zero, List.getElem_cons_succ])
          refine wpAnyH_take (i := 10) (v := ?v37) rfl (by kernel_rfl) (by kernel_rfl) (by kernel_rfl) (fun _ _ _ h => h) (Or.inl ⟨by rfl, ?hy37⟩) (by assumption) ?rest37
          case hy37 => intro w' hSw; (try dsimp only at hSw); go_simp; try with_reducible rfl
          (try simp only [Act.put, List.setIfInBounds_toArray, List.set_cons_zero, List.set_cons_succ, List.getElem_toArray, List.getElem_cons_zero, List.getElem_cons_succ])
          refine wpAnyH_take (i := 14) (v := ?v38) rfl (by kernel_rfl) (by kernel_rfl) (by kernel_rfl) (fun _ _ _ h => h) (Or.inl ⟨by rfl, ?hy38⟩) (by assumption) ?rest38
          case hy38 => intro w' hSw; (try dsimp only at hSw); go_simp; try with_reducible rfl
          (try simp only [Act.put, List.setIfInBounds_toArray, List.set_cons_zero, List.set_cons_succ, List.getElem_toArray, List.getElem_cons_zero, List.getElem_cons_succ])
          refine wpAnyH_take (i := 2) (v := ?v39) rfl (by kernel_rfl) (by kernel_rfl) (by kernel_rfl) (fun _ _ _ h => h) (Or.inl ⟨by rfl, ?hy39⟩) (by assumption) ?rest39
          case hy39 => intro w' hSw; obtain ⟨q0, q1, y0, y1, y2, y3⟩ := hY.out w' hSw; (try dsimp only at hSw); go_simp; try with_reducible rfl
          (try simp only [Act.put, List.setIfInBounds_toArray, List.set_cons_zero, List.set_cons_succ, List.getElem_toArray, List.getElem_cons_zero, List.getElem_cons_succ])
          refine wpAnyH_take (i := 3) (v := ?v40) rfl (by kernel_rfl) (by kernel_rfl) (by kernel_rfl) (fun _ _ _ h => h) (Or.inl ⟨by rfl, ?hy40⟩) (by assumption) ?rest40
          case hy40 => intro w' hSw; obtain ⟨q0, q1, y0, y1, y2, y3⟩ := hY.out w' hSw; (try dsimp only at hSw); go_simp; try with_reducible rfl
          (try simp only [Act.put, List.setIfInBounds_toArray, List.set_cons_zero, List.set_cons_succ, List.getElem_toArray, List.getElem_cons_zero, List.getElem_cons_succ])
          refine wpAnyH_take (i := 4) (v := ?v41) rfl (by kernel_rfl) (by kernel_rfl) (by kernel_rfl) (fun _ _ _ h => h) (Or.inl ⟨by rfl, ?hy41⟩) (by assumption) ?rest41
          case hy41 => intro w' hSw; obtain ⟨q0, q1, y0, y1, y2, y3⟩ := hY.out w' hSw; (try dsimp only at hSw); go_simp; try with_reducible rfl
          (try simp only [Act.put, List.setIfInBounds_toArray, List.set_cons_zero, List.set_cons_succ, List.getElem_toArray, List.getElem_cons_zero, List.getElem_cons_succ])
          refine wpAnyH_take (i := 6) (v := ?v42) rfl (by kernel_rfl) (by kernel_rfl) (by kernel_rfl) (fun _ _ _ h => h) (Or.inl ⟨by rfl, ?hy42⟩) (by assumption) ?rest42
          case hy42 => intro w' hSw; obtain ⟨q0, q1, y0, y1, y2, y3⟩ := hY.out w' hSw; (try dsimp only at hSw); go_simp; try with_reducible rfl
          (try simp only [Act.put, List.setIfInBounds_toArray, List.set_cons_zero, List.set_cons_succ, List.getElem_toArray, List.getElem_cons_zero, List.getElem_cons_succ])
          refine wpAnyH_take (i := 7) (v := ?v43) rfl (by kernel_rfl) (by kernel_rfl) (by kernel_rfl) (fun _ _ _ h => h) (Or.inl ⟨by rfl, ?hy43⟩) (by assumption) ?rest43
          case hy43 => intro w' hSw; obtain ⟨q0, q1, y0, y1, y2, y3⟩ := hY.out w' hSw; (try dsimp only at hSw); go_simp; try with_reducible rfl
          (try simp only [Act.put, List.setIfInBounds_toArray, List.set_cons_zero, List.set_cons_succ, List.getElem_toArray, List.getElem_cons_zero, List.getElem_cons_succ])
          refine wpAnyH_take (i := 8) (v := ?v44) rfl (by kernel_rfl) (by kernel_rfl) (by kernel_rfl) (fun _ _ _ h => h) (Or.inl ⟨by rfl, ?hy44⟩) (by assumption) ?rest44
          case hy44 => intro w' hSw; obtain ⟨q0, q1, y0, y1, y2, y3⟩ := hY.out w' hSw; (try dsimp only at hSw); go_simp; try with_reducible rfl
          (try simp only [Act.put, List.setIfInBounds_toArray, List.set_cons_zero, List.set_cons_succ, List.getElem_toArray, List.getElem_cons_zero, List.getElem_cons_succ])
          refine wpAnyH_take (i := 11) (v := ?v45) rfl (by kernel_rfl) (by kernel_rfl) (by kernel_rfl) (fun _ _ _ h => h) (Or.inl ⟨by rfl, ?hy45⟩) (by assumption) ?rest45
          case hy45 => intro w' hSw; obtain ⟨q0, q1, y0, y1, y2, y3⟩ := hY.out w' hSw; (try dsimp only at hSw); go_simp; try with_reducible rfl
          (try simp only [Act.put, List.setIfInBounds_toArray, List.set_cons_zero, List.set_cons_succ, List.getElem_toArray, List.getElem_cons_zero, List.getElem_cons_succ])
          refine wpAnyH_take (i := 12) (v := ?v46) rfl (by kernel_rfl) (by kernel_rfl) (by kernel_rfl) (fun _ _ _ h => h) (Or.inl ⟨by rfl, ?hy46⟩) (by assumption) ?rest46
          case hy46 => intro w' hSw; obtain ⟨q0, q1, y0, y1, y2, y3⟩ := hY.out w' hSw; (try dsimp only at hSw); go_simp; try with_reducible rfl
          (try simp only [Act.put, List.setIfInBounds_toArray, List.set_cons_zero, List.set_cons_succ, List.getElem_toArray, List.getElem_cons_zero, List.getElem_cons_succ])
          refine wpAnyH_take (i := 13) (v := ?v47) rfl (by kernel_rfl) (by kernel_rfl) (by kernel_rfl) (fun _ _ _ h => h) (Or.inl ⟨by rfl, ?hy47⟩) (by assumption) ?rest47
          case hy47 => intro w' hSw; obtain ⟨q0, q1, y0, y1, y2, y3⟩ := hY.out w' hSw; (try dsimp only at hSw); go_simp; try with_reducible rfl
          (try simp only [Act.put, List.setIfInBounds_toArray, List.set_cons_zero, List.set_cons_succ, List.getElem_toArray, List.getElem_cons_zero, List.getElem_cons_succ])
          refine wpAnyH_take (i := 15) (v := ?v48) rfl (by kernel_rfl) (by kernel_rfl) (by kernel_rfl) (fun _ _ _ h => h) (Or.inl ⟨by rfl, ?hy48⟩) (by assumption) ?rest48
          case hy48 => intro w' hSw; obtain ⟨q0, q1, y0, y1, y2, y3⟩ := hY.out w' hSw; (try dsimp only at hSw); go_simp; try with_reducible rfl
          (try simp only [Act.put, List.setIfInBounds_toArray, List.set_cons_zero, List.set_cons_succ, List.getElem_toArray, List.getElem_cons_zero, List.getElem_cons_succ])
          refine wpAnyH_take (i := 16) (v := ?v49) rfl (by kernel_rfl) (by kernel_rfl) (by kernel_rfl) (fun _ _ _ h => h) (Or.inl ⟨by rfl, ?hy49⟩) (by assumption) ?rest49
          case hy49 => intro w' hSw; obtain ⟨q0, q1, y0, y1, y2, y3⟩ := hY.out w' hSw; (try dsimp only at hSw); go_simp; try with_reducible rfl
          (try simp only [Act.put, List.setIfInBounds_toArray, List.set_cons_zero, List.set_cons_succ, List.getElem_toArray, List.getElem_cons_zero, List.getElem_cons_succ])
          refine wpAnyH_take (i := 17) (v := ?v50) rfl (by kernel_rfl) (by kernel_rfl) (by kernel_rfl) (fun _ _ _ h => h) (Or.inl ⟨by rfl, ?hy50⟩) (by assumption) ?rest50
          case hy50 => intro w' hSw; obtain ⟨q0, q1, y0, y1, y2, y3⟩ := hY.out w' hSw; (try dsimp only at hSw); go_simp; try with_reducible rfl
          (try simp only [Act.put, List.setIfInBounds_toArray, List.set_cons_zero, List.set_cons_succ, List.getElem_toArray, List.getElem_cons_zero, List.getElem_cons_succ])
          refine wpAnyH_ready (rs := [9]) (by kernel_rfl) (by simp) ?_
          refine AllReadyH.cons rfl (fun K hK => ?_) AllReadyH.nil
          go_simp
          refine (get_any x.1 hPr.out).mono ?_
          rintro e w1 ⟨rfl, hb10⟩
          rw [hval.out]
          have hb1 := hid hb10
          clear hb10
          refine hK.out _ _ ?_ (fun hHeld => ?_)
          · exact hbd.out.trans (hb1.out.mono hbd.out.size)
          clear hK K
          (try simp only [Act.put, List.setIfInBounds_toArray, List.set_cons_zero, List.set_cons_succ, List.getElem_toArray, List.getElem_cons_zero, List.getElem_cons_succ])
          refine wpAnyH_take (i := 18) (v := ?v51) rfl (by kernel_rfl) (by kernel_rfl) (by kernel_rfl) (fun _ _ _ h => h) (Or.inl ⟨by rfl, ?hy51⟩) (by assumption) ?rest51
          case hy51 => intro w' hSw; have hq := neqValF x.2; (try dsimp only at hSw); go_simp; try with_reducible rfl
          (try simp only [Act.put, List.setIfInBounds_toArray, List.set_cons_zero, List.set_cons_succ, List.getElem_toArray, List.getElem_cons_zero, List.getElem_cons_succ])
          refine wpAnyH_take (i := 19) (v := ?v52) rfl (by kernel_rfl) (by kernel_rfl) (by kernel_rfl) (fun _ _ _ h => h) (Or.inl ⟨by rfl, ?hy52⟩) (by assumption) ?rest52
          case hy52 => intro w' hSw; (try dsimp only at hSw); go_simp; try with_reducible rfl
          (try simp only [Act.put, List.setIfInBounds_toArray, List.set_cons_zero, List.set_cons_succ, List.getElem_toArray, List.getElem_cons_zero, List.getElem_cons_succ])
          refine wpAnyH_take (i := 20) (v := ?v53) rfl (by kernel_rfl) (by kernel_rfl) (by kernel_rfl) (fun _ _ _ h => h) (Or.inl ⟨by rfl, ?hy53⟩) (by assumption) ?rest53
          case hy53 => intro w' hSw; (try dsimp only at hSw); go_simp; try with_reducible rfl
          (try simp only [Act.put, List.setIfInBounds_toArray, List.set_cons_zero, List.set_cons_succ, List.getElem_toArray, List.getElem_cons_zero, List.getElem_cons_succ])
          refine wpAnyH_take (i := 21) (v := ?v54) rfl (by kernel_rfl) (by kernel_rfl) (by kernel_rfl) (fun _ _ _ h => h) (Or.inl ⟨by rfl, ?hy54⟩) (by assumption) ?rest54
          case hy54 => intro w' hSw; (try dsimp only at hSw); go_simp; try with_reducible rfl
          (try simp only [Act.put, List.setIfInBounds_toArray, List.set_cons_zero, List.set_cons_succ, List.getElem_toArray, List.getElem_cons_zero, List.getElem_cons_succ])
          refine wpAnyH_take (i := 25) (v := ?v55) rfl (by kernel_rfl) (by kernel_rfl) (by kernel_rfl) (fun _ _ _ h => h) (Or.inl ⟨by rfl, ?hy55⟩) (by assumption) ?rest55
          case hy55 => intro w' hSw; (try dsimp only at hSw); go_simp; try with_reducible rfl
          (try simp only [Act.put, List.setIfInBounds_toArray, List.set_cons_zero, List.set_cons_succ, List.getElem_toArray, List.getElem_cons_zero, List.getElem_cons_succ])
          refine wpAnyH_take (i := 22) (v := ?v56) rfl (by kernel_rfl) (by kernel_rfl) (by kernel_rfl) (fun _ _ _ h => h) (Or.inl ⟨by rfl, ?hy56⟩) (by assumption) ?rest56
          case hy56 => intro w' hSw; obtain ⟨q0, q1, y0, y1, y2, y3⟩ := hY.out w' hSw; (try dsimp only at hSw); go_simp; try with_reducible rfl
          (try simp only [Act.put, List.setIfInBounds_toArray, List.set_cons_zero, List.set_cons_succ, List.getElem_toArray, List.getElem_cons_zero, List.getElem_cons_succ])
          refine wpAnyH_take (i := 23) (v := ?v57) rfl (by kernel_rfl) (by kernel_rfl) (by kernel_rfl) (fun _ _ _ h => h) (Or.inl ⟨by rfl, ?hy57⟩) (by assumption) ?rest57
          case hy57 => intro w' hSw; obtain ⟨q0, q1, y0, y1, y2, y3⟩ := hY.out w' hSw; (try dsimp only at hSw); go_simp; try with_reducible rfl
          (try simp only [Act.put, List.setIfInBounds_toArray, List.set_cons_zero, List.set_cons_succ, List.getElem_toArray, List.getElem_cons_zero, List.getElem_cons_succ])
          refine wpAnyH_take (i := 24) (v := ?v58) rfl (by kernel_rfl) (by kernel_rfl) (by kernel_rfl) (fun _ _ _ h => h) (Or.inl ⟨by rfl, ?hy58⟩) (by assumption) ?rest58
          case hy58 => intro w' hSw; obtain ⟨q0, q1, y0, y1, y2, y3⟩ := hY.out w' hSw; (try dsimp only at hSw); go_simp; try with_reducible rfl
          (try simp only [Act.put, List.setIfInBounds_toArray, List.set_cons_zero, List.set_cons_succ, List.getElem_toArray, List.getElem_cons_zero, List.getElem_cons_succ])
          refine wpAnyH_take (i := 26) (v := ?v59) rfl (by kernel_rfl) (by kernel_rfl) (by kernel_rfl) (fun _ _ _ h => h) (Or.inl ⟨by rfl, ?hy59⟩) (by assumption) ?rest59
          case hy59 => intro w' hSw; obtain ⟨q0, q1, y0, y1, y2, y3⟩ := hY.out w' hSw; (try dsimp only at hSw); go_simp; try with_reducible rfl
          (try simp only [Act.put, List.setIfInBounds_toArray, List.set_cons_zero, List.set_cons_succ, List.getElem_toArray, List.getElem_cons_zero, List.getElem_cons_succ])
          refine wpAnyH_take (i := 27) (v := ?v60) rfl (by kernel_rfl) (by kernel_rfl) (by kernel_rfl) (fun _ _ _ h => h) (Or.inl ⟨by rfl, ?hy60⟩) (by assumption) ?rest60
          case hy60 => intro w' hSw; obtain ⟨q0, q1, y0, y1, y2, y3⟩ := hY.out w' hSw; (try dsimp only at hSw); go_simp; try with_reducible rfl
          (try simp only [Act.put, List.setIfInBounds_toArray, List.set_cons_zero, List.set_cons_succ, List.getElem_toArray, List.getElem_cons_zero, List.getElem_cons_succ])
          refine wpAnyH_take (i := 28) (v := ?v61) rfl (by kernel_rfl) (by kernel_rfl) (by kernel_rfl) (fun _ _ _ h => h) (Or.inl ⟨by rfl, ?hy61⟩) (by assumption) ?rest61
          case hy61 => intro w' hSw; obtain ⟨q0, q1, y0, y1, y2, y3⟩ := hY.out w' hSw; (try dsimp only at hSw); go_simp; try with_reducible rfl
          (try simp only [Act.put, List.setIfInBounds_toArray, List.set_cons_zero, List.set_cons_succ, List.getElem_toArray, List.getElem_cons_zero, List.getElem_cons_succ])
          refine wpAnyH_ready (rs := [29]) (by kernel_rfl) (by simp) ?_
          refine AllReadyH.cons rfl (fun K hK => ?_) AllReadyH.nil
          rw [if_pos (by rfl)]
          go_simp
          refine (claimed_any x.1 (hPr.out.below hb1.out) hks.out).mono ?_
          rintro e wq ⟨rfl, n1, hwq⟩
          rw [hhas.out]
          have hb2 : Hid (Below wv.heap.size wv wq) := hid (by rw [hwq]; exact below_drewN hb1.out _)
          clear hwq hb1
          refine hK.out _ _ ?_ (fun hHeld => ?_)
          · exact hbd.out.trans (hb2.out.mono hbd.out.size)
          clear hK K
          (try simp only [Act.put, List.setIfInBounds_toArray, List.set_cons_zero, List.set_cons_succ, List.getElem_toArray, List.getElem_cons_zero, List.getElem_cons_succ])
          refine wpAnyH_take (i := 30) (v := ?v62) rfl (by kernel_rfl) (by kernel_rfl) (by kernel_rfl) (fun _ _ _ h => h) (Or.inl ⟨by rfl, ?hy62⟩) (by assumption) ?rest62
          case hy62 => intro w' hSw; (try dsimp only at hSw); go_simp; try with_reducible rfl
          (try simp only [Act.put, List.setIfInBounds_toArray, List.set_cons_zero, List.set_cons_succ, List.getElem_toArray, List.getElem_cons_zero, List.getElem_cons_succ])
          refine wpAnyH_take (i := 31) (v := ?v63) rfl (by kernel_rfl) (by kernel_rfl) (by kernel_rfl) (fun _ _ _ h => h) (Or.inl ⟨by rfl, ?hy63⟩) (by assumption) ?rest63
          case hy63 => intro w' hSw; (try dsimp only at hSw); go_simp; try with_reducible rfl
          (try simp only [Act.put, List.setIfInBounds_toArray, List.set_cons_zero, List.set_cons_succ, List.getElem_toArray, List.getElem_cons_zero, List.getElem_cons_succ])
          refine wpAnyH_done (by kernel_rfl) ?_ _
          go_wp2_with fail
          go_roundw
          case rel => exact ⟨i + 1, by go_num, hlt9.out, hb.out.trans ((hbd.out.trans (hb2.out.mono hbd.out.size)).mono hb.out.size)⟩
          case measure => simp [intOf]; have := hlt9.out; omega
        · obtain rfl : i = s.L.length := by omega
          have hfin := hid (hB9.out.trans (hb.out.mono hB9.out.size))
          clear hPr0 hin hlt d0 d1
          go_wp2_with fail
          go_ret
          exact ⟨rfl, hfin.out⟩
end
end Go.Proofs.YtphglnenafdkaaaGreatDoor

namespace Go.Proofs.YtphglnenafdkaaaGreatDoor
open Go.RowKit
set_option linter.unusedVariables false
set_option linter.unusedSimpArgs false

/-- a row in a block of its own, from a base on -/
def RowB (base : Nat) (w : World) (e : TypeId) (size : Nat) (A : Option Addr) (n : Nat) : Prop := 0 < n → ∃ b cs, A = some ⟨b, 0, none⟩ ∧ base ≤ b ∧ Blk w b e cs ∧ n * size ≤ cs.size
section
variable {w w' : World} {base : Nat} {e : TypeId} {size n : Nat} {A : Option Addr}
theorem RowB.of_own {c : Nat} {xs : List Value} (h : w.ownsRow base e size (.slice A n c) n xs) : RowB base w e size A n := fun hn => by
  rcases h.2 with ⟨h0, h1⟩ | ⟨g', cap', cur, hv', hb, hh, hc', _, hs', _⟩
  · injection h0 with _ h0; omega
  · injection hv' with h1
    exact ⟨g', cur, h1, hb, hh, by rw [hs']; exact Nat.mul_le_mul_right _ hc'⟩
theorem RowB.mono (h : RowB base w e size A n) {b : Nat} (hb : b ≤ base) : RowB b w e size A n := fun hn => by
  obtain ⟨g, cs, h1, h2, h3⟩ := h hn
  exact ⟨g, cs, h1, Nat.le_trans hb h2, h3⟩
theorem RowB.below (h : RowB base w e size A n) (hb : Below w.heap.size w w') : RowB base w' e size A n := fun hn => by
  obtain ⟨g, cs, h1, h2, h3, h4⟩ := h hn
  exact ⟨g, cs, h1, h2, h3.below_all hb, h4⟩
theorem RowB.updT {b : Nat} {t : TypeId} {cs : Array Value} (h : RowB base w e size A n) (hu : Upd (fun q => q = b) w w') (hb : Blk w b t cs) (hne : e ≠ t) : RowB base w' e size A n := fun hn => by
  obtain ⟨g, cs', h1, h2, h3, h4⟩ := h hn
  exact ⟨g, cs', h1, h2, h3.upd hu (h3.ne_ hb hne), h4⟩
end
section
variable {S S2 : Nat → Prop} {w w' : World} {g r : Nat} {s : St}
set_option maxRecDepth 100000 in
set_option maxHeartbeats 8000000 in
theorem fresh_any (h1 : PAt S w g s) (h2 : RAt S2 w r s) (he : Env w) (hr : RngL s.L) : Calls Tryz.prog 30 #[.pointer (some ⟨g, 0, none⟩), .pointer (some ⟨r, 0, none⟩)] w fun e w' => e = .returned (.bool true) ∧ Below w.heap.size w w' := by
  have hP := hid h1
  have hR := hid h2
  have hE := hid he
  have hRng := hid hr
  have hll := hid h1.ok.len
  have hpp := hid h1.ok.parts
  have hrr := hid h1.ok.room
  clear h1 h2 he hr
  go_enter Tryz.func30, Tryz.ntmps30
  go_wp2_with fail
  refine (dumpM_any hP.out).mono ?_
  rintro e w1 ⟨A1, c1, rfl, ho1, hb1⟩
  have r1 := hid (RowB.of_own ho1)
  have hB1 := hid hb1
  clear ho1 hb1
  go_wp2_with fail
  refine (keys_any (hP.out.below hB1.out)).mono ?_
  rintro e w2 ⟨A2, c2, rfl, ho2, hb2⟩
  have r1 := hid (r1.out.below hb2)
  have r2 := hid (RowB.of_own ho2)
  have hB2 := hid (hB1.out.trans (hb2.mono hB1.out.size))
  clear ho2 hb2
  go_wp2_with fail
  have hln := hid (bytesTo_len (s := s) (fun x hx => line_len (hP.out.ok.key x hx) (hP.out.ok.val x hx) (hRng.out x hx)) (head_len (by have := hpp.out; omega) (by have := hrr.out; omega)) hll.out)
  have hbl : Hid ((bytesS s).length ≤ 100000000) := hid (by rw [← bytesTo_all]; exact hln.out _)
  clear hln
  refine (bytes_any (hP.out.below hB2.out) (hE.out.below hB2.out) hRng.out).mono ?_
  rintro e w3 ⟨v3, rfl, ho3, hb3⟩
  obtain ⟨A3, c3, rfl, _⟩ := own_form ho3
  have r1 := hid ((r1.out.below hb3).mono (b := w.heap.size) (by omega))
  have r2 := hid ((r2.out.below hb3).mono (b := w.heap.size) hB1.out.size)
  have r3 := hid ((RowB.of_own ho3).mono (b := w.heap.size) hB2.out.size)
  have hB := hid (hB2.out.trans (hb3.mono hB2.out.size))
  have hd1 : (dumpL s.L).length ≤ s.L.length := List.length_filter_le _ _
  have hmr1 := hid (show (dumpL s.L).length ≤ 262144 by have := hll.out; omega)
  have hmr2 := hid (show s.L.length ≤ 262144 from hll.out)
  have hmr3 := hbl
  clear hB1 hB2 ho3 hb3 hd1 hll hpp hrr hbl
  generalize (dumpL s.L).length = n1 at *
  generalize hl2 : s.L.length = n2 at *
  generalize (bytesS s).length = n3 at *
  clear hl2
  go_wp2_with fail
  go_loopw [8] (fun v wr => ∃ k : Nat, v = .int .i64 k ∧ k ≤ n1 ∧ Below w.heap.size w wr ∧ RowB w.heap.size wr 70 4 A1 n1 ∧ RowB w.heap.size wr 9 1 A2 n2 ∧ RowB w.heap.size wr 5 1 A3 n3) (fun v _ => n1 - (intOf v).toNat)
  case atStart => exact ⟨0, rfl, Nat.zero_le _, hB.out, r1.out, r2.out, r3.out⟩
  case round =>
    clear r1 r2 r3 hB
    obtain ⟨k, rfl, hk, hB0, r10, r20, r30⟩ := hrel
    have hB := hid hB0
    have r1 := hid r10
    have r2 := hid r20
    have r3 := hid r30
    clear hB0 r10 r20 r30
    by_cases hlt : k < n1
    · obtain ⟨b, cs, hAe, hbb, hbk0, hsz0⟩ := r1.out (by omega)
      have hbk := hid hbk0
      have hs9 := hid hsz0
      have hb9 := hid hbb
      have i1 : (k : Int) < (n1 : Int) := by omega
      have i2 : IntKind.i64.wrap ((k : Int) + 1) = (k : Int) + 1 := by rw [IntKind.wrap_i64]; have := hmr1.out; omega
      obtain ⟨u0, hu_0⟩ : ∃ u, cs[k * 4]? = some u := ⟨_, Array.getElem?_eq_getElem (by omega)⟩
      obtain ⟨u1, hu_1⟩ : ∃ u, cs[k * 4 + 1]? = some u := ⟨_, Array.getElem?_eq_getElem (by omega)⟩
      obtain ⟨u2, hu_2⟩ : ∃ u, cs[k * 4 + 2]? = some u := ⟨_, Array.getElem?_eq_getElem (by omega)⟩
      obtain ⟨u3, hu_3⟩ : ∃ u, cs[k * 4 + 3]? = some u := ⟨_, Array.getElem?_eq_getElem (by omega)⟩
      have y0 : wr.cell? ⟨b, k * 4, none⟩ = some u0 := (hbk.out.cell (k * 4)).trans hu_0
      have y1 : wr.cell? ⟨b, k * 4 + 1, none⟩ = some u1 := (hbk.out.cell (k * 4 + 1)).trans hu_1
      have y2 : wr.cell? ⟨b, k * 4 + 2, none⟩ = some u2 := (hbk.out.cell (k * 4 + 2)).trans hu_2
      have y3 : wr.cell? ⟨b, k * 4 + 3, none⟩ = some u3 := (hbk.out.cell (k * 4 + 3)).trans hu_3
      have fz := fun q => hbk.out.frozen q
      rw [hAe]
      have hAe := hid hAe
      have hlH := hid hlt
      clear hbk0 hsz0 hbb hu_0 hu_1 hu_2 hu_3 hk hlt
      go_wp2_with fail
      go_roundw
      case rel =>
        have hu := (((((Upd.refl (fun q => q = b) wr).setCell (p := ⟨b, k * 4, none⟩) (fun _ => rfl) (.string ⟨#[115, 112, 111, 105, 108, 116]⟩)).setCell (p := ⟨b, k * 4 + 1, none⟩) (fun _ => rfl) (.int .i64 0)).setCell (p := ⟨b, k * 4 + 2, none⟩) (fun _ => rfl) (.int .i64 0)).setCell (p := ⟨b, k * 4 + 3, none⟩) (fun _ => rfl) (.string ⟨#[]⟩))
        exact ⟨k + 1, rfl, by have := hlH.out; omega, hB.out.trans (hu.below hB.out.size fun q hq e => by have := hb9.out; omega), fun _ => ⟨b, _, (by first | rfl | exact hAe.out), hb9.out, ((((hbk.out.set_ (k * 4) _).set_ (k * 4 + 1) _).set_ (k * 4 + 2) _).set_ (k * 4 + 3) _), by have := hs9.out; simpa using this⟩, r2.out.updT hu hbk.out (by decide), r3.out.updT hu hbk.out (by decide)⟩
      case measure => simp [intOf]; have := hlH.out; omega
    · have i1 : ¬ ((k : Int) < (n1 : Int)) := by omega
      clear hlt hk r1
      go_wp2_with fail
      rename World => w7
      go_loopw [9] (fun v wr => ∃ k : Nat, v = .int .i64 k ∧ k ≤ n2 ∧ Below w.heap.size w wr ∧ RowB w.heap.size wr 9 1 A2 n2 ∧ RowB w.heap.size wr 5 1 A3 n3) (fun v _ => n2 - (intOf v).toNat)
      case atStart => exact ⟨0, rfl, Nat.zero_le _, hB.out, r2.out, r3.out⟩
      case round =>
        clear r2 r3 hB
        obtain ⟨k, rfl, hk, hB0, r20, r30⟩ := hrel
        have hB := hid hB0
        have r2 := hid r20
        have r3 := hid r30
        clear hB0 r20 r30
        by_cases hlt : k < n2
        · obtain ⟨b, cs, hAe, hbb, hbk0, hsz0⟩ := r2.out (by omega)
          have hbk := hid hbk0
          have hs9 := hid hsz0
          have hb9 := hid hbb
          have i1 : (k : Int) < (n2 : Int) := by omega
          have i2 : IntKind.i64.wrap ((k : Int) + 1) = (k : Int) + 1 := by rw [IntKind.wrap_i64]; have := hmr2.out; omega
          obtain ⟨u0, hu_0⟩ : ∃ u, cs[k]? = some u := ⟨_, Array.getElem?_eq_getElem (by omega)⟩
          have y0 : wr.cell? ⟨b, k, none⟩ = some u0 := (hbk.out.cell (k)).trans hu_0
          have fz := fun q => hbk.out.frozen q
          rw [hAe]
          have hAe := hid hAe
          have hlH := hid hlt
          clear hbk0 hsz0 hbb hu_0 hk hlt
          go_wp2_with fail
          go_roundw
          case rel =>
            have hu := ((Upd.refl (fun q => q = b) wr).setCell (p := ⟨b, k, none⟩) (fun _ => rfl) (.string ⟨#[115, 112, 111, 105, 108, 116]⟩))
            exact ⟨k + 1, rfl, by have := hlH.out; omega, hB.out.trans (hu.below hB.out.size fun q hq e => by have := hb9.out; omega), fun _ => ⟨b, _, (by first | rfl | exact hAe.out), hb9.out, (hbk.out.set_ (k) _), by have := hs9.out; simpa using this⟩, r3.out.updT hu hbk.out (by decide)⟩
          case measure => simp [intOf]; have := hlH.out; omega
        · have i1 : ¬ ((k : Int) < (n2 : Int)) := by omega
          clear hlt hk r2
          go_wp2_with fail
          rename World => w8
          go_loopw [10] (fun v wr => ∃ k : Nat, v = .int .i64 k ∧ k ≤ n3 ∧ Below w.heap.size w wr ∧ RowB w.heap.size wr 5 1 A3 n3) (fun v _ => n3 - (intOf v).toNat)
          case atStart => exact ⟨0, rfl, Nat.zero_le _, hB.out, r3.out⟩
          case round =>
            clear r3 hB
            obtain ⟨k, rfl, hk, hB0, r30⟩ := hrel
            have hB := hid hB0
            have r3 := hid r30
            clear hB0 r30
            by_cases hlt : k < n3
            · obtain ⟨b, cs, hAe, hbb, hbk0, hsz0⟩ := r3.out (by omega)
              have hbk := hid hbk0
              have hs9 := hid hsz0
              have hb9 := hid hbb
              have i1 : (k : Int) < (n3 : Int) := by omega
              have i2 : IntKind.i64.wrap ((k : Int) + 1) = (k : Int) + 1 := by rw [IntKind.wrap_i64]; have := hmr3.out; omega
              obtain ⟨u0, hu_0⟩ : ∃ u, cs[k]? = some u := ⟨_, Array.getElem?_eq_getElem (by omega)⟩
              have y0 : wr.cell? ⟨b, k, none⟩ = some u0 := (hbk.out.cell (k)).trans hu_0
              have fz := fun q => hbk.out.frozen q
              rw [hAe]
              have hAe := hid hAe
              have hlH := hid hlt
              clear hbk0 hsz0 hbb hu_0 hk hlt
              go_wp2_with fail
              go_roundw
              case rel =>
                have hu := ((Upd.refl (fun q => q = b) wr).setCell (p := ⟨b, k, none⟩) (fun _ => rfl) (.int .u8 120))
                exact ⟨k + 1, rfl, by have := hlH.out; omega, hB.out.trans (hu.below hB.out.size fun q hq e => by have := hb9.out; omega), fun _ => ⟨b, _, (by first | rfl | exact hAe.out), hb9.out, (hbk.out.set_ (k) _), by have := hs9.out; simpa using this⟩⟩
              case measure => simp [intOf]; have := hlH.out; omega
            · have i1 : ¬ ((k : Int) < (n3 : Int)) := by omega
              clear hlt hk r3
              have hPf := hid (hP.out.below hB.out)
              have hRf := hid (hR.out.below hB.out)
              have hEf := hid (hE.out.below hB.out)
              go_wp2_with fail
              refine (stands_any hPf.out hRf.out hEf.out hRng.out).mono ?_
              rintro e wf ⟨rfl, hbf⟩
              have hfin := hid (hB.out.trans (hbf.mono hB.out.size))
              clear hbf
              go_wp2_with fail
              go_ret
              exact ⟨rfl, hfin.out⟩
end
end Go.Proofs.YtphglnenafdkaaaGreatDoor

