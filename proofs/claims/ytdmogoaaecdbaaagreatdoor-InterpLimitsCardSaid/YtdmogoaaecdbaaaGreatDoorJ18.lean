/- Texts of the proof, joined: INorm, IFoot, IOc, IRunR. -/
import Derived.Test.YtdmogoaaecdbaaaGreatDoorJ17
namespace Go.Proofs.YtdmogoaaecdbaaaGreatDoor
open Go.RowKit
set_option linter.unusedVariables false
set_option linter.unusedSimpArgs false

theorem dft_some (rs ws : List ByteArray) (x : ByteArray) : x ∈ uniq (rs ++ ws) ↔ (Dft rs ws x).isSome = true := by
  rw [uniq_mem, List.mem_append, ← memB_iff, ← memB_iff]
  unfold Dft useN
  cases memB x rs <;> cases memB x ws <;> simp
theorem own_setOtherI {w : World} {base : Nat} {e t : TypeId} {size n g : Nat} {v : Value} {xs : List Value} {cs : Array Value} (h : w.ownsRow base e size v n xs) (hb : Blk w g t cs) (hne : e ≠ t) (j : Nat) (u : Value) : (w.setCell ⟨g, j, none⟩ u).ownsRow base e size v n xs := by
  refine ⟨h.1, ?_⟩
  rcases h.2 with hn | ⟨g', cap, cur, rfl, hbb, hh, rest⟩
  · exact .inl hn
  · refine .inr ⟨g', cap, cur, rfl, hbb, (Below.heap_setCell w ⟨g, j, none⟩ u g' ?_).trans hh, rest⟩
    rintro rfl
    unfold Blk at hb
    rw [hh] at hb
    injection hb with hb
    injection hb with _ ht
    exact hne ht
theorem norm_res {W : World} {n : Nat} {A1 A2 : Option Addr} {n1 c1 n2 c2 : Nat} {tmps : Array Value} (ha : Blk W n 27 #[.slice A1 n1 c1, .slice A2 n2 c2]) (h2 : tmps.getD 2 undef = .pointer (some ⟨n, 0, none⟩)) (h3 : tmps.getD 3 undef = .int .i64 0) :
    (results Tryz.f73 tmps).run Tryz.prog W = .ok (.tuple #[.agg #[.slice A1 n1 c1, .slice A2 n2 c2], .int .i64 0]) W := by
  have x0 := ha.cell 0
  have x1 := ha.cell 1
  simp only [List.getElem?_toArray, List.getElem?_cons_zero, List.getElem?_cons_succ] at x0 x1
  have g2 : tmps[2]?.getD undef = .pointer (some ⟨n, 0, none⟩) := by simpa using h2
  have g3 : tmps[3]?.getD undef = .int .i64 0 := by simpa using h3
  simp [Go.results, Tryz.results73, asAddr, g2, g3, go_sem, x0, x1]
section
variable {w : World} {rs ws : List ByteArray} {Ar Aw : Option Addr} {cr cw : Nat} {Sr Sw : Nat → Prop}
theorem validK_size {k : ByteArray} (h : validK k = true) : k.size ≤ 32 := by
  unfold validK at h
  simp at h
  omega
set_option maxRecDepth 100000 in
set_option maxHeartbeats 4000000 in
theorem norm_any (hr : Rd Sr w 1 Ar rs.length (strs rs)) (hw : Rd Sw w 1 Aw ws.length (strs ws)) (hl : rs.length + ws.length ≤ 262144) (hkr : ∀ k ∈ rs, validK k = true) (hkw : ∀ k ∈ ws, validK k = true) (hfew : (uniq (rs ++ ws)).length ≤ 64) : Calls Tryz.prog 73 #[.agg #[.slice Ar rs.length cr, .slice Aw ws.length cw]] w fun e w' => ∃ A1 c1 A2 c2, e = .returned (.tuple #[.agg #[.slice A1 (srtK rs).length c1, .slice A2 (srtK ws).length c2], .int .i64 0]) ∧ w'.ownsRow w.heap.size 9 1 (.slice A1 (srtK rs).length c1) (srtK rs).length (strs (srtK rs)) ∧ w'.ownsRow w.heap.size 9 1 (.slice A2 (srtK ws).length c2) (srtK ws).length (strs (srtK ws)) ∧ Below w.heap.size w w' := by
  have hrr := hid hr
  have hww := hid hw
  have hln := hid hl
  have hr9 := hid hkr
  have hw9 := hid hkw
  have hf9 := hid hfew
  clear hr hw hl hkr hkw hfew
  go_enter Tryz.func73, Tryz.ntmps73
  go_upto_region 1 with fail
  have hb : Hid (Below w.heap.size w (((w.alloc (.cells #[.slice Ar rs.length cr, .slice Aw ws.length cw] 27)).alloc (.cells #[.slice none 0 0, .slice none 0 0] 27)).alloc (.cells #[.slice Ar rs.length cr, .slice Aw ws.length cw] 25))) := hid ((((Below.refl _ _).alloc (Nat.le_refl _) _).alloc (by simp) _).alloc (by simp; omega) _)
  have k0 := hid (((Blk.new w 27 #[.slice Ar rs.length cr, .slice Aw ws.length cw]).alloc (.cells #[.slice none 0 0, .slice none 0 0] 27)).alloc (.cells #[.slice Ar rs.length cr, .slice Aw ws.length cw] 25))
  have k1 := hid ((Blk.new' (w.alloc (.cells #[.slice Ar rs.length cr, .slice Aw ws.length cw] 27)) 27 #[.slice none 0 0, .slice none 0 0] (g := w.heap.size + 1) (by simp)).alloc (.cells #[.slice Ar rs.length cr, .slice Aw ws.length cw] 25))
  have k2 := hid (Blk.new' ((w.alloc (.cells #[.slice Ar rs.length cr, .slice Aw ws.length cw] 27)).alloc (.cells #[.slice none 0 0, .slice none 0 0] 27)) 25 #[.slice Ar rs.length cr, .slice Aw ws.length cw] (g := w.heap.size + 1 + 1) (by simp))
  go_upto_region 2 with fail
  have hs9 : Hid ((((w.alloc (.cells #[.slice Ar rs.length cr, .slice Aw ws.length cw] 27)).alloc (.cells #[.slice none 0 0, .slice none 0 0] 27)).alloc (.cells #[.slice Ar rs.length cr, .slice Aw ws.length cw] 25)).heap.size = w.heap.size + 3) := hid (by simp)
  generalize (((w.alloc (.cells #[.slice Ar rs.length cr, .slice Aw ws.length cw] 27)).alloc (.cells #[.slice none 0 0, .slice none 0 0] 27)).alloc (.cells #[.slice Ar rs.length cr, .slice Aw ws.length cw] 25)) = W0 at *
  go_wp2_with fail
  go_loopw [15] (fun v wr => ∃ i : Nat, v = .int .i64 i ∧ i ≤ 2 ∧ wr = W0) (fun v _ => 2 - (intOf v).toNat)
  case atStart => exact ⟨0, rfl, Nat.zero_le _, rfl⟩
  case round =>
    obtain ⟨i, rfl, hil, hW⟩ := hrel
    have hW := hW.symm
    subst hW
    obtain rfl | rfl | rfl : i = 0 ∨ i = 1 ∨ i = 2 := by omega
    · have y1 : W0.cell? ⟨w.heap.size + 1 + 1, 0, none⟩ = some (.slice Ar rs.length cr) := k2.out.cell 0
      go_wp2_with fail
      go_loopw [21] (fun v wr => ∃ j : Nat, v = .int .i64 j ∧ j ≤ rs.length ∧ wr = W0) (fun v _ => rs.length - (intOf v).toNat)
      case atStart => exact ⟨0, rfl, Nat.zero_le _, rfl⟩
      case round =>
        obtain ⟨j, rfl, hjl, hW⟩ := hrel
        have hW := hW.symm
        subst hW
        by_cases hlt : j < rs.length
        · have i1 : (j : Int) < (rs.length : Int) := by omega
          have i2 : IntKind.i64.wrap ((j : Int) + 1) = (j : Int) + 1 := by rw [IntKind.wrap_i64]; have := hln.out; omega
          obtain ⟨b9, o9, hA9, _, _, y0⟩ := rd_strs (hrr.out.below_all hb.out) hlt
          obtain rfl := hA9
          have hv9 := hr9.out _ (List.getElem_mem hlt)
          generalize rs[j] = key at *
          have hlt9 := hid hlt
          have hvc := validk_any key W0 (by have := (validK_size hv9); omega)
          rw [hv9] at hvc
          clear hlt hjl hv9
          go_wp2_with fail
          refine hvc.mono ?_
          rintro e w2 ⟨rfl, rfl⟩
          clear hvc
          go_wp2_with fail
          go_roundw
          case rel => exact ⟨j + 1, by go_num, hlt9.out, trivial⟩
          case measure => simp [intOf]; have := hlt9.out; omega
        · obtain rfl : j = rs.length := by omega
          clear hlt hjl
          go_wp2_with fail
          go_roundw
          case rel => exact ⟨1, by simp, by decide, trivial⟩
          case measure => simp [intOf]
    · have y1 : W0.cell? ⟨w.heap.size + 1 + 1, 1, none⟩ = some (.slice Aw ws.length cw) := k2.out.cell 1
      go_wp2_with fail
      go_loopw [21] (fun v wr => ∃ j : Nat, v = .int .i64 j ∧ j ≤ ws.length ∧ wr = W0) (fun v _ => ws.length - (intOf v).toNat)
      case atStart => exact ⟨0, rfl, Nat.zero_le _, rfl⟩
      case round =>
        obtain ⟨j, rfl, hjl, hW⟩ := hrel
        have hW := hW.symm
        subst hW
        by_cases hlt : j < ws.length
        · have i1 : (j : Int) < (ws.length : Int) := by omega
          have i2 : IntKind.i64.wrap ((j : Int) + 1) = (j : Int) + 1 := by rw [IntKind.wrap_i64]; have := hln.out; omega
          obtain ⟨b9, o9, hA9, _, _, y0⟩ := rd_strs (hww.out.below_all hb.out) hlt
          obtain rfl := hA9
          have hv9 := hw9.out _ (List.getElem_mem hlt)
          generalize ws[j] = key at *
          have hlt9 := hid hlt
          have hvc := validk_any key W0 (by have := (validK_size hv9); omega)
          rw [hv9] at hvc
          clear hlt hjl hv9
          go_wp2_with fail
          refine hvc.mono ?_
          rintro e w2 ⟨rfl, rfl⟩
          clear hvc
          go_wp2_with fail
          go_roundw
          case rel => exact ⟨j + 1, by go_num, hlt9.out, trivial⟩
          case measure => simp [intOf]; have := hlt9.out; omega
        · obtain rfl : j = ws.length := by omega
          clear hlt hjl
          go_wp2_with fail
          go_roundw
          case rel => exact ⟨2, by simp, by decide, trivial⟩
          case measure => simp [intOf]
    · have x0 := k0.out.cell 0
      have x1 := k0.out.cell 1
      simp only [List.getElem?_toArray, List.getElem?_cons_zero, List.getElem?_cons_succ] at x0 x1
      have hof := of_any2 (cr := cr) (cw := cw) (hrr.out.below_all hb.out) (hww.out.below_all hb.out) (by have := hln.out; omega)
      go_upto_region 12 with fail
      refine hof.mono ?_
      rintro e w2 ⟨b, rfl, hmf0, hb20, hbb0⟩
      have hmf := hid hmf0
      have hb2 := hid hb20
      have hbb := hid hbb0
      clear hmf0 hb20 hbb0 hof
      have hlm := hid (hmf.out.len Tryz.underlying170 3 _ (uniq_nodup _) (dft_some rs ws))
      generalize (uniq (rs ++ ws)).length = nu at *
      have t1 : decide ((64 : Int) < (nu : Int)) = false := decide_eq_false (by have := hf9.out; omega)
      have t1n : decide (64 < nu) = false := decide_eq_false (by have := hf9.out; omega)
      have hlm := hlm.out
      have k3 := hid (keys1_any hmf.out hln.out)
      have k1b := hid (k1.out.below_all hb2.out)
      go_upto_region 14 with fail
      clear hlm
      go_wp2_with fail
      refine k3.out.mono ?_
      rintro e w3 ⟨A1, c1, rfl, ho10, hb30⟩
      have ho1 := hid ho10
      have hb3 := hid hb30
      have k4 := hid (keys2_any (hmf.out.below hb30) hln.out)
      clear ho10 hb30 k3
      go_wp2_with fail
      refine k4.out.mono ?_
      rintro e w4 ⟨A2, c2, rfl, ho20, hb40⟩
      have ho2 := hid ho20
      have hb4 := hid hb40
      clear ho20 hb40 k4
      have hsz := hid (show w.heap.size + 3 ≤ w2.heap.size ∧ w2.heap.size ≤ w3.heap.size ∧ w3.heap.size ≤ w4.heap.size from ⟨by have := hs9.out; have := hb2.out.size; omega, hb3.out.size, hb4.out.size⟩)
      have k5 := hid ((k1b.out.below_all hb3.out).below_all hb4.out)
      have xo := k5.out.cell 0
      have xp := k5.out.cell 1
      simp only [List.getElem?_toArray, List.getElem?_cons_zero, List.getElem?_cons_succ] at xo xp
      have xf := fun q => k5.out.frozen q
      go_wp2_with fail
      have k6 := hid (Blk.set_ (Blk.set_ k5.out 0 (.slice A1 (srtK rs).length c1)) 1 (.slice A2 (srtK ws).length c2))
      refine bodyPost_ret (v := .tuple #[.agg #[.slice A1 (srtK rs).length c1, .slice A2 (srtK ws).length c2], .int .i64 0]) (norm_res (n := w.heap.size + 1) k6.out (by simp) (by simp)) rfl ⟨A1, c1, A2, c2, rfl, ?_, ?_, ?_⟩
      · refine own_setOtherI (own_setOtherI ?_ k5.out (by decide) _ _) (Blk.set_ k5.out 0 _) (by decide) _ _
        exact own_below (own_base (by have := hsz.out; omega) ho1.out) hb4.out
      · refine own_setOtherI (own_setOtherI ?_ k5.out (by decide) _ _) (Blk.set_ k5.out 0 _) (by decide) _ _
        exact own_base (by have := hsz.out; omega) ho2.out
      · have h1 := (hb.out.trans (hb2.out.mono (by have := hs9.out; omega))).trans ((hb3.out.trans (hb4.out.mono (by have := hsz.out; omega))).mono (by have := hsz.out; omega))
        exact (h1.setCell (by simp) _).setCell (by simp) _
end
end Go.Proofs.YtdmogoaaecdbaaaGreatDoor

namespace Go.Proofs.YtdmogoaaecdbaaaGreatDoor
open Go.RowKit
set_option linter.unusedVariables false
set_option linter.unusedSimpArgs false

theorem ascI_mem {L : List Kv} (h : Asc L) {x : Kv} : x ∈ L ↔ hasK x.1 L = true ∧ valK x.1 L = x.2 := by
  constructor
  · intro hx
    exact ⟨hasK_mem.2 ⟨x, hx, rfl⟩, valK_mem h hx⟩
  · rintro ⟨h1, h2⟩
    obtain ⟨y, hy, e⟩ := hasK_mem.1 h1
    have h3 := valK_mem h hy
    rw [e] at h3
    have : x = y := Prod.ext e.symm (by rw [← h2, h3])
    rw [this]; exact hy
theorem ascI_nd {L : List Kv} (h : Asc L) : L.Nodup := by
  have h1 := asc_nodup h
  rw [List.nodup_iff_pairwise_ne, List.pairwise_map] at h1
  rw [List.nodup_iff_pairwise_ne]
  exact h1.imp fun h e => h (by rw [e])
theorem ascI_ext {L M : List Kv} (hL : Asc L) (hM : Asc M) (h1 : ∀ k, hasK k L = hasK k M) (h2 : ∀ k, valK k L = valK k M) : L = M :=
  asc_eq hL hM ((List.perm_ext_iff_of_nodup (ascI_nd hL) (ascI_nd hM)).2 fun x => by rw [ascI_mem hL, ascI_mem hM, h1, h2])
theorem srtL_congr {l m : List ByteArray} (h : ∀ k, k ∈ l ↔ k ∈ m) : srtL l = srtL m := by
  unfold srtL
  have e : Asc ([] : List Kv) := by unfold Asc; exact List.Pairwise.nil
  refine ascI_ext (insAll_asc e) (insAll_asc e) (fun k => ?_) fun k => by rw [insAll_val e, insAll_val e]
  rw [insAll_has, insAll_has]
  congr 1
  · rw [Bool.eq_iff_iff, List.any_eq_true, List.any_eq_true]
    constructor
    · rintro ⟨j, hj, e⟩; exact ⟨j, (h j).1 hj, e⟩
    · rintro ⟨j, hj, e⟩; exact ⟨j, (h j).2 hj, e⟩
theorem srtK_congr {l m : List ByteArray} (h : ∀ k, k ∈ l ↔ k ∈ m) : srtK l = srtK m := by unfold srtK; rw [srtL_congr h]
theorem own_updF {w w' : World} {base fb : Nat} {e t : TypeId} {size n : Nat} {v : Value} {xs cs : List Value} (h : w.ownsRow base e size v n xs) (hu : Upd (fun k => k = fb) w w') (hb : Blk w fb t cs.toArray) (hne : e ≠ t) : w'.ownsRow base e size v n xs := by
  refine ⟨h.1, ?_⟩
  rcases h.2 with hn | ⟨g, cap, cur, rfl, hg, hh, rest⟩
  · exact .inl hn
  · have hl : g < w.heap.size := (Array.getElem?_eq_some_iff.1 hh).1
    refine .inr ⟨g, cap, cur, rfl, hg, (hu.block g hl ?_).trans hh, rest⟩
    rintro rfl
    have hb : w.heap[g]? = _ := hb
    rw [hh] at hb
    injection hb with hb
    injection hb with _ ht
    exact hne ht
/-- what a range over a map of keys has brought -/
theorem keys_done {es : Array MapEntry} {l new : List (ByteArray × Value)} (hpr : pairs es.toList = encs strE l) (hd : (pairs es.toList).Perm (encs strE new)) (w : World) : (new.map (·.1)).Perm (l.map (·.1)) := by
  rw [hpr] at hd
  exact ((encs_inj (E := strE) w hd).map (·.1)).symm
theorem drd_mem {rs : List ByteArray} {l : List (ByteArray × Value)} (hn : (l.map (·.1)).Nodup) (hd : ∀ x, getK x l = Drd rs x) (k : ByteArray) : k ∈ l.map (·.1) ↔ k ∈ rs := by
  constructor
  · intro h
    rw [← memB_iff]
    obtain ⟨p, hp, rfl⟩ := List.mem_map.1 h
    have h1 := (getK_mem hn).2 (show (p.1, p.2) ∈ l from hp)
    rw [hd] at h1
    unfold Drd at h1
    split at h1
    · assumption
    · cases h1
  · intro h
    rw [← memB_iff] at h
    have h1 : getK k l = some _ := (hd k).trans (by unfold Drd; rw [if_pos h])
    exact List.mem_map.2 ⟨_, (getK_mem hn).1 h1, rfl⟩
theorem dwr_mem {ws : List Wr} {l : List (ByteArray × Value)} (hn : (l.map (·.1)).Nodup) (hd : ∀ x, getK x l = Dwr ws x) (k : ByteArray) : k ∈ l.map (·.1) ↔ k ∈ ws.map (·.key) := by
  have h2 : k ∈ l.map (·.1) ↔ (getK k l).isSome = true := by
    constructor
    · intro h
      obtain ⟨p, hp, rfl⟩ := List.mem_map.1 h
      rw [(getK_mem hn).2 (show (p.1, p.2) ∈ l from hp)]; rfl
    · intro h
      obtain ⟨v, hv⟩ := Option.isSome_iff_exists.1 h
      exact List.mem_map.2 ⟨_, (getK_mem hn).1 hv, rfl⟩
  rw [h2, hd, dwr_some, hasW_mem]
theorem few_keys {m : Mc} (h : Mc.Ok0 { m with st := [] }) {rs ws : List ByteArray} (hr : ∀ k, k ∈ rs ↔ k ∈ m.reads) (hw : ∀ k, k ∈ ws ↔ k ∈ m.writes.map (·.key)) : (uniq (rs ++ ws)).length ≤ 64 := by
  have h1 := nodup_leB (m := uniq m.reads ++ (m.writes.map (·.key)).filter fun k => !memB k m.reads) (uniq_nodup (rs ++ ws)) fun k hk => by
    rw [uniq_mem, List.mem_append, hr, hw] at hk
    rw [List.mem_append, uniq_mem, List.mem_filter]
    by_cases hm : k ∈ m.reads
    · exact .inl hm
    · right
      refine ⟨hk.resolve_left hm, ?_⟩
      cases h : memB k m.reads
      · rfl
      · exact absurd (memB_iff.1 h) hm
  rw [List.length_append] at h1
  exact Nat.le_trans h1 h.rw_
theorem few_reads {m : Mc} (h : Mc.Ok0 { m with st := [] }) {l : List (ByteArray × Value)} (hn : (l.map (·.1)).Nodup) (hd : ∀ k, k ∈ l.map (·.1) ↔ k ∈ m.reads) : l.length ≤ 1000 := by
  have h1 := nodup_leB (m := uniq m.reads) hn fun k hk => uniq_mem.2 ((hd k).1 hk)
  have h2 : cntRW m.reads m.writes ≤ 64 := h.rw_
  unfold cntRW at h2
  rw [List.length_map] at h1
  omega
theorem few_writes {m : Mc} (h : Mc.Ok0 { m with st := [] }) {l : List (ByteArray × Value)} (hn : (l.map (·.1)).Nodup) (hd : ∀ k, k ∈ l.map (·.1) ↔ k ∈ m.writes.map (·.key)) : l.length ≤ 1000 := by
  have h1 := nodup_leB hn fun k hk => (hd k).1 hk
  have h2 : m.writes.length ≤ 32 := h.wl
  rw [List.length_map, List.length_map] at h1
  omega
theorem foot_res {W : World} {n : Nat} {A1 A2 : Option Addr} {n1 c1 n2 c2 : Nat} {tmps : Array Value} (ha : Blk W n 27 #[.slice A1 n1 c1, .slice A2 n2 c2]) (h2 : tmps.getD 2 undef = .pointer (some ⟨n, 0, none⟩)) :
    (results Tryz.f41 tmps).run Tryz.prog W = .ok (.agg #[.slice A1 n1 c1, .slice A2 n2 c2]) W := by
  have x0 := ha.cell 0
  have x1 := ha.cell 1
  simp only [List.getElem?_toArray, List.getElem?_cons_zero, List.getElem?_cons_succ] at x0 x1
  have g2 : tmps[2]?.getD undef = .pointer (some ⟨n, 0, none⟩) := by simpa using h2
  simp [Go.results, Tryz.results41, asAddr, g2, go_sem, x0, x1]
section
variable {S : Nat → Prop} {w : World} {g : Nat} {F : Fr} {m : Mc}
set_option maxRecDepth 100000 in
set_option maxHeartbeats 4000000 in
theorem foot_any (h : MAt S w g F m) (hm : Mc.Ok0 { m with st := [] }) : Calls Tryz.prog 41 #[.pointer (some ⟨g, 0, none⟩)] w fun e w' => ∃ A1 c1 A2 c2, e = .returned (.agg #[.slice A1 (srtK m.reads).length c1, .slice A2 (srtK (m.writes.map (·.key))).length c2]) ∧ w'.ownsRow w.heap.size 9 1 (.slice A1 (srtK m.reads).length c1) (srtK m.reads).length (strs (srtK m.reads)) ∧ w'.ownsRow w.heap.size 9 1 (.slice A2 (srtK (m.writes.map (·.key))).length c2) (srtK (m.writes.map (·.key))).length (strs (srtK (m.writes.map (·.key)))) ∧ Below w.heap.size w w' := by
  obtain ⟨i0, hi0, hz0, hz1, hz2⟩ := info_parts info_strI
  obtain ⟨a, h, hrs⟩ := h
  obtain ⟨l1, hml1, hd1⟩ := h.rm
  obtain ⟨l2, hml2, hd2⟩ := h.wm
  rw [hrs] at hd1
  have hmm := hid hm
  have hDm1 := hid (drd_mem hml1.nodup hd1)
  have hDm2 := hid (dwr_mem hml2.nodup hd2)
  have hll1 := hid (few_reads (m := m) hm hml1.nodup hDm1.out)
  have hll2 := hid (few_writes (m := m) hm hml2.nodup hDm2.out)
  obtain ⟨es1, clock1, hes1, hprs1, hst1⟩ := id hml1
  obtain ⟨es2, clock2, hes2, hprs2, hst2⟩ := id hml2
  have hlm1 := hid hml1.lt
  have hlm2 := hid hml2.lt
  have hPr1 := hid hprs1
  have hPr2 := hid hprs2
  have hS1 := hid hst1
  have hS2 := hid hst2
  have hE1 := hid hes1
  have hE2 := hid hes2
  have hgb := hid h.blk
  clear hml1 hml2 hd1 hd2 hprs1 hprs2 hst1 hst2 hes1 hes2 hm hrs h
  go_enter Tryz.func41, Tryz.ntmps41
  go_upto_region 1 with fail
  go_upto_region 2 with fail
  have hb : Hid (Below w.heap.size w ((w.alloc (.cells #[.slice none 0 0, .slice none 0 0] 27)).alloc (.cells #[.slice none 0 0, .slice none 0 0] 27))) := hid (((Below.refl _ _).alloc (Nat.le_refl _) _).alloc (by simp) _)
  have kr0 := hid ((Blk.new w 27 #[.slice none 0 0, .slice none 0 0]).alloc (.cells #[.slice none 0 0, .slice none 0 0] 27))
  have k0 := hid (Blk.new' (w.alloc (.cells #[.slice none 0 0, .slice none 0 0] 27)) 27 #[.slice none 0 0, .slice none 0 0] (g := w.heap.size + 1) (by simp))
  have hs1 : Hid (((w.alloc (.cells #[.slice none 0 0, .slice none 0 0] 27)).alloc (.cells #[.slice none 0 0, .slice none 0 0] 27)).heap.size = w.heap.size + 2) := hid (by simp)
  generalize ((w.alloc (.cells #[.slice none 0 0, .slice none 0 0] 27)).alloc (.cells #[.slice none 0 0, .slice none 0 0] 27)) = W1 at *
  have hfb0 := hid (show w.heap.size < w.heap.size + 1 by omega)
  generalize hfbe : w.heap.size + 1 = fb at *
  have hfl := hid (show fb < W1.heap.size by have := hs1.out; omega)
  have xg : W1.cell? ⟨g, 10, none⟩ = some (.map (some a.rm)) := (hgb.out.below_all hb.out).cell 10
  have hrg := run_range_map (P := Tryz.prog) W1 94 9 3 a.rm es1 clock1 Tryz.underlying94 ((hb.out.block _ hlm1.out).trans hE1.out)
  clear hs1 hfbe
  go_wp2_with fail
  clear hrg xg
  go_loopw [4] (fun v wr => ∃ (seen : Array Nat) (c0 : Nat) (new : List (ByteArray × Value)) (out : List ByteArray) (A : Option Addr) (c : Nat), wr.heap[W1.heap.size]? = some (.mapIter (some a.rm) clock1 seen c0) ∧ clock1 ≤ c0 ∧ wr.ownsRow W1.heap.size 9 1 (.slice A out.length c) out.length (strs out) ∧ Below w.heap.size w wr ∧ Upd (fun k => k = fb) W1 wr ∧ (doneOf es1 seen).Perm (encs strE new) ∧ out = new.map (·.1) ∧ Blk wr fb 27 #[.slice A out.length c, .slice none 0 0]) (fun _ wr => (leftOf es1 (wr.iterSeen W1.heap.size)).size)
  case atStart => exact ⟨#[], clock1, [], [], none, 0, heap_alloc_new _ _, Nat.le_refl _, World.ownsRow_nil _ _ _ _, hb.out.alloc hb.out.size _, Upd.of_below (M := fun k => k = fb) ((Below.refl _ _).alloc (Nat.le_refl _) _) (fun k hk e => absurd hk (by have := hfl.out; omega)), by rw [done_none]; exact List.Perm.nil, rfl, k0.out.alloc _⟩
  case round =>
    obtain ⟨seen, c0, new, out, A, c, hr, hc0, hown, hB0, hU0, hdone, hout, hk0⟩ := hrel
    have ho := hid hout
    have hesr := (hB0.block _ hlm1.out).trans hE1.out
    have hseen0 := hid (seen_of hr)
    have hnl := hid (show out.length ≤ 1000 by
      have h1 := hdone.length_eq
      have h2 := done_leI (E := strE) (seen := seen) hPr1.out
      have h3 := hll1.out
      simp [encs] at h1
      rw [hout, List.length_map]
      omega)
    clear hout
    rcases range_step (P := Tryz.prog) hr hesr hS1.out hc0 with ⟨h0, hnx⟩ | ⟨e, wn, he, hns, hsh, hun, hszn, hrn, hesn, hnx, hent⟩
    · have hpm : Hid (∀ k, k ∈ out ↔ k ∈ m.reads) := hid (fun k => by
        rw [ho.out]
        have h1 := keys_done hPr1.out (by rw [← done_all h0]; exact hdone) w
        exact h1.mem_iff.trans (hDm1.out k))
      have hO2 := hid hown
      have hB2 := hid hB0
      have hU2 := hid hU0
      have hK2 := hid hk0
      clear h0 hr hesr hown hB0 hU0 hdone hk0
      have xg2 : wr.cell? ⟨g, 11, none⟩ = some (.map (some a.wm)) := (hgb.out.below_all hB2.out).cell 11
      have hrg2 := run_range_map (P := Tryz.prog) wr 95 9 57 a.wm es2 clock2 Tryz.underlying95 ((hB2.out.block _ hlm2.out).trans hE2.out)
      have hfl2 := hid (show fb < wr.heap.size by have := hU2.out.size; have := hfl.out; omega)
      have hp1 := hid hpm.out
      have hn1 := hid hnl.out
      have hU1 := hid hU2.out
      have hO1 := hid hO2.out
      clear hb k0 hfl hseen0 hnl hpm ho hU2 hO2
      have hb := hid hB2.out
      have k0 := hid hK2.out
      have hfl := hid hfl2.out
      clear hB2 hK2 hfl2
      rename World => W2
      rename List ByteArray => out1
      rename Option Addr => A1
      rename Nat => c1
      go_wp2_with fail
      clear hrg2 xg2
      go_loopw [5] (fun v wr => ∃ (seen : Array Nat) (c0 : Nat) (new : List (ByteArray × Value)) (out : List ByteArray) (A : Option Addr) (c : Nat), wr.heap[W2.heap.size]? = some (.mapIter (some a.wm) clock2 seen c0) ∧ clock2 ≤ c0 ∧ wr.ownsRow W2.heap.size 9 1 (.slice A out.length c) out.length (strs out) ∧ Below w.heap.size w wr ∧ Upd (fun k => k = fb) W2 wr ∧ (doneOf es2 seen).Perm (encs strE new) ∧ out = new.map (·.1) ∧ Blk wr fb 27 #[.slice A1 out1.length c1, .slice A out.length c]) (fun _ wr => (leftOf es2 (wr.iterSeen W2.heap.size)).size)
      case atStart => exact ⟨#[], clock2, [], [], none, 0, heap_alloc_new _ _, Nat.le_refl _, World.ownsRow_nil _ _ _ _, hb.out.alloc hb.out.size _, Upd.of_below (M := fun k => k = fb) ((Below.refl _ _).alloc (Nat.le_refl _) _) (fun k hk e => absurd hk (by have := hfl.out; omega)), by rw [done_none]; exact List.Perm.nil, rfl, k0.out.alloc _⟩
      case round =>
        obtain ⟨seen, c0, new, out, A, c, hr, hc0, hown, hB0, hU0, hdone, hout, hk0⟩ := hrel
        have ho := hid hout
        have hesr := (hB0.block _ hlm2.out).trans hE2.out
        have hseen0 := hid (seen_of hr)
        have hnl := hid (show out.length ≤ 1000 by
          have h1 := hdone.length_eq
          have h2 := done_leI (E := strE) (seen := seen) hPr2.out
          have h3 := hll2.out
          simp [encs] at h1
          rw [hout, List.length_map]
          omega)
        clear hout
        rcases range_step (P := Tryz.prog) hr hesr hS2.out hc0 with ⟨h0, hnx⟩ | ⟨e, wn, he, hns, hsh, hun, hszn, hrn, hesn, hnx, hent⟩
        · have hpm : Hid (∀ k, k ∈ out ↔ k ∈ m.writes.map (·.key)) := hid (fun k => by
            rw [ho.out]
            have h1 := keys_done hPr2.out (by rw [← done_all h0]; exact hdone) w
            exact h1.mem_iff.trans (hDm2.out k))
          have hO2 := hid hown
          have hB2 := hid hB0
          have hU2 := hid hU0
          have hK2 := hid hk0
          clear h0 hr hesr hown hB0 hU0 hdone hk0
          have hr1 := hid (own_updF (cs := [.slice A1 out1.length c1, .slice none 0 0]) hO1.out hU2.out k0.out (by decide))
          have hU3 := hid (hU1.out.trans hU2.out fun b hl h => h)
          have kr := hid (kr0.out.upd hU3.out (by have := hfb0.out; omega))
          have x0 := hK2.out.cell 0
          have x1 := hK2.out.cell 1
          simp only [List.getElem?_toArray, List.getElem?_cons_zero, List.getElem?_cons_succ] at x0 x1
          have hno := norm_any (cr := c1) (cw := c) (Rd.of_own' hr1.out) (Rd.of_own' hO2.out) (by have := hn1.out; have := hnl.out; omega) (fun k hk => hmm.out.rv k ((hp1.out k).1 hk)) (fun k hk => by
            obtain ⟨x, hx, rfl⟩ := List.mem_map.1 ((hpm.out k).1 hk)
            exact (hmm.out.wv x hx).1) (few_keys (m := m) hmm.out hp1.out hpm.out)
          rw [srtK_congr hp1.out, srtK_congr hpm.out] at hno
          have hno := hid hno
          have hbw := hid hB2.out.size
          clear hseen0 ho
          go_upto_region 10 with fail
          go_wp2_with fail
          refine hno.out.mono ?_
          rintro e w2 ⟨A3, c3, A4, c4, rfl, ho30, ho40, hb50⟩
          have ho3 := hid ho30
          have ho4 := hid ho40
          have hb5 := hid hb50
          have kf2 := hid (hK2.out.below_all hb50)
          have kr2 := hid (kr.out.below_all hb50)
          clear ho30 ho40 hb50 hno x0 x1
          have y0 := kf2.out.cell 0
          have y1 := kf2.out.cell 1
          have yf := fun q => kf2.out.frozen q
          have z0 := kr2.out.cell 0
          have z1 := kr2.out.cell 1
          have zf := fun q => kr2.out.frozen q
          simp only [List.getElem?_toArray, List.getElem?_cons_zero, List.getElem?_cons_succ] at y0 y1 z0 z1
          go_upto_region 11 with fail
          have kf3 := hid (Blk.set_ (Blk.set_ kf2.out 0 (.slice A3 (srtK m.reads).length c3)) 1 (.slice A4 (srtK (m.writes.map (·.key))).length c4))
          have kr3 := hid (Blk.far (Blk.far kr2.out (p := ⟨fb, 0, none⟩) (by have := hfb0.out; show w.heap.size ≠ fb; omega) (.slice A3 (srtK m.reads).length c3)) (p := ⟨fb, 1, none⟩) (by have := hfb0.out; show w.heap.size ≠ fb; omega) (.slice A4 (srtK (m.writes.map (·.key))).length c4))
          have o3 := hid (own_setOtherI (own_setOtherI ho3.out kf2.out (by decide) 0 (.slice A3 (srtK m.reads).length c3)) (Blk.set_ kf2.out 0 _) (by decide) 1 (.slice A4 (srtK (m.writes.map (·.key))).length c4))
          have o4 := hid (own_setOtherI (own_setOtherI ho4.out kf2.out (by decide) 0 (.slice A3 (srtK m.reads).length c3)) (Blk.set_ kf2.out 0 _) (by decide) 1 (.slice A4 (srtK (m.writes.map (·.key))).length c4))
          have hb6 : Hid (Below w.heap.size w ((w2.setCell ⟨fb, 0, none⟩ (.slice A3 (srtK m.reads).length c3)).setCell ⟨fb, 1, none⟩ (.slice A4 (srtK (m.writes.map (·.key))).length c4))) := hid (((hB2.out.trans (hb5.out.mono hbw.out)).setCell (by have := hfb0.out; show w.heap.size ≤ fb; omega) _).setCell (by have := hfb0.out; show w.heap.size ≤ fb; omega) _)
          clear y0 y1 yf z0 z1 zf
          generalize ((w2.setCell ⟨fb, 0, none⟩ (.slice A3 (srtK m.reads).length c3)).setCell ⟨fb, 1, none⟩ (.slice A4 (srtK (m.writes.map (·.key))).length c4)) = w3 at *
          have y0 : w3.cell? ⟨fb, 0, none⟩ = some (.slice A3 (srtK m.reads).length c3) := kf3.out.cell 0
          have y1 : w3.cell? ⟨fb, 1, none⟩ = some (.slice A4 (srtK (m.writes.map (·.key))).length c4) := kf3.out.cell 1
          have z0 := kr3.out.cell 0
          have z1 := kr3.out.cell 1
          have zf := fun q => kr3.out.frozen q
          simp only [List.getElem?_toArray, List.getElem?_cons_zero, List.getElem?_cons_succ] at z0 z1
          go_wp2_with fail
          have kr4 := hid (Blk.set_ (Blk.set_ kr3.out 0 (.slice A3 (srtK m.reads).length c3)) 1 (.slice A4 (srtK (m.writes.map (·.key))).length c4))
          refine bodyPost_ret (v := .agg #[.slice A3 (srtK m.reads).length c3, .slice A4 (srtK (m.writes.map (·.key))).length c4]) (foot_res (n := w.heap.size) (show Blk _ _ 27 #[.slice A3 (srtK m.reads).length c3, .slice A4 (srtK (m.writes.map (·.key))).length c4] from by simpa using kr4.out) (by simp)) rfl ⟨A3, c3, A4, c4, rfl, ?_, ?_, ?_⟩
          · exact own_setOtherI (own_setOtherI (own_base hbw.out o3.out) kr3.out (by decide) _ _) (Blk.set_ kr3.out 0 _) (by decide) _ _
          · exact own_setOtherI (own_setOtherI (own_base hbw.out o4.out) kr3.out (by decide) _ _) (Blk.set_ kr3.out 0 _) (by decide) _ _
          · exact (hb6.out.setCell (by simp) _).setCell (by simp) _
        · obtain ⟨p, hp, hek, hev⟩ := done_list (E := strE) (w := w) (b := a.wm) (clock := clock2) hPr2.out he
          obtain ⟨y, hy⟩ : ∃ y, y = p.1 := ⟨_, rfl⟩
          have hek : e.key = .string y := by rw [hek, hy]; rfl
          have hpush := hid ((done_push hS2.out.2.1 he hns).trans (hdone.cons _))
          generalize e.val = ev at *
          rw [hek] at hnx hent
          have hownn : wn.ownsRow W2.heap.size 9 1 (.slice A out.length c) out.length (strs out) := own_updI hown hun fun k e => ⟨_, _, _, _, (congrArg (fun j => wr.heap[j]?) (show k = W2.heap.size from e)).trans hr⟩
          have hBn : Below w.heap.size w wn := hB0.trans (hun.below (B := w.heap.size) hB0.size fun k hk e => by have e : k = W2.heap.size := e; have := hb.out.size; omega)
          have hUn : Upd (fun k => k = fb) W2 wn := hU0.trans hun fun k hk e => by have e : k = W2.heap.size := e; omega
          have hHB := hid hBn
          have hHO := hid hownn
          have hHU := hid hUn
          have hHr := hid hrn
          have hsh' := hid hsh
          have hkn := hid (hk0.upd hun (by have := hfl.out; show ¬ fb = W2.heap.size; omega))
          rw [hek] at hpush
          clear hp hek hev hy hown hB0 hU0 hdone hr hesr hun hrn hesn hBn hUn hownn he hns hsh hszn hk0
          have hlo := hid (show out.length + 1 ≤ 1000000 by have := hnl.out; omega)
          have hne := hid (own_notI hHO.out hHr.out)
          have hrl := hid (show W2.heap.size < wn.heap.size from (Array.getElem?_eq_some_iff.1 hHr.out).1)
          have xc : wn.cell? ⟨fb, 1, none⟩ = some (.slice A out.length c) := hkn.out.cell 1
          go_wp2_with (
            at_builtin
            refine wpList_append_rd _ rfl (.tmp 31) (.tmp 33) 25 rfl W2.heap.size 9 i0 _ 1 16 Tryz.underlying25 hi0 hz0 hz1 hz2 rfl (by omega) (.slice A out.length c) out.length (strs out) rfl (hHO.out.alloc _) (fun b => b = wn.heap.size) (some ⟨wn.heap.size, 0, none⟩) 1 1 [.string y] rfl (Rd.new _ 9 1 1 #[.string y] _ rfl rfl) (by simp [Value.oneCell']) (by have := hlo.out; simp only [maxLen]; omega) (by have := hlo.out; omega) (by have h1 := hrl.out; simp; omega) ?_
            intro v3 w3 hown30 hg30 hat3
            obtain ⟨A3, c3, rfl, hc3, _⟩ := own_form hown30
            have hown3 := hid hown30
            have hg3 := hid hg30
            have hk3 := hid (Blk.grown (hkn.out.alloc (.cells #[.string y] 9)) hg30 (by intro h; have h1 := (hHO.out.lt fb h.symm).1; have := hfl.out; omega))
            have xc3 := hk3.out.cell 1
            have fz3 := hk3.out.frozen 1
            simp only [List.getElem?_toArray, List.getElem?_cons_zero, List.getElem?_cons_succ] at xc3
            clear hown30 hg30 hat3 xc)
          have hit3 : w3.heap[W2.heap.size]? = some (.mapIter (some a.wm) clock2 (seen.push e.born) clock2) := (hg3.out.block _ (by have := hrl.out; simp; omega) (Ne.symm hne.out)).trans ((Below.heap_alloc _ _ _ hrl.out).trans hHr.out)
          have hrf : Hid ((w3.setCell ⟨fb, 1, none⟩ (.slice A3 (out.length + 1) c3)).heap[W2.heap.size]? = some (.mapIter (some a.wm) clock2 (seen.push e.born) clock2)) := hid ((Below.heap_setCell w3 ⟨fb, 1, none⟩ _ _ (by have := hfl.out; show W2.heap.size ≠ fb; omega)).trans hit3)
          go_roundw
          case rel =>
            refine ⟨seen.push e.born, clock2, new ++ [(y, ev)], out ++ [y], A3, c3, hrf.out, Nat.le_refl _, ?_, ?_, ?_, ?_, ?_, ?_⟩
            · rw [strs_snocI, List.length_append]
              exact own_setOtherI hown3.out hk3.out (by decide) _ _
            · exact (((hHB.out.alloc hHB.out.size _).grown hg3.out (by have := hHB.out.size; simp; omega) fun k hk => by have h1 := (hHO.out.lt k hk).1; have := hb.out.size; omega)).setCell (by have := hfb0.out; show w.heap.size ≤ fb; omega) _
            · exact ((hHU.out.alloc _).grown hg3.out fun k hk hl => by have h1 := (hHO.out.lt k hk).1; omega).setCell (fun _ => rfl) _
            · rw [encs_snocI]
              exact hpush.out.trans (List.perm_append_comm (l₁ := [(Value.string y, ev)]) (l₂ := encs strE new))
            · rw [List.map_append, ← ho.out]; rfl
            · simpa using Blk.set_ hk3.out 1 (.slice A3 (out.length + 1) c3)
          case measure =>
            rw [seen_of hrf.out, hseen0.out]
            exact hsh'.out
    · obtain ⟨p, hp, hek, hev⟩ := done_list (E := strE) (w := w) (b := a.rm) (clock := clock1) hPr1.out he
      obtain ⟨y, hy⟩ : ∃ y, y = p.1 := ⟨_, rfl⟩
      have hek : e.key = .string y := by rw [hek, hy]; rfl
      have hpush := hid ((done_push hS1.out.2.1 he hns).trans (hdone.cons _))
      generalize e.val = ev at *
      rw [hek] at hnx hent
      have hownn : wn.ownsRow W1.heap.size 9 1 (.slice A out.length c) out.length (strs out) := own_updI hown hun fun k e => ⟨_, _, _, _, (congrArg (fun j => wr.heap[j]?) (show k = W1.heap.size from e)).trans hr⟩
      have hBn : Below w.heap.size w wn := hB0.trans (hun.below (B := w.heap.size) hB0.size fun k hk e => by have e : k = W1.heap.size := e; have := hb.out.size; omega)
      have hUn : Upd (fun k => k = fb) W1 wn := hU0.trans hun fun k hk e => by have e : k = W1.heap.size := e; omega
      have hHB := hid hBn
      have hHO := hid hownn
      have hHU := hid hUn
      have hHr := hid hrn
      have hsh' := hid hsh
      have hkn := hid (hk0.upd hun (by have := hfl.out; show ¬ fb = W1.heap.size; omega))
      rw [hek] at hpush
      clear hp hek hev hy hown hB0 hU0 hdone hr hesr hun hrn hesn hBn hUn hownn he hns hsh hszn hk0
      have hlo := hid (show out.length + 1 ≤ 1000000 by have := hnl.out; omega)
      have hne := hid (own_notI hHO.out hHr.out)
      have hrl := hid (show W1.heap.size < wn.heap.size from (Array.getElem?_eq_some_iff.1 hHr.out).1)
      have xc : wn.cell? ⟨fb, 0, none⟩ = some (.slice A out.length c) := hkn.out.cell 0
      go_wp2_with (
        at_builtin
        refine wpList_append_rd _ rfl (.tmp 16) (.tmp 18) 25 rfl W1.heap.size 9 i0 _ 1 16 Tryz.underlying25 hi0 hz0 hz1 hz2 rfl (by omega) (.slice A out.length c) out.length (strs out) rfl (hHO.out.alloc _) (fun b => b = wn.heap.size) (some ⟨wn.heap.size, 0, none⟩) 1 1 [.string y] rfl (Rd.new _ 9 1 1 #[.string y] _ rfl rfl) (by simp [Value.oneCell']) (by have := hlo.out; simp only [maxLen]; omega) (by have := hlo.out; omega) (by have h1 := hrl.out; simp; omega) ?_
        intro v3 w3 hown30 hg30 hat3
        obtain ⟨A3, c3, rfl, hc3, _⟩ := own_form hown30
        have hown3 := hid hown30
        have hg3 := hid hg30
        have hk3 := hid (Blk.grown (hkn.out.alloc (.cells #[.string y] 9)) hg30 (by intro h; have h1 := (hHO.out.lt fb h.symm).1; have := hfl.out; omega))
        have xc3 := hk3.out.cell 0
        have fz3 := hk3.out.frozen 0
        simp only [List.getElem?_toArray, List.getElem?_cons_zero, List.getElem?_cons_succ] at xc3
        clear hown30 hg30 hat3 xc)
      have hit3 : w3.heap[W1.heap.size]? = some (.mapIter (some a.rm) clock1 (seen.push e.born) clock1) := (hg3.out.block _ (by have := hrl.out; simp; omega) (Ne.symm hne.out)).trans ((Below.heap_alloc _ _ _ hrl.out).trans hHr.out)
      have hrf : Hid ((w3.setCell ⟨fb, 0, none⟩ (.slice A3 (out.length + 1) c3)).heap[W1.heap.size]? = some (.mapIter (some a.rm) clock1 (seen.push e.born) clock1)) := hid ((Below.heap_setCell w3 ⟨fb, 0, none⟩ _ _ (by have := hfl.out; show W1.heap.size ≠ fb; omega)).trans hit3)
      go_roundw
      case rel =>
        refine ⟨seen.push e.born, clock1, new ++ [(y, ev)], out ++ [y], A3, c3, hrf.out, Nat.le_refl _, ?_, ?_, ?_, ?_, ?_, ?_⟩
        · rw [strs_snocI, List.length_append]
          exact own_setOtherI hown3.out hk3.out (by decide) _ _
        · exact (((hHB.out.alloc hHB.out.size _).grown hg3.out (by have := hHB.out.size; simp; omega) fun k hk => by have h1 := (hHO.out.lt k hk).1; have := hb.out.size; omega)).setCell (by have := hfb0.out; show w.heap.size ≤ fb; omega) _
        · exact ((hHU.out.alloc _).grown hg3.out fun k hk hl => by have h1 := (hHO.out.lt k hk).1; omega).setCell (fun _ => rfl) _
        · rw [encs_snocI]
          exact hpush.out.trans (List.perm_append_comm (l₁ := [(Value.string y, ev)]) (l₂ := encs strE new))
        · rw [List.map_append, ← ho.out]; rfl
        · simpa using Blk.set_ hk3.out 0 (.slice A3 (out.length + 1) c3)
      case measure =>
        rw [seen_of hrf.out, hseen0.out]
        exact hsh'.out
end
end Go.Proofs.YtdmogoaaecdbaaaGreatDoor

namespace Go.Proofs.YtdmogoaaecdbaaaGreatDoor
open Go.RowKit
set_option linter.unusedVariables false
set_option linter.unusedSimpArgs false

structure Oc where
  code : Int
  at_ : Int
  ab : Int
  out : List Vl
  ws : List Wr
  rd : List ByteArray
  wr : List ByteArray
  left : Int
def oc0 (c a : Int) : Oc := ⟨c, a, 0, [], [], [], [], 0⟩
def wr0 : Wr := ⟨⟨#[]⟩, false, vl0⟩
def wrCells (x : Wr) : List Value := [.string x.key, .bool x.gone, .int .i64 x.v.k, .int .i64 x.v.n, .string x.v.s]
def wcells (l : List Wr) : List Value := l.flatMap wrCells
def Mc.wkeys (m : Mc) : List ByteArray := srtK (m.writes.map (·.key))
def Mc.wrs (m : Mc) : List Wr := m.wkeys.map fun k => (getW k m.writes).getD wr0
def endO (r : Er × Mc) : Oc := ⟨r.1.1, (r.2.at_ : Nat), r.1.2, if r.1.1 = 0 then r.2.out else [], if r.1.1 = 0 then r.2.wrs else [], srtK r.2.reads, r.2.wkeys, (r.2.fuel : Nat)⟩
def runO (p : Pr) (args : List Vl) (src : List Kv) (nb : Bool) (fuel : Int) : Oc :=
  if p.check.1 ≠ 0 then oc0 p.check.1 p.check.2
  else if (okArgs p args nb fuel && args.all okA) = false then oc0 2 0
  else endO (endP p args src (mc0 fuel.toNat))
def askO (p : Pr) (args : List Vl) (src : List Kv) (nb : Bool) (fuel : Int) : List ByteArray :=
  if p.check.1 ≠ 0 then [] else if (okArgs p args nb fuel && args.all okA) = false then [] else (endP p args src (mc0 fuel.toNat)).2.reads
/-- an outcome in memory: its rows are new, from n0 on -/
def OcV (n0 : Nat) (w : World) (v : Value) (o : Oc) : Prop := ∃ A1 c1 A2 c2 A3 c3 A4 c4, v = .agg #[.int .i64 o.code, .int .i64 o.at_, .int .i64 o.ab, .slice A1 o.out.length c1, .slice A2 o.ws.length c2, .slice A3 o.rd.length c3, .slice A4 o.wr.length c4, .int .i64 o.left] ∧
  w.ownsRow n0 55 3 (.slice A1 o.out.length c1) o.out.length (vcells o.out) ∧
  w.ownsRow n0 57 5 (.slice A2 o.ws.length c2) o.ws.length (wcells o.ws) ∧
  w.ownsRow n0 9 1 (.slice A3 o.rd.length c3) o.rd.length (strs o.rd) ∧
  w.ownsRow n0 9 1 (.slice A4 o.wr.length c4) o.wr.length (strs o.wr)
theorem ocv0 (n0 : Nat) (w : World) (c a : Int) : OcV n0 w (.agg #[.int .i64 c, .int .i64 a, .int .i64 0, .slice none 0 0, .slice none 0 0, .slice none 0 0, .slice none 0 0, .int .i64 0]) (oc0 c a) := ⟨none, 0, none, 0, none, 0, none, 0, rfl, World.ownsRow_nil _ _ _ _, World.ownsRow_nil _ _ _ _, World.ownsRow_nil _ _ _ _, World.ownsRow_nil _ _ _ _⟩
theorem OcV.below {n0 : Nat} {w w' : World} {v : Value} {o : Oc} (h : OcV n0 w v o) (hb : Below w.heap.size w w') : OcV n0 w' v o := by
  obtain ⟨A1, c1, A2, c2, A3, c3, A4, c4, e, h1, h2, h3, h4⟩ := h
  exact ⟨A1, c1, A2, c2, A3, c3, A4, c4, e, own_below h1 hb, own_below h2 hb, own_below h3 hb, own_below h4 hb⟩
theorem FrIn.below {w w' : World} {F : Fr} (h : FrIn w F) (hb : Below w.heap.size w w') : FrIn w' F :=
  have hs := hb.size
  ⟨⟨(h.code.c.below_all hb).more fun q hq _ => ⟨by omega, hq.2⟩, (h.code.i.below_all hb).more fun q hq _ => ⟨by omega, hq.2⟩, h.code.t, h.code.l⟩, (h.args.below_all hb).more fun q hq _ => ⟨by omega, hq.2⟩, (h.src.below_all hb).more fun q hq _ => ⟨by omega, hq.2⟩, h.sblk.below_all hb, fun W hW => h.env W ((Upd.of_below' hb (fun q => q = F.sb)).trans hW fun _ _ e => e)⟩
section
variable {w : World} {p : Pr} {Ac Ai Aa : Option Addr} {cc ci ca : Nat} {args : List Vl} {Sp Sa : Nat → Prop}
set_option maxRecDepth 100000 in
set_option maxHeartbeats 4000000 in
theorem run_refused (sv : Value) (fuel : Int) (c a : Int) (hst : ∀ w1, Below w.heap.size w w1 → Calls Tryz.prog 39 #[.agg #[.int .i64 p.args, .slice Ac p.cs.length cc, .slice Ai p.code.length ci], .slice Aa args.length ca, sv, .int .i64 fuel] w1 fun e w' => e = .returned (.tuple #[.pointer none, .agg #[.int .i64 c, .int .i64 a, .int .i64 0, .slice none 0 0, .slice none 0 0, .slice none 0 0, .slice none 0 0, .int .i64 0]]) ∧ Below w1.heap.size w1 w') : Calls Tryz.prog 14 #[.agg #[.int .i64 p.args, .slice Ac p.cs.length cc, .slice Ai p.code.length ci], .slice Aa args.length ca, sv, .int .i64 fuel] w fun e w' => e = .returned (.agg #[.int .i64 c, .int .i64 a, .int .i64 0, .slice none 0 0, .slice none 0 0, .slice none 0 0, .slice none 0 0, .int .i64 0]) ∧ Below w.heap.size w w' := by
  have hs := hid hst
  have hB0 : Below w.heap.size w ((w.alloc (.cells #[.int .i64 p.args, .slice Ac p.cs.length cc, .slice Ai p.code.length ci] 33)).alloc (.cells #[.int .i64 0, .int .i64 0, .int .i64 0, .slice none 0 0, .slice none 0 0, .slice none 0 0, .slice none 0 0, .int .i64 0] 29)) := below_two _ _
  have kp := hid (show Blk ((w.alloc (.cells #[.int .i64 p.args, .slice Ac p.cs.length cc, .slice Ai p.code.length ci] 33)).alloc (.cells #[.int .i64 0, .int .i64 0, .int .i64 0, .slice none 0 0, .slice none 0 0, .slice none 0 0, .slice none 0 0, .int .i64 0] 29)) w.heap.size 33 #[.int .i64 p.args, .slice Ac p.cs.length cc, .slice Ai p.code.length ci] from (Blk.new w _ _).alloc _)
  have ko := hid (show Blk ((w.alloc (.cells #[.int .i64 p.args, .slice Ac p.cs.length cc, .slice Ai p.code.length ci] 33)).alloc (.cells #[.int .i64 0, .int .i64 0, .int .i64 0, .slice none 0 0, .slice none 0 0, .slice none 0 0, .slice none 0 0, .int .i64 0] 29)) (w.heap.size + 1) 29 #[.int .i64 0, .int .i64 0, .int .i64 0, .slice none 0 0, .slice none 0 0, .slice none 0 0, .slice none 0 0, .int .i64 0] from Blk.new' _ _ _ (by simp))
  have hB := hid hB0
  clear hB0 hst
  go_enter Tryz.func14, Tryz.ntmps14
  go_upto_region 1 with fail
  generalize (w.alloc (.cells #[.int .i64 p.args, .slice Ac p.cs.length cc, .slice Ai p.code.length ci] 33)).alloc (.cells #[.int .i64 0, .int .i64 0, .int .i64 0, .slice none 0 0, .slice none 0 0, .slice none 0 0, .slice none 0 0, .int .i64 0] 29) = w1 at *
  have p0 := kp.out.cell 0
  have p1 := kp.out.cell 1
  have p2 := kp.out.cell 2
  simp only [List.getElem?_toArray, List.getElem?_cons_zero, List.getElem?_cons_succ] at p0 p1 p2
  go_wp2_with fail
  refine (hs.out _ hB.out).mono ?_
  rintro e w2 ⟨rfl, hb0⟩
  have hb := hid hb0
  have hB2 := hid (hB.out.trans (hb0.mono hB.out.size))
  have ko2 := hid (ko.out.below_all hb0)
  have kn := hid (Blk.new w2 29 #[.int .i64 c, .int .i64 a, .int .i64 0, .slice none 0 0, .slice none 0 0, .slice none 0 0, .slice none 0 0, .int .i64 0])
  have hB3 : Hid (Below w.heap.size w (w2.alloc (.cells #[.int .i64 c, .int .i64 a, .int .i64 0, .slice none 0 0, .slice none 0 0, .slice none 0 0, .slice none 0 0, .int .i64 0] 29))) := hid (hB2.out.alloc hB2.out.size _)
  have ko3 := hid (ko2.out.alloc (.cells #[.int .i64 c, .int .i64 a, .int .i64 0, .slice none 0 0, .slice none 0 0, .slice none 0 0, .slice none 0 0, .int .i64 0] 29))
  clear hs p0 p1 p2 hb0
  go_upto_region 2 with fail
  generalize w2.alloc (.cells #[.int .i64 c, .int .i64 a, .int .i64 0, .slice none 0 0, .slice none 0 0, .slice none 0 0, .slice none 0 0, .int .i64 0] 29) = w3 at *
  generalize w2.heap.size = n2 at *
  have hrr : ∀ q, Blk w3 q 29 #[.int .i64 c, .int .i64 a, .int .i64 0, .slice none 0 0, .slice none 0 0, .slice none 0 0, .slice none 0 0, .int .i64 0] → True := fun _ _ => trivial
  clear hrr
  have x0 := kn.out.cell 0
  have x1 := kn.out.cell 1
  have x2 := kn.out.cell 2
  have x3 := kn.out.cell 3
  have x4 := kn.out.cell 4
  have x5 := kn.out.cell 5
  have x6 := kn.out.cell 6
  have x7 := kn.out.cell 7
  simp only [List.getElem?_toArray, List.getElem?_cons_zero, List.getElem?_cons_succ] at x0 x1 x2 x3 x4 x5 x6 x7
  have oz := fun q => ko3.out.frozen q
  have y0 := ko3.out.cell 0
  have y1 := ko3.out.cell 1
  have y2 := ko3.out.cell 2
  have y3 := ko3.out.cell 3
  have y4 := ko3.out.cell 4
  have y5 := ko3.out.cell 5
  have y6 := ko3.out.cell 6
  have y7 := ko3.out.cell 7
  simp only [List.getElem?_toArray, List.getElem?_cons_zero, List.getElem?_cons_succ] at y0 y1 y2 y3 y4 y5 y6 y7
  go_wp2_with fail
  refine bodyPost_ret (v := .agg #[.int .i64 c, .int .i64 a, .int .i64 0, .slice none 0 0, .slice none 0 0, .slice none 0 0, .slice none 0 0, .int .i64 0]) ?_ rfl ⟨rfl, ?_⟩
  · exact results_cell_row (P := Tryz.prog) rfl _ _ (w.heap.size + 1) 29 _ (0, 0) _ rfl (show Blk _ _ _ #[.int .i64 c, .int .i64 a, .int .i64 0, .slice none 0 0, .slice none 0 0, .slice none 0 0, .slice none 0 0, .int .i64 0] from by simpa using (((((((ko3.out.set_ 0 (.int .i64 c)).set_ 1 (.int .i64 a)).set_ 2 (.int .i64 0)).set_ 3 (.slice none 0 0)).set_ 4 (.slice none 0 0)).set_ 5 (.slice none 0 0)).set_ 6 (.slice none 0 0)).set_ 7 (.int .i64 0)) Tryz.underlying29 rfl (by kernel_rfl)
  · have h : w.heap.size ≤ w.heap.size + 1 := by omega
    exact (((((((hB3.out.setCell (p := ⟨w.heap.size + 1, 0, none⟩) h _).setCell (p := ⟨w.heap.size + 1, 1, none⟩) h _).setCell (p := ⟨w.heap.size + 1, 2, none⟩) h _).setCell (p := ⟨w.heap.size + 1, 3, none⟩) h _).setCell (p := ⟨w.heap.size + 1, 4, none⟩) h _).setCell (p := ⟨w.heap.size + 1, 5, none⟩) h _).setCell (p := ⟨w.heap.size + 1, 6, none⟩) h _).setCell (p := ⟨w.heap.size + 1, 7, none⟩) h _
end
end Go.Proofs.YtdmogoaaecdbaaaGreatDoor

namespace Go.Proofs.YtdmogoaaecdbaaaGreatDoor
open Go.RowKit
set_option linter.unusedVariables false
set_option linter.unusedSimpArgs false

theorem Mc.Ok0.tick {m : Mc} (h : m.Ok0) (hf : m.fuel ≠ 0) : m.tick.Ok0 :=
  ⟨h.st, h.out, h.wl, h.wn, h.wv, h.rv, h.rw_, by show m.reads.length ≤ (m.steps ++ [m.at_]).length; have := h.rn; simp; omega, by show (m.steps ++ [m.at_]).length + (m.fuel - 1) ≤ 1000000; have := h.fu; simp; omega⟩
theorem runP_ok {p : Pr} {args : List Vl} {src : List Kv} {d : Nat → Int} (G : Good p args src d) : ∀ (n : Nat) {m : Mc}, m.Ok p d → (runP p args src n m).2.Ok0 ∧ (runP p args src n m).2.at_ < p.code.length
  | 0, m, h => ⟨h.o, h.at_⟩
  | n + 1, m, h => by
    unfold runP
    cases hs : stepP p args src m with
    | inr m' => exact runP_ok G n (step_ok G h hs)
    | inl r =>
      unfold stepP at hs
      by_cases hf : m.fuel = 0
      · rw [if_pos hf] at hs
        injection hs with hs
        subst hs
        exact ⟨h.o, h.at_⟩
      · rw [if_neg hf] at hs
        split at hs
        · injection hs with hs
          subst hs
          exact ⟨h.o.tick hf, h.at_⟩
        · split at hs
          · cases hs
          · injection hs with hs
            subst hs
            exact ⟨h.o.tick hf, h.at_⟩
theorem info_wrI : (Tryz.prog.info? 57).map (fun i => (i.zero, i.size, i.bytes)) = some (some (.agg #[.string ⟨#[]⟩, .bool false, .int .i64 0, .int .i64 0, .string ⟨#[]⟩]), 5, 56) := by kernel_rfl
theorem wcells_snoc (l : List Wr) (x : Wr) : wcells (l ++ [x]) = wcells l ++ wrCells x := by unfold wcells; rw [List.flatMap_append]; simp
theorem wkeys_has {m : Mc} {k : ByteArray} (h : k ∈ m.wkeys) : ∃ x, getW k m.writes = some x := by
  unfold Mc.wkeys at h
  rw [srtK_mem] at h
  cases hg : getW k m.writes with
  | some x => exact ⟨x, rfl⟩
  | none =>
    have h1 := getW_none.1 hg
    rw [hasW_mem.2 h] at h1
    cases h1
theorem own_freshI {S : Nat → Prop} {w : World} {e t : TypeId} {size n n0 q : Nat} {v : Value} {xs : List Value} {cs : Array Value} (h : OwnS S w e size v n xs) (hS : ∀ k, S k → n0 ≤ k ∨ k = q) (hq : Blk w q t cs) (hne : e ≠ t) : w.ownsRow n0 e size v n xs := by
  refine ⟨h.1.1, ?_⟩
  rcases h.1.2 with hn | ⟨g, cap, cur, rfl, hg, hh, rest⟩
  · exact .inl hn
  · refine .inr ⟨g, cap, cur, rfl, ?_, hh, rest⟩
    rcases hS g (h.2 g rfl) with h1 | h1
    · exact h1
    · exfalso
      subst h1
      have hq : w.heap[g]? = _ := hq
      rw [hh] at hq
      injection hq with hq
      injection hq with _ ht
      exact hne ht
theorem own_blk0 {w : World} {base : Nat} {e : TypeId} {size n q : Nat} {v : Value} {xs : List Value} (h : w.ownsRow base e size v n xs) (hq : v.ownBlock = some q) : ∃ cur, Blk w q e cur := by
  rcases h.2 with ⟨hv, _⟩ | ⟨g, cap, cur, hv, _, hh, _⟩
  · subst hv; cases hq
  · subst hv
    injection hq with hq
    subst hq
    exact ⟨cur, hh⟩
theorem own_updG {w w' : World} {base fb : Nat} {e t : TypeId} {size n : Nat} {v : Value} {xs : List Value} {cs : Array Value} (h : w.ownsRow base e size v n xs) (hu : Upd (fun k => k = fb) w w') (hb : Blk w fb t cs) (hne : e ≠ t) : w'.ownsRow base e size v n xs := own_updF (cs := cs.toList) h hu (by simpa using hb) hne
def Mc.gW (m : Mc) (k : ByteArray) : Wr := (getW k m.writes).getD wr0
/-- the source behind a run -/
def AskV (n0 : Nat) (w : World) (F : Fr) (ks : List ByteArray) : Prop := ∃ A c, Blk w F.sb 50 #[.slice F.Al F.src.length F.cl, .slice A ks.length c] ∧ w.ownsRow n0 9 1 (.slice A ks.length c) ks.length (strs ks)
theorem AskV.below {n0 : Nat} {w w' : World} {F : Fr} {ks : List ByteArray} (h : AskV n0 w F ks) (hb : Below w.heap.size w w') : AskV n0 w' F ks := by
  obtain ⟨A, c, h1, h2⟩ := h
  exact ⟨A, c, h1.below_all hb, own_below h2 hb⟩
theorem AskV.upd {n0 b : Nat} {w w' : World} {F : Fr} {ks : List ByteArray} {t : TypeId} {cs : Array Value} (h : AskV n0 w F ks) (hu : Upd (fun q => q = b) w w') (hb : Blk w b t cs) (h1 : 9 ≠ t) (h2 : F.sb ≠ b) : AskV n0 w' F ks := by
  obtain ⟨A, c, e1, e2⟩ := h
  exact ⟨A, c, e1.upd hu h2, own_updG e2 hu hb h1⟩
theorem take_snocI {α : Type} {l : List α} {i : Nat} {k : α} (h : l[i]? = some k) : l.take (i + 1) = l.take i ++ [k] := by rw [List.take_add_one, h]; rfl
section
variable {w : World} {F : Fr}
set_option maxRecDepth 100000 in
set_option maxHeartbeats 4000000 in
theorem run_goes (f : Nat) (h : FrIn w F) (hc : F.p.check.1 = 0) (han : F.args.length ≤ 1000000) (hsz0 : ∀ v ∈ F.args, v.s.size ≤ 9223372036854775806) (hal9 : (F.args.length : Int) = F.p.args) (hf : f ≤ 100000) (hv : F.args.all okA = true) (hcs : ∀ v ∈ F.p.cs, v.rng) (har : ∀ v ∈ F.args, v.rng) (hsr : ∀ x ∈ F.src, x.2.rng) (hsrc : ∀ x ∈ F.src, x.2.s.size ≤ 9223372036854775806) (hsl : F.src.length ≤ 1000000) :
    Calls Tryz.prog 14 #[.agg #[.int .i64 F.p.args, .slice F.Ac F.p.cs.length F.cc, .slice F.Ai F.p.code.length F.ci], .slice F.Aa F.args.length F.ca, .iface 41 (.pointer (some ⟨F.sb, 0, none⟩)), .int .i64 (f : Nat)] w fun e w' => ∃ v, e = .returned v ∧ OcV w.heap.size w' v (endO (endP F.p F.args F.src (mc0 f))) ∧ AskV w.heap.size w' F (endP F.p F.args F.src (mc0 f)).2.reads ∧ Upd (fun q => q = F.sb) w w' := by
  have hvok : ∀ v ∈ F.args, VOk v := fun v hm => by
    have := List.all_eq_true.1 hv v hm
    unfold okA at this
    simp at this
    exact ⟨this.1, har v hm⟩
  obtain ⟨d, G0⟩ := good_of hc hcs (by rw [← hal9]) hvok hsr
  have G := hid G0
  have hok0 := hid (mc0_ok G0 (fuel := f) (by omega))
  have hfin := hid (runP_ok G0 ((mc0 f).fuel + 1) (mc0_ok G0 (fuel := f) (by omega)))
  have hsrc9 := hid (And.intro hsrc hsl)
  have hst := hid (fun w1 (hb : Below w.heap.size w w1) => start_ok f (h.below hb) hc han hsz0 hal9 hf hv)
  have hF := hid h
  have hB0 : Below w.heap.size w ((w.alloc (.cells #[.int .i64 F.p.args, .slice F.Ac F.p.cs.length F.cc, .slice F.Ai F.p.code.length F.ci] 33)).alloc (.cells #[.int .i64 0, .int .i64 0, .int .i64 0, .slice none 0 0, .slice none 0 0, .slice none 0 0, .slice none 0 0, .int .i64 0] 29)) := below_two _ _
  have kp := hid (show Blk ((w.alloc (.cells #[.int .i64 F.p.args, .slice F.Ac F.p.cs.length F.cc, .slice F.Ai F.p.code.length F.ci] 33)).alloc (.cells #[.int .i64 0, .int .i64 0, .int .i64 0, .slice none 0 0, .slice none 0 0, .slice none 0 0, .slice none 0 0, .int .i64 0] 29)) w.heap.size 33 #[.int .i64 F.p.args, .slice F.Ac F.p.cs.length F.cc, .slice F.Ai F.p.code.length F.ci] from (Blk.new w _ _).alloc _)
  have ko := hid (show Blk ((w.alloc (.cells #[.int .i64 F.p.args, .slice F.Ac F.p.cs.length F.cc, .slice F.Ai F.p.code.length F.ci] 33)).alloc (.cells #[.int .i64 0, .int .i64 0, .int .i64 0, .slice none 0 0, .slice none 0 0, .slice none 0 0, .slice none 0 0, .int .i64 0] 29)) (w.heap.size + 1) 29 #[.int .i64 0, .int .i64 0, .int .i64 0, .slice none 0 0, .slice none 0 0, .slice none 0 0, .slice none 0 0, .int .i64 0] from Blk.new' _ _ _ (by simp))
  have hB := hid hB0
  clear hB0 h hc han hsz0 hal9 hf hv hcs har hsr hsrc hsl hvok G0
  go_enter Tryz.func14, Tryz.ntmps14
  go_upto_region 1 with fail
  generalize (w.alloc (.cells #[.int .i64 F.p.args, .slice F.Ac F.p.cs.length F.cc, .slice F.Ai F.p.code.length F.ci] 33)).alloc (.cells #[.int .i64 0, .int .i64 0, .int .i64 0, .slice none 0 0, .slice none 0 0, .slice none 0 0, .slice none 0 0, .int .i64 0] 29) = w1 at *
  have p0 := kp.out.cell 0
  have p1 := kp.out.cell 1
  have p2 := kp.out.cell 2
  simp only [List.getElem?_toArray, List.getElem?_cons_zero, List.getElem?_cons_succ] at p0 p1 p2
  go_wp2_with fail
  refine (hst.out _ hB.out).mono ?_
  rintro e w2 ⟨S, g, rfl, hM0, hS0, hb0⟩
  have hb := hid hb0
  have hS := hid hS0
  have hB2 := hid (hB.out.trans (hb0.mono hB.out.size))
  have ko2 := hid (ko.out.below_all hb0)
  have kn := hid (Blk.new w2 29 #[.int .i64 0, .int .i64 0, .int .i64 0, .slice none 0 0, .slice none 0 0, .slice none 0 0, .slice none 0 0, .int .i64 0])
  have hM := hid (hM0.below ((Below.refl _ _).alloc (Nat.le_refl _) (.cells #[.int .i64 0, .int .i64 0, .int .i64 0, .slice none 0 0, .slice none 0 0, .slice none 0 0, .slice none 0 0, .int .i64 0] 29)))
  have hSl := hid hM0.lt
  have hB3 : Hid (Below w.heap.size w (w2.alloc (.cells #[.int .i64 0, .int .i64 0, .int .i64 0, .slice none 0 0, .slice none 0 0, .slice none 0 0, .slice none 0 0, .int .i64 0] 29))) := hid (hB2.out.alloc hB2.out.size _)
  have ko3 := hid (ko2.out.alloc (.cells #[.int .i64 0, .int .i64 0, .int .i64 0, .slice none 0 0, .slice none 0 0, .slice none 0 0, .slice none 0 0, .int .i64 0] 29))
  have hnn2 := hid (show w.heap.size + 1 < w2.heap.size from ko2.out.lt)
  have hsw1 := hid (show w.heap.size + 1 < w1.heap.size from ko.out.lt)
  have hsb := hid (show F.sb < w.heap.size from hF.out.sblk.lt)
  clear hst p0 p1 p2 hb0 hM0 hS0 kp
  go_upto_region 2 with fail
  generalize w2.alloc (.cells #[.int .i64 0, .int .i64 0, .int .i64 0, .slice none 0 0, .slice none 0 0, .slice none 0 0, .slice none 0 0, .int .i64 0] 29) = w3 at *
  generalize w2.heap.size = n2 at *
  go_upto_region 4 with fail
  have hrun := hid (run_any hM.out G.out hok0.out hsrc9.out.1 hsrc9.out.2)
  go_wp2_with fail
  refine hrun.out.mono ?_
  rintro e w4 ⟨rfl, st', hgo⟩
  have hfin2 : Hid ((endP F.p F.args F.src (mc0 f)).2.Ok0 ∧ (endP F.p F.args F.src (mc0 f)).2.at_ < F.p.code.length) := hfin
  generalize hR0 : endP F.p F.args F.src (mc0 f) = R at *
  have hR := hid hR0
  clear hR0
  obtain ⟨S2, hM20, hS20, hS30, hU0⟩ := hgo
  obtain ⟨⟨ec, ea⟩, m⟩ := R
  clear hrun hfin
  replace hM20 : MAt S2 w4 g F { m with st := st' } := hM20
  replace hU0 : Upd S w3 w4 := hU0
  replace hfin2 : Hid (m.Ok0 ∧ m.at_ < F.p.code.length) := hfin2
  have hok := hid (show Mc.Ok0 { m with st := [] } from hfin2.out.1.stk (st := []) (by simp))
  obtain ⟨a, hMa, hars⟩ := hM20
  obtain ⟨a0, hMa0, _⟩ := id hM.out
  have hsz3 := hid (show n2 < w3.heap.size from kn.out.lt)
  have hg2 := hid (show g < n2 from hSl.out g hMa0.inS.1)
  have hn2S := hid (show ∀ q, S2 q → q ≠ n2 from fun q hq e => by
    subst e
    rcases hS20 q hq with h | h
    · have := hSl.out q h; omega
    · have := hsz3.out; omega)
  have hS2 : Hid (∀ q, S2 q → w.heap.size ≤ q ∨ q = F.sb) := hid fun q hq => by
    rcases hS20 q hq with h | h
    · rcases hS.out q h with h | h
      · left; have := hB.out.size; omega
      · exact .inr h
    · left; have := hB3.out.size; omega
  have hn1S := hid (show ¬ S (w.heap.size + 1) from fun h => by
    rcases hS.out _ h with h | h
    · have := hsw1.out; omega
    · have := hsb.out; omega)
  have ko4 := hid (ko3.out.upd hU0 hn1S.out)
  have kn4 := hid (kn.out.upd hU0 fun h => by have := hSl.out _ h; omega)
  have U4 : Hid (Upd (fun q => q = F.sb) w w4) := hid ((Upd.of_below' hB3.out (fun q => q = F.sb)).trans hU0 fun b hb h => by
    rcases hS.out b h with h | h
    · have := hB.out.size; omega
    · exact h)
  have gk4 := hid hMa.blk
  have sk4 := hid hMa.sblk
  have ou4 := hid hMa.out
  have as4 := hid hMa.asked
  have wm4 := hid hMa.wm
  have hin4 := hid hMa.inS
  have hS2l := hid hMa.lt
  have hM4 : Hid (MAt S2 w4 g F { m with st := st' }) := hid ⟨a, hMa, hars⟩
  have hsz4 := hid (show w3.heap.size ≤ w4.heap.size from hU0.size)
  clear hMa hars hMa0 hM hS20 hS30 hU0 hfin2 ko ko2 ko3 kn hok0 G hsrc9
  have ke := hid (Blk.new w4 92 #[.int .i64 ec, .int .i64 ea])
  have b45 := hid ((Below.refl w4.heap.size w4).alloc (Nat.le_refl _) (.cells #[.int .i64 ec, .int .i64 ea] 92))
  have hn45 : Hid ((w4.alloc (.cells #[.int .i64 ec, .int .i64 ea] 92)).heap.size = w4.heap.size + 1) := hid (by simp)
  go_upto_region 5 with fail
  generalize w4.alloc (.cells #[.int .i64 ec, .int .i64 ea] 92) = w5 at *
  have hX := hid (fun W (hW : Upd (fun q => q = n2) w5 W) => (show W.cell? ⟨g, 6, none⟩ = some (.int .i64 (m.at_ : Nat)) ∧ W.cell? ⟨g, 7, none⟩ = some (.int .i64 (m.fuel : Nat)) ∧ W.cell? ⟨w4.heap.size, 0, none⟩ = some (.int .i64 ec) ∧ W.cell? ⟨w4.heap.size, 1, none⟩ = some (.int .i64 ea) from by
    have k1 := (gk4.out.below_all b45.out).upd hW (fun e => by have := hg2.out; omega)
    have k2 := ke.out.upd hW (fun e => by have := hsz3.out; have := hsz4.out; omega)
    exact ⟨k1.cell 6, k1.cell 7, k2.cell 0, k2.cell 1⟩))
  refine wp_region_held_drew (S := fun w'' => Upd (fun q => q = n2) w5 w'') (by kernel_rfl) ?_ (fun hHeld => ?_)
  · exact (Upd.refl _ _).drew
  have bd5 := hid ((Below.refl w5.heap.size w5).drew)
  have wds : Hid (w5.drew.heap.size = w5.heap.size) := hid rfl
  generalize World.drew w5 = wd at *
  refine wpAnyH_take (i := 0) (v := ?v1) rfl (by kernel_rfl) (by kernel_rfl) (by kernel_rfl) (fun _ _ _ h => h) (Or.inl ⟨by rfl, ?hy1⟩) (by assumption) ?rest1
  case hy1 => intro w' hSw; obtain ⟨x6, x7, c0, c1⟩ := hX.out w' hSw; (try dsimp only at hSw); go_simp; try with_reducible rfl
  (try simp only [Act.put, List.setIfInBounds_toArray, List.set_cons_zero, List.set_cons_succ, List.getElem_toArray, List.getElem_cons_zero, List.getElem_cons_succ])
  refine wpAnyH_take (i := 1) (v := ?v2) rfl (by kernel_rfl) (by kernel_rfl) (by kernel_rfl) (fun _ _ _ h => h) (Or.inl ⟨by rfl, ?hy2⟩) (by assumption) ?rest2
  case hy2 => intro w' hSw; obtain ⟨x6, x7, c0, c1⟩ := hX.out w' hSw; (try dsimp only at hSw); go_simp; try with_reducible rfl
  (try simp only [Act.put, List.setIfInBounds_toArray, List.set_cons_zero, List.set_cons_succ, List.getElem_toArray, List.getElem_cons_zero, List.getElem_cons_succ])
  refine wpAnyH_take (i := 2) (v := ?v3) rfl (by kernel_rfl) (by kernel_rfl) (by kernel_rfl) (fun _ _ _ h => h) (Or.inl ⟨by rfl, ?hy3⟩) (by assumption) ?rest3
  case hy3 => intro w' hSw; obtain ⟨x6, x7, c0, c1⟩ := hX.out w' hSw; (try dsimp only at hSw); go_simp; try with_reducible rfl
  (try simp only [Act.put, List.setIfInBounds_toArray, List.set_cons_zero, List.set_cons_succ, List.getElem_toArray, List.getElem_cons_zero, List.getElem_cons_succ])
  refine wpAnyH_take (i := 3) (v := ?v4) rfl (by kernel_rfl) (by kernel_rfl) (by kernel_rfl) (fun _ _ _ h => h) (Or.inl ⟨by rfl, ?hy4⟩) (by assumption) ?rest4
  case hy4 => intro w' hSw; obtain ⟨x6, x7, c0, c1⟩ := hX.out w' hSw; (try dsimp only at hSw); go_simp; try with_reducible rfl
  (try simp only [Act.put, List.setIfInBounds_toArray, List.set_cons_zero, List.set_cons_succ, List.getElem_toArray, List.getElem_cons_zero, List.getElem_cons_succ])
  refine wpAnyH_take (i := 4) (v := ?v5) rfl (by kernel_rfl) (by kernel_rfl) (by kernel_rfl) (fun _ _ _ h => h) (Or.inl ⟨by rfl, ?hy5⟩) (by assumption) ?rest5
  case hy5 => intro w' hSw; obtain ⟨x6, x7, c0, c1⟩ := hX.out w' hSw; (try dsimp only at hSw); go_simp; try with_reducible rfl
  (try simp only [Act.put, List.setIfInBounds_toArray, List.set_cons_zero, List.set_cons_succ, List.getElem_toArray, List.getElem_cons_zero, List.getElem_cons_succ])
  refine wpAnyH_take (i := 5) (v := ?v6) rfl (by kernel_rfl) (by kernel_rfl) (by kernel_rfl) (fun _ _ _ h => h) (Or.inl ⟨by rfl, ?hy6⟩) (by assumption) ?rest6
  case hy6 => intro w' hSw; obtain ⟨x6, x7, c0, c1⟩ := hX.out w' hSw; (try dsimp only at hSw); go_simp; try with_reducible rfl
  (try simp only [Act.put, List.setIfInBounds_toArray, List.set_cons_zero, List.set_cons_succ, List.getElem_toArray, List.getElem_cons_zero, List.getElem_cons_succ])
  refine wpAnyH_take (i := 6) (v := ?v7) rfl (by kernel_rfl) (by kernel_rfl) (by kernel_rfl) (fun _ _ _ h => h) (Or.inl ⟨by rfl, ?hy7⟩) (by assumption) ?rest7
  case hy7 => intro w' hSw; obtain ⟨x6, x7, c0, c1⟩ := hX.out w' hSw; (try dsimp only at hSw); go_simp; try with_reducible rfl
  (try simp only [Act.put, List.setIfInBounds_toArray, List.set_cons_zero, List.set_cons_succ, List.getElem_toArray, List.getElem_cons_zero, List.getElem_cons_succ])
  refine wpAnyH_take (i := 7) (v := ?v8) rfl (by kernel_rfl) (by kernel_rfl) (by kernel_rfl) (fun _ _ _ h => h) (Or.inl ⟨by rfl, ?hy8⟩) (by assumption) ?rest8
  case hy8 => intro w' hSw; obtain ⟨x6, x7, c0, c1⟩ := hX.out w' hSw; (try dsimp only at hSw); go_simp; try with_reducible rfl
  (try simp only [Act.put, List.setIfInBounds_toArray, List.set_cons_zero, List.set_cons_succ, List.getElem_toArray, List.getElem_cons_zero, List.getElem_cons_succ])
  refine wpAnyH_take (i := 8) (v := ?v9) rfl (by kernel_rfl) (by kernel_rfl) (by kernel_rfl) (fun _ _ _ h => h) (Or.inl ⟨by rfl, ?hy9⟩) (by assumption) ?rest9
  case hy9 => intro w' hSw; obtain ⟨x6, x7, c0, c1⟩ := hX.out w' hSw; (try dsimp only at hSw); go_simp; try with_reducible rfl
  (try simp only [Act.put, List.setIfInBounds_toArray, List.set_cons_zero, List.set_cons_succ, List.getElem_toArray, List.getElem_cons_zero, List.getElem_cons_succ])
  refine wpAnyH_take (i := 10) (v := ?v10) rfl (by kernel_rfl) (by kernel_rfl) (by kernel_rfl) (fun _ _ _ h => h) (Or.inl ⟨by rfl, ?hy10⟩) (by assumption) ?rest10
  case hy10 => intro w' hSw; obtain ⟨x6, x7, c0, c1⟩ := hX.out w' hSw; (try dsimp only at hSw); go_simp; try with_reducible rfl
  (try simp only [Act.put, List.setIfInBounds_toArray, List.set_cons_zero, List.set_cons_succ, List.getElem_toArray, List.getElem_cons_zero, List.getElem_cons_succ])
  refine wpAnyH_take (i := 11) (v := ?v11) rfl (by kernel_rfl) (by kernel_rfl) (by kernel_rfl) (fun _ _ _ h => h) (Or.inl ⟨by rfl, ?hy11⟩) (by assumption) ?rest11
  case hy11 => intro w' hSw; obtain ⟨x6, x7, c0, c1⟩ := hX.out w' hSw; (try dsimp only at hSw); go_simp; try with_reducible rfl
  (try simp only [Act.put, List.setIfInBounds_toArray, List.set_cons_zero, List.set_cons_succ, List.getElem_toArray, List.getElem_cons_zero, List.getElem_cons_succ])
  refine wpAnyH_take (i := 12) (v := ?v12) rfl (by kernel_rfl) (by kernel_rfl) (by kernel_rfl) (fun _ _ _ h => h) (Or.inl ⟨by rfl, ?hy12⟩) (by assumption) ?rest12
  case hy12 => intro w' hSw; obtain ⟨x6, x7, c0, c1⟩ := hX.out w' hSw; (try dsimp only at hSw); go_simp; try with_reducible rfl
  (try simp only [Act.put, List.setIfInBounds_toArray, List.set_cons_zero, List.set_cons_succ, List.getElem_toArray, List.getElem_cons_zero, List.getElem_cons_succ])
  refine wpAnyH_take (i := 13) (v := ?v13) rfl (by kernel_rfl) (by kernel_rfl) (by kernel_rfl) (fun _ _ _ h => h) (Or.inl ⟨by rfl, ?hy13⟩) (by assumption) ?rest13
  case hy13 => intro w' hSw; obtain ⟨x6, x7, c0, c1⟩ := hX.out w' hSw; (try dsimp only at hSw); go_simp; try with_reducible rfl
  (try simp only [Act.put, List.setIfInBounds_toArray, List.set_cons_zero, List.set_cons_succ, List.getElem_toArray, List.getElem_cons_zero, List.getElem_cons_succ])
  refine wpAnyH_ready (rs := [9]) (by kernel_rfl) (by simp) ?_
  refine AllReadyH.cons rfl (fun K hK => ?_) AllReadyH.nil
  go_simp
  refine (foot_any (m := { m with st := st' }) (hM4.out.below (b45.out.trans (bd5.out.mono (by have := hn45.out; omega)))) hok.out).mono ?_
  rintro e w6 ⟨A3, c3, A4, c4, he, ho30, ho40, hb60⟩
  replace he : e = .returned (.agg #[.slice A3 (srtK m.reads).length c3, .slice A4 m.wkeys.length c4]) := he
  subst he
  replace ho30 : w6.ownsRow wd.heap.size 9 1 (.slice A3 (srtK m.reads).length c3) (srtK m.reads).length (strs (srtK m.reads)) := ho30
  replace ho40 : w6.ownsRow wd.heap.size 9 1 (.slice A4 m.wkeys.length c4) m.wkeys.length (strs m.wkeys) := ho40
  have ho3 := hid ho30
  have ho4 := hid ho40
  have b56 := hid (bd5.out.trans (hb60.mono (by have := wds.out; omega)))
  clear ho30 ho40 hb60
  refine hK.out _ _ ?_ (fun hHeld => ?_)
  · exact Upd.of_below' b56.out _
  clear hK K
  (try simp only [Act.put, List.setIfInBounds_toArray, List.set_cons_zero, List.set_cons_succ, List.getElem_toArray, List.getElem_cons_zero, List.getElem_cons_succ])
  refine wpAnyH_take (i := 14) (v := ?v14) rfl (by kernel_rfl) (by kernel_rfl) (by kernel_rfl) (fun _ _ _ h => h) (Or.inl ⟨by rfl, ?hy14⟩) (by assumption) ?rest14
  case hy14 => intro w' hSw; obtain ⟨x6, x7, c0, c1⟩ := hX.out w' hSw; (try dsimp only at hSw); go_simp; try with_reducible rfl
  (try simp only [Act.put, List.setIfInBounds_toArray, List.set_cons_zero, List.set_cons_succ, List.getElem_toArray, List.getElem_cons_zero, List.getElem_cons_succ])
  have kn6 := hid ((kn4.out.below_all b45.out).below_all b56.out)
  have hz6 := fun q => kn6.out.frozen q
  have z0 := kn6.out.cell 0
  have z1 := kn6.out.cell 1
  have z2 := kn6.out.cell 2
  have z3 := kn6.out.cell 3
  have z4 := kn6.out.cell 4
  have z5 := kn6.out.cell 5
  have z6 := kn6.out.cell 6
  have z7 := kn6.out.cell 7
  simp only [List.getElem?_toArray, List.getElem?_cons_zero, List.getElem?_cons_succ] at z0 z1 z2 z3 z4 z5 z6 z7
  obtain ⟨w7, hwf, u7, kn7⟩ : ∃ w7, ((((((((((((((((w6).setCell ⟨n2, 0, none⟩ (.int .i64 ec))).setCell ⟨n2, 1, none⟩ (.int .i64 (m.at_ : Nat)))).setCell ⟨n2, 2, none⟩ (.int .i64 ea))).setCell ⟨n2, 3, none⟩ (.slice none 0 0))).setCell ⟨n2, 4, none⟩ (.slice none 0 0))).setCell ⟨n2, 5, none⟩ (.slice A3 (srtK m.reads).length c3))).setCell ⟨n2, 6, none⟩ (.slice A4 m.wkeys.length c4))).setCell ⟨n2, 7, none⟩ (.int .i64 (m.fuel : Nat))) = w7 ∧ Hid (Upd (fun q => q = n2) w6 w7) ∧ Hid (Blk w7 n2 29 #[.int .i64 ec, .int .i64 (m.at_ : Nat), .int .i64 ea, .slice none 0 0, .slice none 0 0, .slice A3 (srtK m.reads).length c3, .slice A4 m.wkeys.length c4, .int .i64 (m.fuel : Nat)]) := ⟨_, rfl, hid (((((((((Upd.refl (fun q => q = n2) w6).setCell (p := ⟨n2, 0, none⟩) (fun _ => rfl) _).setCell (p := ⟨n2, 1, none⟩) (fun _ => rfl) _).setCell (p := ⟨n2, 2, none⟩) (fun _ => rfl) _).setCell (p := ⟨n2, 3, none⟩) (fun _ => rfl) _).setCell (p := ⟨n2, 4, none⟩) (fun _ => rfl) _).setCell (p := ⟨n2, 5, none⟩) (fun _ => rfl) _).setCell (p := ⟨n2, 6, none⟩) (fun _ => rfl) _).setCell (p := ⟨n2, 7, none⟩) (fun _ => rfl) _), hid (by simpa using (((((((kn6.out.set_ 0 (.int .i64 ec)).set_ 1 (.int .i64 (m.at_ : Nat))).set_ 2 (.int .i64 ea)).set_ 3 (.slice none 0 0)).set_ 4 (.slice none 0 0)).set_ 5 (.slice A3 (srtK m.reads).length c3)).set_ 6 (.slice A4 m.wkeys.length c4)).set_ 7 (.int .i64 (m.fuel : Nat)))⟩
  refine wpAnyH_ready (rs := [15]) (by kernel_rfl) (by simp) ?_
  refine AllReadyH.cons rfl (fun K hK => ?_) AllReadyH.nil
  go_simp
  try rw [hwf]
  clear hwf hz6 z0 z1 z2 z3 z4 z5 z6 z7
  refine hK.out _ _ ?_ (fun hHeld => ?_)
  · exact (Upd.of_below' b56.out _).trans u7.out fun _ _ e => e
  clear hK K
  (try simp only [Act.put, List.setIfInBounds_toArray, List.set_cons_zero, List.set_cons_succ, List.getElem_toArray, List.getElem_cons_zero, List.getElem_cons_succ])
  refine wpAnyH_done (by kernel_rfl) ?_ _
  have hU45 := hid (Upd.of_below' b45.out (fun q => q = n2))
  have ke7 := hid ((ke.out.below_all b56.out).upd u7.out (fun e => by have := hsz3.out; have := hsz4.out; omega))
  have hn57 := hid (show n2 < w6.heap.size from kn6.out.lt)
  have hask4 : Hid (AskV w.heap.size w4 F m.reads) := hid ⟨a.A4, a.c4, sk4.out, own_freshI as4.out hS2.out sk4.out (by decide)⟩
  have hask7 := hid (((hask4.out.below b45.out).below b56.out).upd u7.out kn6.out (by decide) (by have := hsb.out; have := hnn2.out; omega))
  have ro7 := hid (own_updG (own_below (own_below (own_freshI ou4.out hS2.out sk4.out (by decide)) b45.out) b56.out) u7.out kn6.out (by decide))
  have hle5 := hid (show w.heap.size ≤ wd.heap.size by have := U4.out.size; have := b45.out.size; have := wds.out; omega)
  have r37 := hid (own_updG (own_base hle5.out ho3.out) u7.out kn6.out (by decide))
  have r47 := hid (own_updG (own_base hle5.out ho4.out) u7.out kn6.out (by decide))
  have ko7 := hid (((ko4.out.below_all b45.out).below_all b56.out).upd u7.out (by have := hnn2.out; omega))
  have gk7 := hid (((gk4.out.below_all b45.out).below_all b56.out).upd u7.out (by have := hg2.out; omega))
  have wm7 := hid (((wm4.out.below b45.out).below b56.out).upd u7.out (((wm4.out.below b45.out).below b56.out).ne_blk kn6.out))
  have U7 : Hid (Upd (fun q => q = F.sb) w w7) := hid (((U4.out.trans (Upd.of_below' b45.out (fun q => q = F.sb)) fun _ _ e => e).trans (Upd.of_below' b56.out (fun q => q = F.sb)) fun _ _ e => e).trans u7.out fun b hb e => absurd e (by have := hnn2.out; omega))
  have hwl := hid (show m.wkeys.length ≤ 32 from by
    have h1 := nodup_leB (m := m.writes.map (·.key)) (srtK_nodup (m.writes.map (·.key))) fun k hk => srtK_mem.1 hk
    rw [List.length_map] at h1
    exact Nat.le_trans h1 hok.out.wl)
  clear hask4 hU45 ho3 ho4 ko4 gk4 wm4 U4 ou4 as4 sk4 ke hX
  have x0 : w7.cell? ⟨w4.heap.size, 0, none⟩ = some (.int .i64 ec) := ke7.out.cell 0
  by_cases hec : ec = 0
  · subst hec
    go_upto_region 7 with fail
    clear x0
    have x9 : w7.cell? ⟨g, 9, none⟩ = some (.slice a.A3 m.out.length a.c3) := gk7.out.cell 9
    have x3 : w7.cell? ⟨n2, 3, none⟩ = some (.slice none 0 0) := kn7.out.cell 3
    have fz := kn7.out.frozen 3
    go_upto_region 8 with fail
    clear x9 fz x3
    have kn8 : Hid (Blk (w7.setCell ⟨n2, 3, none⟩ (.slice a.A3 m.out.length a.c3)) n2 29 #[.int .i64 0, .int .i64 (m.at_ : Nat), .int .i64 ea, .slice a.A3 m.out.length a.c3, .slice none 0 0, .slice A3 (srtK m.reads).length c3, .slice A4 m.wkeys.length c4, .int .i64 (m.fuel : Nat)]) := hid (kn7.out.set_ 3 _)
    have u8 := hid ((Upd.refl (fun q => q = n2) w7).setCell (p := ⟨n2, 3, none⟩) (fun _ => rfl) (.slice a.A3 m.out.length a.c3))
    have hask8 := hid (hask7.out.upd u8.out kn7.out (by decide) (by have := hsb.out; have := hnn2.out; omega))
    have ro8 := hid (own_updG ro7.out u8.out kn7.out (by decide))
    have r38 := hid (own_updG r37.out u8.out kn7.out (by decide))
    have r48 := hid (own_updG r47.out u8.out kn7.out (by decide))
    have ko8 := hid (ko7.out.upd u8.out (by have := hnn2.out; omega))
    have gk8 := hid (gk7.out.upd u8.out (by have := hg2.out; omega))
    have wm8 := hid (wm7.out.upd u8.out (wm7.out.ne_blk kn7.out))
    have U8 := hid (U7.out.trans u8.out fun b hb e => absurd e (by have := hnn2.out; omega))
    clear hask7 ro7 r37 r47 ko7 gk7 wm7 U7 kn7 ke7
    generalize w7.setCell ⟨n2, 3, none⟩ (.slice a.A3 m.out.length a.c3) = w8 at *
    have x6 : w8.cell? ⟨n2, 6, none⟩ = some (.slice A4 m.wkeys.length c4) := kn8.out.cell 6
    go_wp2_with fail
    clear x6
    go_loopw [54] (fun v wr => ∃ (i : Nat) (A : Option Addr) (c : Nat), v = .int .i64 i ∧ i ≤ m.wkeys.length ∧ Blk wr n2 29 #[.int .i64 0, .int .i64 (m.at_ : Nat), .int .i64 ea, .slice a.A3 m.out.length a.c3, .slice A i c, .slice A3 (srtK m.reads).length c3, .slice A4 m.wkeys.length c4, .int .i64 (m.fuel : Nat)] ∧ wr.ownsRow w8.heap.size 57 5 (.slice A i c) i (wcells ((m.wkeys.take i).map m.gW)) ∧ Upd (fun q => q = n2) w8 wr) (fun v _ => m.wkeys.length - (intOf v).toNat)
    case atStart => exact ⟨0, none, 0, rfl, Nat.zero_le _, kn8.out, World.ownsRow_nil _ _ _ _, Upd.refl _ _⟩
    case round =>
      obtain ⟨i, A, c, rfl, hi, hkn0, hown0, hU0⟩ := hrel
      have knr := hid hkn0
      have hown := hid hown0
      have hUr := hid hU0
      have gkr := hid (gk8.out.upd hU0 (by have := hg2.out; omega))
      have wmr := hid (wm8.out.upd hU0 (wm8.out.ne_blk kn8.out))
      have r4r := hid (own_updG r48.out hU0 kn8.out (by decide))
      have hnn := hid (show i ≤ 1000 by have := hwl.out; omega)
      clear hkn0 hown0 hU0
      by_cases hlt : i < m.wkeys.length
      · obtain ⟨b1, o1, hA4, _, hb1, hc1⟩ := (Rd.of_own' r4r.out).at_ hlt
        obtain ⟨k, hk0⟩ : ∃ k, m.wkeys[i]? = some k := ⟨_, List.getElem?_eq_getElem hlt⟩
        have e1 := hc1 i (.string k) (by simp [strs, hk0])
        have hkE := hid hk0
        have i1 : (i : Int) < (m.wkeys.length : Int) := by omega
        have i2 : IntKind.i64.wrap ((i : Int) + 1) = (i : Int) + 1 := by rw [IntKind.wrap_i64]; have := hnn.out; omega
        obtain ⟨x, hgx0⟩ := wkeys_has (m := m) (k := k) (List.mem_of_getElem? hk0)
        have hgx := hid hgx0
        have hltH := hid hlt
        have hDw : Hid (Dwr m.writes k = some (.agg #[.string x.key, .bool x.gone, .int .i64 x.v.k, .int .i64 x.v.n, .string x.v.s])) := hid (by unfold Dwr; rw [hgx0]; rfl)
        have hno : Hid (¬ (Value.slice A i c).ownBlock = some n2) := hid fun e => by
          obtain ⟨cur, hc⟩ := own_blk0 hown.out e
          exact absurd (blk_ty hc knr.out) (by decide)
        have hgo : Hid (¬ (Value.slice A i c).ownBlock = some g) := hid fun e => by
          obtain ⟨cur, hc⟩ := own_blk0 hown.out e
          exact absurd (blk_ty hc gkr.out) (by decide)
        have hlk : Hid (∀ W, Upd (fun q => (Value.slice A i c).ownBlock = some q) wr W → (Instr.lookup 95 (.map (some a.wm)) (.string k) false).run Tryz.prog W = .ok (.agg #[.string x.key, .bool x.gone, .int .i64 x.v.k, .int .i64 x.v.n, .string x.v.s]) W) := hid fun W hW => by
          have h1 := (wmr.out.upd hW (fun e => by
            obtain ⟨cur, hc⟩ := own_blk0 hown.out e
            exact wmr.out.ne_blk hc rfl)).lookup Tryz.underlying95 zeroW k
          rw [hDw.out] at h1
          exact h1
        subst hA4
        clear hc1 hgx0 hlt hDw hi hk0
        obtain ⟨i0, hi0, hz0, hz1, hz2⟩ := info_parts info_wrI
        go_upto_region 11 with fail
        have hHeld : wr.drew.cell? ⟨n2, 4, none⟩ = some (.slice A i c) ∧ wr.drew.cell? ⟨g, 11, none⟩ = some (.map (some a.wm)) ∧ (Instr.lookup 95 (.map (some a.wm)) (.string k) false).run Tryz.prog wr.drew = .ok (.agg #[.string x.key, .bool x.gone, .int .i64 x.v.k, .int .i64 x.v.n, .string x.v.s]) wr.drew := ⟨knr.out.drew.cell 4, gkr.out.drew.cell 11, hlk.out _ (Upd.of_below' (Below.refl _ _).drew _)⟩
        refine wp_region_heldE (S := fun w' => w'.cell? ⟨n2, 4, none⟩ = some (.slice A i c) ∧ w'.cell? ⟨g, 11, none⟩ = some (.map (some a.wm)) ∧ (Instr.lookup 95 (.map (some a.wm)) (.string k) false).run Tryz.prog w' = .ok (.agg #[.string x.key, .bool x.gone, .int .i64 x.v.k, .int .i64 x.v.n, .string x.v.s]) w') 11 (by kernel_rfl) ?_
        refine wpAnyE_take [1, 9, 10, 11] (i := 0) (v := ?v509) rfl (by kernel_rfl) (by kernel_rfl) (by kernel_rfl) (by rfl) (by kernel_rfl) (by kernel_rfl) (fun _ _ _ h => h) (Or.inl ⟨by rfl, ?hy509⟩) (hHeld) ?rest509
        case hy509 => intro w hSw; (try dsimp only at hSw); go_simp; try with_reducible rfl
        (try simp only [Act.put, List.setIfInBounds_toArray, List.set_cons_zero, List.set_cons_succ, List.getElem_toArray, List.getElem_cons_zero, List.getElem_cons_succ])
        refine wpAnyE_take [9, 10, 11] (i := 1) (v := ?v510) rfl (by kernel_rfl) (by kernel_rfl) (by kernel_rfl) (by rfl) (by kernel_rfl) (by kernel_rfl) (fun _ _ _ h => h) (Or.inl ⟨by rfl, ?hy510⟩) (hHeld) ?rest510
        case hy510 => intro w hSw; (try dsimp only at hSw); go_simp; try with_reducible rfl
        (try simp only [Act.put, List.setIfInBounds_toArray, List.set_cons_zero, List.set_cons_succ, List.getElem_toArray, List.getElem_cons_zero, List.getElem_cons_succ])
        refine wpAnyE_take [3, 4, 5, 7, 8, 9, 10, 11] (i := 2) (v := ?v511) rfl (by kernel_rfl) (by kernel_rfl) (by kernel_rfl) (by rfl) (by kernel_rfl) (by kernel_rfl) (fun _ _ _ h => h) (Or.inl ⟨by rfl, ?hy511⟩) (hHeld) ?rest511
        case hy511 => intro w hSw; (try dsimp only at hSw); go_simp; try with_reducible rfl
        (try simp only [Act.put, List.setIfInBounds_toArray, List.set_cons_zero, List.set_cons_succ, List.getElem_toArray, List.getElem_cons_zero, List.getElem_cons_succ])
        refine wpAnyE_take [4, 5, 7, 8, 9, 10, 11] (i := 3) (v := ?v512) rfl (by kernel_rfl) (by kernel_rfl) (by kernel_rfl) (by rfl) (by kernel_rfl) (by kernel_rfl) (fun _ _ _ h => h) (Or.inl ⟨by rfl, ?hy512⟩) (hHeld) ?rest512
        case hy512 => intro w hSw; (try dsimp only at hSw); go_simp; try with_reducible rfl
        (try simp only [Act.put, List.setIfInBounds_toArray, List.set_cons_zero, List.set_cons_succ, List.getElem_toArray, List.getElem_cons_zero, List.getElem_cons_succ])
        refine wpAnyE_take [5, 7, 8, 9, 10, 11] (i := 4) (v := ?v513) rfl (by kernel_rfl) (by kernel_rfl) (by kernel_rfl) (by rfl) (by kernel_rfl) (by kernel_rfl) (fun _ _ _ h => h) (Or.inl ⟨by rfl, ?hy513⟩) (hHeld) ?rest513
        case hy513 => intro w hSw; (try dsimp only at hSw); go_simp; try with_reducible rfl
        (try simp only [Act.put, List.setIfInBounds_toArray, List.set_cons_zero, List.set_cons_succ, List.getElem_toArray, List.getElem_cons_zero, List.getElem_cons_succ])
        refine wpAnyE_take [7, 8, 9, 10, 11] (i := 5) (v := ?v514) rfl (by kernel_rfl) (by kernel_rfl) (by kernel_rfl) (by rfl) (by kernel_rfl) (by kernel_rfl) (fun _ _ _ h => h) (Or.inl ⟨by rfl, ?hy514⟩) (hHeld) ?rest514
        case hy514 => intro w hSw; (try dsimp only at hSw); go_simp; try with_reducible rfl
        (try simp only [Act.put, List.setIfInBounds_toArray, List.set_cons_zero, List.set_cons_succ, List.getElem_toArray, List.getElem_cons_zero, List.getElem_cons_succ])
        refine wpAnyE_take [7, 8, 9, 10, 11] (i := 6) (v := ?v515) rfl (by kernel_rfl) (by kernel_rfl) (by kernel_rfl) (by rfl) (by kernel_rfl) (by kernel_rfl) (fun _ _ _ h => h) (Or.inl ⟨by rfl, ?hy515⟩) (hHeld) ?rest515
        case hy515 => intro w hSw; (try dsimp only at hSw); go_simp; try with_reducible rfl
        (try simp only [Act.put, List.setIfInBounds_toArray, List.set_cons_zero, List.set_cons_succ, List.getElem_toArray, List.getElem_cons_zero, List.getElem_cons_succ])
        refine wpAnyE_take [8, 9, 10, 11] (i := 7) (v := ?v516) rfl (by kernel_rfl) (by kernel_rfl) (by kernel_rfl) (by rfl) (by kernel_rfl) (by kernel_rfl) (fun _ _ _ h => h) (Or.inl ⟨by rfl, ?hy516⟩) (hHeld) ?rest516
        case hy516 => intro w hSw; (try dsimp only at hSw); go_simp; try with_reducible rfl
        (try simp only [Act.put, List.setIfInBounds_toArray, List.set_cons_zero, List.set_cons_succ, List.getElem_toArray, List.getElem_cons_zero, List.getElem_cons_succ])
        refine wpAnyE_ready (rs := [8]) (by kernel_rfl) (by simp) ?_
        refine AllReadyE.cons rfl (fun K hK => ?_) AllReadyE.nil
        go_simp
        refine hK.out _ _ (fun _ => ⟨(knr.out.drew.alloc _).cell 4, (gkr.out.drew.alloc _).cell 11, hlk.out _ (Upd.of_below' ((Below.refl _ _).drew.alloc (by simp) _) _)⟩) ?_
        clear hK K
        (try simp only [Act.put, List.setIfInBounds_toArray, List.set_cons_zero, List.set_cons_succ, List.getElem_toArray, List.getElem_cons_zero, List.getElem_cons_succ])
        refine wpAnyE_ready (rs := [9]) (by kernel_rfl) (by simp) ?_
        refine AllReadyE.cons rfl (fun K hK => ?_) AllReadyE.nil
        refine step_append_rd _ rfl (.tmp 59) (.tmp 66) 24 rfl w8.heap.size 57 i0 _ 5 56 Tryz.underlying24 hi0 hz0 hz1 hz2 rfl (by omega) (.slice A i c) i ((wcells ((m.wkeys.take i).map m.gW))) rfl ?_ (fun q => q = wr.heap.size) (some ⟨wr.heap.size, 0, none⟩) 1 1 #[.string x.key, .bool x.gone, .int .i64 x.v.k, .int .i64 x.v.n, .string x.v.s].toList rfl ?_ ?_ ?_ ?_ ?_ (i + 1) rfl ((wcells ((m.wkeys.take i).map m.gW)) ++ #[.string x.key, .bool x.gone, .int .i64 x.v.k, .int .i64 x.v.n, .string x.v.s].toList) rfl ?_
        · exact (hown.out.drew).alloc _
        · exact Rd.new wr.drew 57 5 1 #[.string x.key, .bool x.gone, .int .i64 x.v.k, .int .i64 x.v.n, .string x.v.s] wr.heap.size rfl rfl
        · intro v hv; simp at hv; (first | (rcases hv with rfl | rfl | rfl | rfl | rfl <;> rfl) | (rcases hv with rfl; rfl))
        · have := hnn.out; simp only [maxLen]; omega
        · have := hnn.out; omega
        · have := hUr.out.size; simp; omega
        intro A5 c5 w3 hown3 hg3 hat3
        have hu9 : Hid (Upd (fun q => (Value.slice A i c).ownBlock = some q) wr w3) := hid (((Upd.refl _ wr).drew.alloc _).grown hg3 fun q hq _ => hq)
        have hO3 := hid hown3
        have hat9 : Hid ((Value.slice A5 (i + 1) c5).ownBlock = (Value.slice A i c).ownBlock ∨ ∃ k, wr.heap.size ≤ k ∧ (Value.slice A5 (i + 1) c5).ownBlock = some k) := hid (by
          rcases hat3 with e | e
          · exact .inl e
          · exact .inr ⟨_, by simp, e⟩)
        clear hg3 hat3 hown3
        have r4 : w3.cell? ⟨n2, 4, none⟩ = some (.slice A i c) ∧ w3.cell? ⟨g, 11, none⟩ = some (.map (some a.wm)) ∧ (Instr.lookup 95 (.map (some a.wm)) (.string k) false).run Tryz.prog w3 = .ok (.agg #[.string x.key, .bool x.gone, .int .i64 x.v.k, .int .i64 x.v.n, .string x.v.s]) w3 := ⟨(knr.out.upd hu9.out hno.out).cell 4, (gkr.out.upd hu9.out hgo.out).cell 11, hlk.out _ hu9.out⟩
        have q4 : w3.frozen? ⟨n2, 4, none⟩ = false := (knr.out.upd hu9.out hno.out).frozen 4
        have r7 := r4.1
        refine hK.out _ _ (fun _ => r4) ?_
        clear hK K
        (try simp only [Act.put, List.setIfInBounds_toArray, List.set_cons_zero, List.set_cons_succ, List.getElem_toArray, List.getElem_cons_zero, List.getElem_cons_succ])
        refine wpAnyE_take [11] (i := 10) (v := ?v517) rfl (by kernel_rfl) (by kernel_rfl) (by kernel_rfl) (by rfl) (by kernel_rfl) (by kernel_rfl) (fun _ _ _ h => h) (Or.inl ⟨by rfl, ?hy517⟩) (r4) ?rest517
        case hy517 => intro w hSw; (try dsimp only at hSw); go_simp; try with_reducible rfl
        (try simp only [Act.put, List.setIfInBounds_toArray, List.set_cons_zero, List.set_cons_succ, List.getElem_toArray, List.getElem_cons_zero, List.getElem_cons_succ])
        refine wpAnyE_ready (rs := [11]) (by kernel_rfl) (by simp) ?_
        refine AllReadyE.cons rfl (fun K hK => ?_) AllReadyE.nil
        go_simp
        refine hK.out _ _ (fun h => absurd rfl h) ?_
        clear hK K
        (try simp only [Act.put, List.setIfInBounds_toArray, List.set_cons_zero, List.set_cons_succ, List.getElem_toArray, List.getElem_cons_zero, List.getElem_cons_succ])
        refine wpAnyE_done (by kernel_rfl) ?_ _
        have hnx := hid (show n2 < wr.heap.size from knr.out.lt)
        have kn3 := hid ((knr.out.upd hu9.out hno.out).set_ 4 (.slice A5 (i + 1) c5))
        have hUs := hid (((hUr.out.trans hu9.out fun b hb e => absurd (hown.out.lt b e).1 (by omega)).setCell (p := ⟨n2, 4, none⟩) (fun _ => rfl) (.slice A5 (i + 1) c5)))
        have hO5 := hid (own_setOtherI hO3.out (knr.out.upd hu9.out hno.out) (by decide) 4 (.slice A5 (i + 1) c5))
        generalize w3.setCell ⟨n2, 4, none⟩ (.slice A5 (i + 1) c5) = w9 at *
        go_wp2_with fail
        go_roundw
        case rel =>
          refine ⟨i + 1, A5, c5, rfl, by have := hltH.out; omega, by simpa using kn3.out, ?_, hUs.out⟩
          have e : m.gW k = x := by unfold Mc.gW; rw [hgx.out]; rfl
          rw [take_snocI hkE.out, List.map_append, List.map_cons, List.map_nil, e, wcells_snoc]
          exact hO5.out
        case measure => simp [intOf]; have := hltH.out; omega
      · have hie := hid (show i = m.wkeys.length by omega)
        have i1 : ¬ (i : Int) < (m.wkeys.length : Int) := by omega
        have ro9 := hid (own_updG ro8.out hUr.out kn8.out (by decide))
        have r39 := hid (own_updG r38.out hUr.out kn8.out (by decide))
        have hask9 := hid (hask8.out.upd hUr.out kn8.out (by decide) (by have := hsb.out; have := hnn2.out; omega))
        have ko := hid (ko8.out.upd hUr.out (by have := hnn2.out; omega))
        have U9 := hid (U8.out.trans hUr.out fun b hb e => absurd e (by have := hnn2.out; omega))
        have hbw := hid (show w.heap.size ≤ w8.heap.size from U8.out.size)
        clear hlt hi ko8 ro8 r38 r48 hask8
        go_upto_region 13 with fail
        have x0 := knr.out.cell 0
        have x1 := knr.out.cell 1
        have x2 := knr.out.cell 2
        have x3 := knr.out.cell 3
        have x4 := knr.out.cell 4
        have x5 := knr.out.cell 5
        have x6 := knr.out.cell 6
        have x7 := knr.out.cell 7
        simp only [List.getElem?_toArray, List.getElem?_cons_zero, List.getElem?_cons_succ] at x0 x1 x2 x3 x4 x5 x6 x7
        have oz := fun q => ko.out.frozen q
        have y0 := ko.out.cell 0
        have y1 := ko.out.cell 1
        have y2 := ko.out.cell 2
        have y3 := ko.out.cell 3
        have y4 := ko.out.cell 4
        have y5 := ko.out.cell 5
        have y6 := ko.out.cell 6
        have y7 := ko.out.cell 7
        simp only [List.getElem?_toArray, List.getElem?_cons_zero, List.getElem?_cons_succ] at y0 y1 y2 y3 y4 y5 y6 y7
        go_wp2_with fail
        have U10 := (((((((((Upd.refl (fun q => q = w.heap.size + 1) wr).setCell (p := ⟨w.heap.size + 1, 0, none⟩) (fun _ => rfl) (.int .i64 0)).setCell (p := ⟨w.heap.size + 1, 1, none⟩) (fun _ => rfl) (.int .i64 (m.at_ : Nat))).setCell (p := ⟨w.heap.size + 1, 2, none⟩) (fun _ => rfl) (.int .i64 ea)).setCell (p := ⟨w.heap.size + 1, 3, none⟩) (fun _ => rfl) (.slice a.A3 m.out.length a.c3)).setCell (p := ⟨w.heap.size + 1, 4, none⟩) (fun _ => rfl) (.slice A i c)).setCell (p := ⟨w.heap.size + 1, 5, none⟩) (fun _ => rfl) (.slice A3 (srtK m.reads).length c3)).setCell (p := ⟨w.heap.size + 1, 6, none⟩) (fun _ => rfl) (.slice A4 m.wkeys.length c4)).setCell (p := ⟨w.heap.size + 1, 7, none⟩) (fun _ => rfl) (.int .i64 (m.fuel : Nat)))
        refine bodyPost_ret (v := .agg #[.int .i64 0, .int .i64 (m.at_ : Nat), .int .i64 ea, .slice a.A3 m.out.length a.c3, .slice A i c, .slice A3 (srtK m.reads).length c3, .slice A4 m.wkeys.length c4, .int .i64 (m.fuel : Nat)]) ?_ rfl ⟨_, rfl, ?_, ?_, ?_⟩
        · exact results_cell_row (P := Tryz.prog) rfl _ _ (w.heap.size + 1) 29 _ (0, 0) _ rfl (show Blk _ _ _ #[.int .i64 0, .int .i64 (m.at_ : Nat), .int .i64 ea, .slice a.A3 m.out.length a.c3, .slice A i c, .slice A3 (srtK m.reads).length c3, .slice A4 m.wkeys.length c4, .int .i64 (m.fuel : Nat)] from by simpa using (((((((ko.out.set_ 0 (.int .i64 0)).set_ 1 (.int .i64 (m.at_ : Nat))).set_ 2 (.int .i64 ea)).set_ 3 (.slice a.A3 m.out.length a.c3)).set_ 4 (.slice A i c)).set_ 5 (.slice A3 (srtK m.reads).length c3)).set_ 6 (.slice A4 m.wkeys.length c4)).set_ 7 (.int .i64 (m.fuel : Nat))) Tryz.underlying29 rfl (by kernel_rfl)
        · rw [hR.out]
          show OcV _ _ _ (⟨0, (m.at_ : Nat), ea, m.out, m.wrs, srtK m.reads, m.wkeys, (m.fuel : Nat)⟩ : Oc)
          have hwl2 : m.wrs.length = i := by unfold Mc.wrs; rw [List.length_map, hie.out]
          refine ⟨a.A3, a.c3, A, c, A3, c3, A4, c4, by simp only [hwl2], ?_, ?_, ?_, ?_⟩
          · exact own_updG ro9.out U10 ko.out (by decide)
          · have h := own_updG (own_base hbw.out hown.out) U10 ko.out (by decide)
            have e : (m.wkeys.take i).map m.gW = m.wrs := by rw [hie.out, List.take_length]; rfl
            rw [e] at h
            show World.ownsRow _ _ _ _ (.slice A m.wrs.length c) m.wrs.length (wcells m.wrs)
            rw [hwl2]
            exact h
          · exact own_updG r39.out U10 ko.out (by decide)
          · exact own_updG r4r.out U10 ko.out (by decide)
        · rw [hR.out]
          exact hask9.out.upd U10 ko.out (by decide) (by have := hsb.out; omega)
        · exact U9.out.trans U10 fun b hb e => absurd e (by omega)
  · have t1 : (ec == 0) = false := by simpa using hec
    have hecH := hid hec
    clear hec
    have ko := hid ko7.out
    clear ko7
    go_upto_region 13 with fail
    clear x0
    have x0 := kn7.out.cell 0
    have x1 := kn7.out.cell 1
    have x2 := kn7.out.cell 2
    have x3 := kn7.out.cell 3
    have x4 := kn7.out.cell 4
    have x5 := kn7.out.cell 5
    have x6 := kn7.out.cell 6
    have x7 := kn7.out.cell 7
    simp only [List.getElem?_toArray, List.getElem?_cons_zero, List.getElem?_cons_succ] at x0 x1 x2 x3 x4 x5 x6 x7
    have oz := fun q => ko.out.frozen q
    have y0 := ko.out.cell 0
    have y1 := ko.out.cell 1
    have y2 := ko.out.cell 2
    have y3 := ko.out.cell 3
    have y4 := ko.out.cell 4
    have y5 := ko.out.cell 5
    have y6 := ko.out.cell 6
    have y7 := ko.out.cell 7
    simp only [List.getElem?_toArray, List.getElem?_cons_zero, List.getElem?_cons_succ] at y0 y1 y2 y3 y4 y5 y6 y7
    go_wp2_with fail
    have U8 := (((((((((Upd.refl (fun q => q = w.heap.size + 1) w7).setCell (p := ⟨w.heap.size + 1, 0, none⟩) (fun _ => rfl) (.int .i64 ec)).setCell (p := ⟨w.heap.size + 1, 1, none⟩) (fun _ => rfl) (.int .i64 (m.at_ : Nat))).setCell (p := ⟨w.heap.size + 1, 2, none⟩) (fun _ => rfl) (.int .i64 ea)).setCell (p := ⟨w.heap.size + 1, 3, none⟩) (fun _ => rfl) (.slice none 0 0)).setCell (p := ⟨w.heap.size + 1, 4, none⟩) (fun _ => rfl) (.slice none 0 0)).setCell (p := ⟨w.heap.size + 1, 5, none⟩) (fun _ => rfl) (.slice A3 (srtK m.reads).length c3)).setCell (p := ⟨w.heap.size + 1, 6, none⟩) (fun _ => rfl) (.slice A4 m.wkeys.length c4)).setCell (p := ⟨w.heap.size + 1, 7, none⟩) (fun _ => rfl) (.int .i64 (m.fuel : Nat)))
    refine bodyPost_ret (v := .agg #[.int .i64 ec, .int .i64 (m.at_ : Nat), .int .i64 ea, .slice none 0 0, .slice none 0 0, .slice A3 (srtK m.reads).length c3, .slice A4 m.wkeys.length c4, .int .i64 (m.fuel : Nat)]) ?_ rfl ⟨_, rfl, ?_, ?_, ?_⟩
    · exact results_cell_row (P := Tryz.prog) rfl _ _ (w.heap.size + 1) 29 _ (0, 0) _ rfl (show Blk _ _ _ #[.int .i64 ec, .int .i64 (m.at_ : Nat), .int .i64 ea, .slice none 0 0, .slice none 0 0, .slice A3 (srtK m.reads).length c3, .slice A4 m.wkeys.length c4, .int .i64 (m.fuel : Nat)] from by simpa using (((((((ko.out.set_ 0 (.int .i64 ec)).set_ 1 (.int .i64 (m.at_ : Nat))).set_ 2 (.int .i64 ea)).set_ 3 (.slice none 0 0)).set_ 4 (.slice none 0 0)).set_ 5 (.slice A3 (srtK m.reads).length c3)).set_ 6 (.slice A4 m.wkeys.length c4)).set_ 7 (.int .i64 (m.fuel : Nat))) Tryz.underlying29 rfl (by kernel_rfl)
    · rw [hR.out]
      have hE9 : endO ((ec, ea), m) = ⟨ec, (m.at_ : Nat), ea, [], [], srtK m.reads, m.wkeys, (m.fuel : Nat)⟩ := by unfold endO; simp only [if_neg hecH.out]
      show OcV _ _ _ (endO ((ec, ea), m))
      rw [hE9]
      refine ⟨none, 0, none, 0, A3, c3, A4, c4, rfl, ?_, ?_, ?_, ?_⟩
      · exact World.ownsRow_nil _ _ _ _
      · exact World.ownsRow_nil _ _ _ _
      · exact own_updG r37.out U8 ko.out (by decide)
      · exact own_updG r47.out U8 ko.out (by decide)
    · rw [hR.out]
      exact hask7.out.upd U8 ko.out (by decide) (by have := hsb.out; omega)
    · exact U7.out.trans U8 fun b hb e => absurd e (by omega)
end
end Go.Proofs.YtdmogoaaecdbaaaGreatDoor

