/- Texts of the proof, joined: SRApply, SBothS, SPlP. -/
import Derived.Test.YtphglnenafdkaaaGreatDoorP05
import Derived.Test.YtphglnenafdkaaaGreatDoorP07
import Derived.Test.YtphglnenafdkaaaGreatDoorP10
import Derived.Test.YtphglnenafdkaaaGreatDoorP08
namespace Go.Proofs.YtphglnenafdkaaaGreatDoor
open Go.RowKit
set_option linter.unusedVariables false
set_option linter.unusedSimpArgs false

theorem up_set {k : ByteArray} {v : Vl} : ∀ {L : List Kv}, Asc L → hasK k L = true → upK k v L = L.set (posK k L) (k, v) := by
  intro L
  induction L with
  | nil => intro _ h; cases h
  | cons x l ih =>
    intro h hk
    have h' := List.pairwise_cons.1 h
    rw [hasK_cons] at hk
    show (if x.1 = k then (k, v) else x) :: upK k v l = _
    by_cases h1 : ltB x.1 k = true
    · have hne := ltB_ne h1
      simp [hne] at hk
      rw [pos_t h1, if_neg hne, ih h'.2 hk]; rfl
    · have hx : x.1 = k := by
        rcases hasK_asc h (by simpa using h1) with e | e
        · exact e
        · rw [hasK_cons] at e; rw [e] at hk; cases hk
      rw [pos_f h1, pos_z h'.1 h1, if_pos hx]
      have : upK k v l = l := by
        unfold upK
        have e : ∀ y ∈ l, (if y.1 = k then (k, v) else y) = y := fun y hy => if_neg fun e => by
          have := h'.1 y hy
          rw [hx, e, ltB_irrefl] at this; cases this
        rw [List.map_congr_left e]; simp
      rw [this]; rfl
theorem kv_get {L : List Kv} {j : Nat} (hj : j < L.length * 4) : (kvCells L)[j]? = some ((encI (L[j / 4]'(by omega)))[j % 4]'(by simp [encI]; omega)) := by
  obtain ⟨h1, h2, h3, h4⟩ := kvCells_at (L := L) (i := j / 4) (x := L[j / 4]'(by omega)) (by simp [show j / 4 < L.length by omega])
  have hr : j % 4 < 4 := Nat.mod_lt _ (by decide)
  have hj4 : j = j / 4 * 4 + j % 4 := by omega
  have hc : j % 4 = 0 ∨ j % 4 = 1 ∨ j % 4 = 2 ∨ j % 4 = 3 := by omega
  rcases hc with e | e | e | e
  · rw [show j / 4 * 4 = j by omega] at h1; simpa [encI, e] using h1
  · rw [show j / 4 * 4 + 1 = j by omega] at h2; simpa [encI, e] using h2
  · rw [show j / 4 * 4 + 2 = j by omega] at h3; simpa [encI, e] using h3
  · rw [show j / 4 * 4 + 3 = j by omega] at h4; simpa [encI, e] using h4
theorem own_kv_set {w : World} {base g n cap : Nat} {L : List Kv} (h : w.ownsRow base 70 4 (.slice (some ⟨g, 0, none⟩) n cap) n (kvCells L)) (hn : n = L.length) {p : Nat} (hp : p < n) {k : ByteArray} (hk : (L[p]'(by omega)).1 = k) (v : Vl) :
    (((w.setCell ⟨g, p * 4 + 1, none⟩ (.int .i64 v.k)).setCell ⟨g, p * 4 + 2, none⟩ (.int .i64 v.n)).setCell ⟨g, p * 4 + 3, none⟩ (.string v.s)).ownsRow base 70 4 (.slice (some ⟨g, 0, none⟩) n cap) n (kvCells (L.set p (k, v))) := by
  rcases h.2 with ⟨_, h0⟩ | ⟨g', cap', cur, hv, hgb, hgh, hgn, hgm, hgs, hgt⟩
  · omega
  injection hv with e1 e2 e3
  injection e1 with e1; injection e1 with e1 _ _
  subst e1; subst e3
  have hb : Blk w g 70 cur := hgh
  refine ⟨by rw [kvCells_len, List.length_set, hn], .inr ⟨g, cap, _, rfl, hgb, ((hb.set_ (p * 4 + 1) (.int .i64 v.k)).set_ (p * 4 + 2) (.int .i64 v.n)).set_ (p * 4 + 3) (.string v.s), hgn, hgm, by simp [hgs], ?_⟩⟩
  apply List.ext_getElem?
  intro j
  by_cases hj : j < n * 4
  · rw [List.getElem?_take_of_lt hj, Array.getElem?_toList, kv_get (by rw [List.length_set, ← hn]; exact hj)]
    have hold : cur[j]? = (kvCells L)[j]? := by rw [← hgt, List.getElem?_take_of_lt hj, Array.getElem?_toList]
    rw [kv_get (by rw [← hn]; exact hj)] at hold
    have hjs : j < cur.size := by omega
    by_cases hq : j / 4 = p
    · subst hq
      simp only [List.getElem_set_self]
      have hc : j % 4 = 0 ∨ j % 4 = 1 ∨ j % 4 = 2 ∨ j % 4 = 3 := by omega
      rcases hc with e | e | e | e
      · rw [Array.getElem?_setIfInBounds_ne (by omega), Array.getElem?_setIfInBounds_ne (by omega), Array.getElem?_setIfInBounds_ne (by omega), hold]
        simp [encI, e, hk]
      · rw [Array.getElem?_setIfInBounds_ne (by omega), Array.getElem?_setIfInBounds_ne (by omega), show j / 4 * 4 + 1 = j by omega, Array.getElem?_setIfInBounds_self_of_lt hjs]
        simp [encI, e]
      · rw [Array.getElem?_setIfInBounds_ne (by omega), show j / 4 * 4 + 2 = j by omega, Array.getElem?_setIfInBounds_self_of_lt (by simpa using hjs)]
        simp [encI, e]
      · rw [show j / 4 * 4 + 3 = j by omega, Array.getElem?_setIfInBounds_self_of_lt (by simpa using hjs)]
        simp [encI, e]
    · rw [Array.getElem?_setIfInBounds_ne (by omega), Array.getElem?_setIfInBounds_ne (by omega), Array.getElem?_setIfInBounds_ne (by omega), hold]
      simp only [List.getElem_set_ne (Ne.symm hq)]
  · rw [List.getElem?_take_eq_none (by omega), List.getElem?_eq_none (by rw [kvCells_len, List.length_set]; omega)]
section
variable {S : Nat → Prop} {w w' : World} {r : Nat} {s : St}
set_option maxRecDepth 100000 in
set_option maxHeartbeats 4000000 in
theorem rapply_any {Sk : Nat → Prop} {A : Option Addr} {c : Nat} (ws : List Wr) (h : RAt S w r s) (hr : Rd Sk w 5 A ws.length (wrCells ws)) (hs : ∀ x ∈ ws, x.key.size ≤ 9223372036854775806 ∧ x.v.s.size ≤ 9223372036854775806) (hd : ∀ b, Sk b → b < w.heap.size ∧ b ≠ r) (hn : ws.length ≤ 1000000) :
    Calls Tryz.prog 18 #[.pointer (some ⟨r, 0, none⟩), .slice A ws.length c] w fun e w' => e = .returned (.int .i64 (applyE s ws)) ∧ RGo S w r (applyS s ws) w' := by
  have HH := hid h
  have HR := hid hr
  have HS := hid hs
  have hgd := guardVal
  have hN : (ws.length : Int) ≤ 1000000 := by omega
  have hgo : Hid (∀ w', Below w.heap.size w w' → ∀ e, applyE s ws = e → e ≠ 0 → RGo S w r (applyS s ws) w') := hid fun w' hb e he hne => ⟨S, by rw [applyS_no (by rw [he]; exact hne)]; exact HH.out.below hb, fun j hj => .inl hj, .of_below hb fun k hk h => by omega⟩
  clear h hr hs hn
  go_enter Tryz.func18, Tryz.ntmps18
  go_wp2_with fail
  go_loopw [5] (fun v wr => ∃ (k : Nat), v = .int .i64 k ∧ k ≤ ws.length ∧ Below w.heap.size w wr ∧ ∀ j, j < k → wrE s ws j = 0) (fun v _ => ws.length - (intOf v).toNat)
  case atStart => exact ⟨0, rfl, Nat.zero_le _, Below.refl _ _, fun j h => by omega⟩
  case round =>
    obtain ⟨k, rfl, hk, hB0, ha0⟩ := hrel
    have hB := hid hB0
    have ha := hid ha0
    clear hB0 ha0
    by_cases hlt : k < ws.length
    · have i1 : (k : Int) < (ws.length : Int) := by omega
      obtain ⟨b, o, rfl, _, hbl, c0, c1, c2, c3, c4⟩ := rd_wr (HR.out.below_all hB.out) hlt
      obtain ⟨hks, hvs⟩ := HS.out _ (List.getElem_mem hlt)
      obtain ⟨x, hx⟩ : ∃ x, x = ws[k] := ⟨_, rfl⟩
      rw [← hx] at c0 c1 c2 c3 c4 hks hvs
      obtain ⟨y, hy⟩ : ∃ y, ws.getD (k - 1) wr0 = y := ⟨_, rfl⟩
      have hxe : Hid (ws.getD k wr0 = x) := hid (by rw [hx]; simp [List.getD_eq_getElem?_getD, hlt])
      have hye := hid hy
      have hE := hid (wrE_at (s := s) hxe.out hy)
      clear hx hy
      go_upto_region 5 with fail
      have kB0 := Blk.new wr 40 #[.string x.key, .bool x.gone, .int .i64 x.v.k, .int .i64 x.v.n, .string x.v.s]
      have hB2 : Below wr.heap.size wr (wr.alloc (.cells #[.string x.key, .bool x.gone, .int .i64 x.v.k, .int .i64 x.v.n, .string x.v.s] 40)) := (Below.refl _ _).alloc (Nat.le_refl _) _
      have HB2 := hid (hB.out.trans (hB2.mono hB.out.size))
      generalize wr.alloc (.cells #[.string x.key, .bool x.gone, .int .i64 x.v.k, .int .i64 x.v.n, .string x.v.s] 40) = w2 at *
      have KB := hid kB0
      have Bc := hid hbl
      generalize wr.heap.size = m at *
      clear kB0 hB2 c0 c1 c2 c3 c4 hbl hB
      have x0 : w2.cell? ⟨m, 0, none⟩ = some (.string x.key) := KB.out.cell 0
      have hvk := hid (rvalidk_any x.key w2 hks)
      go_wp2_with fail
      refine hvk.out.mono ?_
      rintro e w3 ⟨rfl, rfl⟩
      clear hvk
      cases hv0 : validK x.key with
      | false =>
        have hfin : Hid (applyE s ws = 30) := hid (applyE_first (by decide) (fun j hj => ha.out j hj) (by rw [hE.out, if_pos hv0]) hlt)
        clear hv0 hE
        go_wp2_with fail
        go_ret
        exact ⟨by rw [hfin.out]; rfl, hgo.out _ (HB2.out) _ hfin.out (by decide)⟩
      | true =>
      have hv := hid hv0
      clear hv0
      have x0 : w3.cell? ⟨m, 0, none⟩ = some (.string x.key) := KB.out.cell 0
      go_upto_region 7 with fail
      by_cases hbad : 0 < k ∧ ltB y.key x.key = false
      · obtain ⟨hk0, hl0⟩ := hbad
        have hfin : Hid (applyE s ws = 40) := hid (applyE_first (by decide) (fun j hj => ha.out j hj) (by rw [hE.out, if_neg (by simp [hv.out]), if_pos ⟨hk0, hl0⟩]) hlt)
        obtain ⟨j, hjk⟩ : ∃ j, j + 1 = k := ⟨k - 1, by omega⟩
        have hj : j < ws.length := by omega
        obtain ⟨b', o', e, _, _, d0, _⟩ := rd_wr (HR.out.below_all HB2.out) hj
        injection e with e; injection e with e1 e2; subst e1; subst e2
        have hyj : ws[j] = y := by
          have := hye.out
          rw [show k - 1 = j by omega] at this
          rw [← this]; simp [List.getD_eq_getElem?_getD, hj]
        rw [hyj] at d0
        have i0 : (j : Int) < (ws.length : Int) := by omega
        have t1 : decide ((0 : Int) < (k : Int)) = true := decide_eq_true (by omega)
        have t1n : decide (0 < k) = true := decide_eq_true hk0
        have x1 : IntKind.i64.wrap ((k : Int) - 1) = (j : Int) := by rw [IntKind.wrap_i64]; omega
        have hl : Op.bytesLess y.key.toList x.key.toList = false := hl0
        clear hl0 hk0 hjk hyj hE
        go_quiet (fail)
        go_wp2_with fail
        go_ret
        exact ⟨by rw [hfin.out]; rfl, hgo.out _ (below_drewN HB2.out _) _ hfin.out (by decide)⟩
      have hnr := hid hbad
      clear hbad
      go_cut [25] (fun v wx => v = .bool false ∧ ∃ q, wx = w3.drewN q)
      case first =>
        by_cases hk0 : 0 < k
        · obtain ⟨j, hjk⟩ : ∃ j, j + 1 = k := ⟨k - 1, by omega⟩
          have hj : j < ws.length := by omega
          obtain ⟨b', o', e, _, _, d0, _⟩ := rd_wr (HR.out.below_all HB2.out) hj
          injection e with e; injection e with e1 e2; subst e1; subst e2
          have hyj : ws[j] = y := by
            have := hye.out
            rw [show k - 1 = j by omega] at this
            rw [← this]; simp [List.getD_eq_getElem?_getD, hj]
          rw [hyj] at d0
          have i0 : (j : Int) < (ws.length : Int) := by omega
          have t1 : decide ((0 : Int) < (k : Int)) = true := decide_eq_true (by omega)
          have t1n : decide (0 < k) = true := decide_eq_true hk0
          have x1 : IntKind.i64.wrap ((k : Int) - 1) = (j : Int) := by rw [IntKind.wrap_i64]; omega
          have hl : Op.bytesLess y.key.toList x.key.toList = true := by
            have := hnr.out
            cases h : ltB y.key x.key with
            | true => exact h
            | false => exact absurd ⟨hk0, h⟩ this
          clear hk0 hjk hyj hE hnr
          go_quiet (fail)
          go_wp2_with fail
          go_meet
          exact ⟨rfl, _, rfl⟩
        · have t1 : decide ((0 : Int) < (k : Int)) = false := decide_eq_false (by omega)
          have t1n : decide (0 < k) = false := decide_eq_false hk0
          clear hk0 hE hnr
          go_quiet (fail)
          go_wp2_with fail
          go_meet
          exact ⟨rfl, _, rfl⟩
      case rest =>
        obtain ⟨rfl, q, hq⟩ := hcut
        have KB3 : Hid (Blk wc m 40 #[.string x.key, .bool x.gone, .int .i64 x.v.k, .int .i64 x.v.n, .string x.v.s]) := hid (by rw [hq]; exact KB.out)
        have HB3 : Hid (Below w.heap.size w wc) := hid (by rw [hq]; exact below_drewN HB2.out q)
        clear hq x0 KB HB2
        have x0 : wc.cell? ⟨m, 0, none⟩ = some (.string x.key) := KB3.out.cell 0
        have hcl := hid (rclaimed_any x.key (HH.out.below HB3.out))
        go_wp2_with fail
        refine hcl.out.mono ?_
        rintro e w4 ⟨rfl, hb40⟩
        have KB4 := hid (KB3.out.below_all hb40)
        have HB4 := hid (HB3.out.trans (hb40.mono HB3.out.size))
        clear hb40 hcl x0 KB3 HB3
        cases hc0 : hasK x.key s.L with
        | false =>
          have hfin : Hid (applyE s ws = 41) := hid (applyE_first (by decide) (fun j hj => ha.out j hj) (by rw [hE.out, if_neg (by simp [hv.out]), if_neg hnr.out, if_pos hc0]) hlt)
          clear hE hc0
          go_wp2_with fail
          go_ret
          exact ⟨by rw [hfin.out]; rfl, hgo.out _ (HB4.out) _ hfin.out (by decide)⟩
        | true =>
        have hc := hid hc0
        clear hc0
        have x2 : w4.cell? ⟨m, 2, none⟩ = some (.int .i64 x.v.k) := KB4.out.cell 2
        have x3 : w4.cell? ⟨m, 3, none⟩ = some (.int .i64 x.v.n) := KB4.out.cell 3
        have x4 : w4.cell? ⟨m, 4, none⟩ = some (.string x.v.s) := KB4.out.cell 4
        have hva := hid (rvalid_any x.v w4 hvs)
        go_wp2_with fail
        refine hva.out.mono ?_
        rintro e w5 ⟨rfl, hb50⟩
        have KB5 := hid (KB4.out.below_all hb50)
        have HB5 := hid (HB4.out.trans (hb50.mono HB4.out.size))
        clear hb50 hva x2 x3 x4 KB4 HB4
        cases ho0 : x.v.ok with
        | false =>
          have hfin : Hid (applyE s ws = 20) := hid (applyE_first (by decide) (fun j hj => ha.out j hj) (by rw [hE.out, if_neg (by simp [hv.out]), if_neg hnr.out, if_neg (by simp [hc.out]), if_pos ho0]) hlt)
          clear hE ho0
          go_wp2_with fail
          go_ret
          exact ⟨by rw [hfin.out]; rfl, hgo.out _ (HB5.out) _ hfin.out (by decide)⟩
        | true =>
        have ho := hid ho0
        clear ho0
        have x1 : w5.cell? ⟨m, 1, none⟩ = some (.bool x.gone) := KB5.out.cell 1
        have x2 : w5.cell? ⟨m, 2, none⟩ = some (.int .i64 x.v.k) := KB5.out.cell 2
        have x3 : w5.cell? ⟨m, 3, none⟩ = some (.int .i64 x.v.n) := KB5.out.cell 3
        have x4 : w5.cell? ⟨m, 4, none⟩ = some (.string x.v.s) := KB5.out.cell 4
        have hnz0 : ∀ w', (binOp .neq 38 (.agg #[.int .i64 x.v.k, .int .i64 x.v.n, .string x.v.s]) (.agg #[.int .i64 0, .int .i64 0, .string ⟨#[]⟩])).run Tryz.prog w' = .ok (.bool (!decide (x.v = vl0))) w' := fun w' => by
          rw [run_neq_struct, show (⟨#[]⟩ : ByteArray) = vl0.s from rfl, show (Value.int .i64 0) = .int .i64 vl0.k from rfl]
          have := run_eqVal x.v vl0 w'
          rw [show (.int .i64 vl0.k : Value) = .int .i64 vl0.n from rfl] at this ⊢
          rw [this]; rfl
        cases hg0 : x.gone with
        | false =>
          have hz : Hid (wrE s ws k = 0) := hid (by rw [hE.out, if_neg (by simp [hv.out]), if_neg hnr.out, if_neg (by simp [hc.out]), if_neg (by simp [ho.out]), if_neg (by simp [hg0])])
          rw [hg0] at x1
          clear hE hnz0 hg0
          go_wp2_with fail
          go_roundw
          case rel => exact ⟨k + 1, by go_num, hlt, HB5.out, fun j hj => by
            by_cases e : j = k
            · subst e; exact hz.out
            · exact ha.out j (by omega)⟩
          case measure => simp [intOf]; omega
        | true =>
          rw [hg0] at x1
          cases hz0 : decide (x.v = vl0) with
          | true =>
            have hz : Hid (wrE s ws k = 0) := hid (by rw [hE.out, if_neg (by simp [hv.out]), if_neg hnr.out, if_neg (by simp [hc.out]), if_neg (by simp [ho.out]), if_neg (by simp [of_decide_eq_true hz0])])
            have hnz := hnz0
            rw [hz0] at hnz
            clear hE hnz0 hg0 hz0
            go_wp2_with fail
            go_roundw
            case rel => exact ⟨k + 1, by go_num, hlt, HB5.out, fun j hj => by
              by_cases e : j = k
              · subst e; exact hz.out
              · exact ha.out j (by omega)⟩
            case measure => simp [intOf]; omega
          | false =>
            have hfin : Hid (applyE s ws = 2) := hid (applyE_first (by decide) (fun j hj => ha.out j hj) (by rw [hE.out, if_neg (by simp [hv.out]), if_neg hnr.out, if_neg (by simp [hc.out]), if_neg (by simp [ho.out]), if_pos ⟨hg0, of_decide_eq_false hz0⟩]) hlt)
            have hnz := hnz0
            rw [hz0] at hnz
            clear hE hnz0 hg0 hz0
            go_wp2_with fail
            go_ret
            exact ⟨by rw [hfin.out]; rfl, hgo.out _ (HB5.out) _ hfin.out (by decide)⟩
    · obtain rfl : k = ws.length := by omega
      have he := hid (applyE_zero (s := s) fun j hj => ha.out j hj)
      have hP0 := HH.out.below hB.out
      obtain ⟨B, d, hP⟩ := hP0
      have d2 : wr.cell? ⟨r, 2, none⟩ = some (.slice B s.L.length d) := hP.cells.2.2
      obtain ⟨ip, hip, hp0, hp1, hp2⟩ := info_parts info_item
      have hl9 := hP.ok.len
      have hrl := hP.blk.lt
      have qr := hP.blk.frozen
      have kb := hid hP.blk
      have hrd := hid hP.rd
      have hok := hid hP.ok
      have HR3 := hid (HR.out.below_all hB.out)
      have HB := hid hB.out
      have hb0 : Below wr.heap.size wr (wr.alloc (.cells #[] 70)) := (Below.refl _ _).alloc (Nat.le_refl _) _
      have hwl := hid hB.out.size
      have hsl := hid HH.out.lt
      have hInS := hid (show S r by obtain ⟨_, _, h⟩ := HH.out; exact h.inS)
      obtain ⟨n, hn⟩ : ∃ n, n = s.L.length := ⟨_, rfl⟩
      rw [← hn] at d2 hrd hl9 kb
      have hnn := hid hn
      clear hP ha hlt hk hB hn HH HR hgo
      go_wp2_with (
        at_builtin
        refine wpList_copy_rd wr rfl (.tmp 60) (.tmp 64) 62 rfl 70 ip _ 4 48 Tryz.underlying62 hip hp0 hp1 hp2 rfl (by omega) wr.heap.size rfl rfl _ B n d (kvCells s.L) rfl hrd.out (kvCells_one _) (by simp only [maxLen]; omega) (by omega) ?_
        intro A' c' w4 hown4 hb4
        have kb4 := hid (kb.out.below_all hb4)
        have r2 : w4.cell? ⟨r, 2, none⟩ = some (.slice B n d) := kb4.out.cell 2
        have q2 := kb4.out.frozen 2
        have HB4 := hid hb4
        have HO4 := hid hown4
        clear hown4 hb4)
      have h50 : Hid (Upd (fun j => j = r) w (w4.setCell ⟨r, 2, none⟩ (.slice A' n c'))) := hid (((Upd.of_below (M := fun j => j = r) HB.out fun k hk h => by omega).trans (Upd.of_below (M := fun j => j = r) HB4.out fun k hk h => by omega) fun _ _ h => h).setCell (p := ⟨r, 2, none⟩) (fun _ => rfl) _)
      have h51 : Hid (Blk (w4.setCell ⟨r, 2, none⟩ (.slice A' n c')) r 94 #[.int .i64 s.parts, .int .i64 s.room, .slice A' n c']) := hid (kb4.out.set_ 2 _)
      have h52 : Hid ((w4.setCell ⟨r, 2, none⟩ (.slice A' n c')).ownsRow wr.heap.size 70 4 (.slice A' n c') n (kvCells s.L)) := hid (own_updB HO4.out ((Upd.refl (fun j => j = r) w4).setCell (p := ⟨r, 2, none⟩) (fun _ => rfl) _) fun q hq _ e => by omega)
      have h53 : Hid (Rd Sk (w4.setCell ⟨r, 2, none⟩ (.slice A' n c')) 5 A ws.length (wrCells ws)) := hid ((HR3.out.below_all HB4.out).keep fun b hb _ => Below.heap_setCell _ _ _ _ (by have := (hd b hb).2; simp only; omega))
      generalize w4.setCell ⟨r, 2, none⟩ (.slice A' n c') = w5 at *
      obtain ⟨B0, hB0⟩ : ∃ B0, B0 = wr.heap.size := ⟨_, rfl⟩
      rw [← hB0] at h52 hwl hrl
      have hrl := hid hrl
      clear d2 kb hrd HR3 HB hb0 HB4 HO4 kb4 hl9 qr hB0
      go_wp2_with fail
      go_loopw [7] (fun v wr => ∃ (k : Nat) (M : List Kv), v = .int .i64 k ∧ k ≤ ws.length ∧ M = upAll s.L (ws.take k) ∧ St.Ok { s with L := M } ∧ Upd (fun j => j = r) w wr ∧ Blk wr r 94 #[.int .i64 s.parts, .int .i64 s.room, .slice A' n c'] ∧ wr.ownsRow B0 70 4 (.slice A' n c') n (kvCells M) ∧ Rd Sk wr 5 A ws.length (wrCells ws)) (fun v _ => ws.length - (intOf v).toNat)
      case atStart => exact ⟨0, _, rfl, Nat.zero_le _, rfl, hok.out, h50.out, h51.out, h52.out, h53.out⟩
      case round =>
        clear h50 h51 h52 h53
        obtain ⟨k, M, rfl, hk, hM0, hok0, hu0, hb0, ho0, hr0⟩ := hrel
        have hM := hid hM0
        have hok1 := hid hok0
        have HU := hid hu0
        have HK := hid hb0
        have HO := hid ho0
        have HR := hid hr0
        clear hM0 hok0 hu0 hb0 ho0 hr0
        have hMl : Hid (M.length = n) := hid (by
          have := congrArg List.length (upAll_keys (ws := ws.take k) (L := s.L))
          rw [← hM.out] at this
          simp at this
          rw [this, hnn.out])
        have hRA : Hid (RAt (fun j => j = r ∨ (B0 ≤ j ∧ j < wr.heap.size)) wr r { s with L := M }) := hid (by
          obtain ⟨A2, c2, he2, h1, h2⟩ := own_form HO.out
          injection he2 with e1 e2 e3
          subst e1; subst e3
          refine ⟨A', c', ?_, ?_, ?_, .inl rfl, fun j hj => ?_, hok1.out⟩
          · show Blk _ _ _ #[_, _, .slice A' M.length c']
            rw [hMl.out]; exact HK.out
          · show Rd _ _ 4 A' M.length (kvCells M)
            rw [hMl.out]
            exact (Rd.of_own' HO.out).more fun b hb hl => ⟨.inr ⟨hb, hl⟩, by have := hrl.out; omega⟩
          · show (A' = none ∧ M.length = 0 ∧ c' = 0) ∨ ((∃ b o, A' = some ⟨b, o, none⟩) ∧ M.length ≤ c' ∧ c' ≤ maxLen)
            rw [hMl.out]
            rcases HO.out.2 with ⟨hv, h0⟩ | ⟨g, cap, cur, hv, _⟩
            · injection hv with e1 e2 e3
              exact .inl ⟨e1, h0, e3⟩
            · injection hv with e1 e2 e3
              exact .inr ⟨⟨g, 0, e1⟩, h1, h2⟩
          · rcases hj with rfl | hj
            · exact HK.out.lt
            · exact hj.2)
        by_cases hlt : k < ws.length
        · have i1 : (k : Int) < (ws.length : Int) := by omega
          obtain ⟨b, o, hA0, hSb, hbl, c0, c1, c2, c3, c4⟩ := rd_wr HR.out hlt
          subst hA0
          have hz := hid (apply_zero he.out _ (List.getElem_mem hlt))
          have htk := hid (take_snoc hlt)
          obtain ⟨x, hx⟩ : ∃ x, x = ws[k] := ⟨_, rfl⟩
          have hcs := hid (show ∀ w', Below wr.heap.size wr w' → w'.cell? ⟨b, o + k * 5 + 2, none⟩ = some (.int .i64 x.v.k) ∧ w'.cell? ⟨b, o + k * 5 + 3, none⟩ = some (.int .i64 x.v.n) ∧ w'.cell? ⟨b, o + k * 5 + 4, none⟩ = some (.string x.v.s) from fun w' h => by
            rw [hx]; exact ⟨(h.cell (p := ⟨b, o + k * 5 + 2, none⟩) hbl).trans c2, (h.cell (p := ⟨b, o + k * 5 + 3, none⟩) hbl).trans c3, (h.cell (p := ⟨b, o + k * 5 + 4, none⟩) hbl).trans c4⟩)
          rw [← hx] at c0 hz htk
          have hat := hid (at_any x.key hRA.out)
          have hhk : hasK x.key M = true := by rw [hM.out, upAll_has]; exact hz.out.2.1
          have hpl : posK x.key M < n := by
            obtain ⟨y, h1, _⟩ := pos_get hok1.out.asc hhk
            rw [← hMl.out]; exact (List.getElem?_eq_some_iff.1 h1).1
          have hset := hid (up_set (v := x.v) hok1.out.asc hhk)
          have hpk : Hid ((M[posK x.key M]'(by rw [hMl.out]; exact hpl)).1 = x.key) := hid (by
            obtain ⟨y, h1, h2, _⟩ := pos_get hok1.out.asc hhk
            obtain ⟨h3, h4⟩ := List.getElem?_eq_some_iff.1 h1
            rw [h4]; exact h2)
          simp only at hat
          rw [hhk] at hat
          clear hx c1 c2 c3 c4 hbl hRA
          go_wp2_with fail
          refine hat.out.mono ?_
          rintro e w6 ⟨rfl, hb60⟩
          obtain ⟨c2, c3, c4⟩ := hcs.out _ hb60
          have HO6 := hid (own_below HO.out hb60)
          have HK6 := hid (HK.out.below_all hb60)
          have HR6 := hid (HR.out.below_all hb60)
          have HU6 : Hid (Upd (fun j => j = r) w w6) := hid (HU.out.trans (Upd.of_below (M := fun j => j = r) hb60 fun k hk h => by have := HK.out.lt; omega) fun _ _ h => h)
          clear hb60 hcs hat HO HK HR HU c0
          rcases HO6.out.2 with ⟨_, h0⟩ | ⟨g, cap, cur, hv, hgb, hgh, hgn, hgm, hgs, hgt⟩
          · omega
          injection hv with e1 e2 e3
          subst e1; subst e3
          have d2 : w6.cell? ⟨r, 2, none⟩ = some (.slice (some ⟨g, 0, none⟩) n c') := HK6.out.cell 2
          have kg : Blk w6 g 70 cur := hgh
          have hgl : g < w6.heap.size := kg.lt
          have fg := kg.frozen
          have hfin := hid (own_kv_set HO6.out hMl.out.symm hpl hpk.out x.v)
          have hgr : Hid (g ≠ r) := hid (by have := kg.ne_ HK6.out (by decide); exact this)
          have hgb2 := hid (show ¬ Sk g ∧ ¬ g < w.heap.size from ⟨fun h => by have := (hd g h).1; have := hwl.out; omega, by have := hwl.out; omega⟩)
          obtain ⟨p, hp⟩ : ∃ p, p = posK x.key M := ⟨_, rfl⟩
          rw [← hp] at hfin hset hpl
          simp only [← hp]
          have ip : (p : Int) < (n : Int) := by omega
          have hz1 : p * 4 + 3 < cur.size := by omega
          obtain ⟨u1, y1⟩ : ∃ u, w6.cell? ⟨g, p * 4 + 1, none⟩ = some u := ⟨cur[p * 4 + 1], by rw [kg.cell]; simp [show p * 4 + 1 < cur.size by omega]⟩
          obtain ⟨u2, y2⟩ : ∃ u, w6.cell? ⟨g, p * 4 + 2, none⟩ = some u := ⟨cur[p * 4 + 2], by rw [kg.cell]; simp [show p * 4 + 2 < cur.size by omega]⟩
          obtain ⟨u3, y3⟩ : ∃ u, w6.cell? ⟨g, p * 4 + 3, none⟩ = some u := ⟨cur[p * 4 + 3], by rw [kg.cell]; simp [show p * 4 + 3 < cur.size by omega]⟩
          have hoo := hid HO6
          have hpp := hid hp
          have hh9 := hid hgb
          have hlt9 := hid hlt
          clear hgh hgn hgm hgs hgt hz1 hpk hp kg hgb hpl hhk hlt hk
          go_wp2_with fail
          go_still_tail 12, (by kernel_rfl)
          change wpList _ _ _ _ _ w6.drew
          go_wp2_with fail
          have hM2 : M.set p (x.key, x.v) = upAll s.L (ws.take (k + 1)) := by rw [htk.out, upAll_snoc, ← hM.out]; exact hset.out.symm
          go_roundw
          case rel => exact ⟨k + 1, M.set p (x.key, x.v), by go_num, hlt9.out, hM2, by rw [← hset.out]; exact up_ok1 (s := { s with L := M }) hok1.out hz.out.1 hz.out.2.2, ((HU6.out.drew.setCell (p := ⟨g, p * 4 + 1, none⟩) (fun h => absurd h hgb2.out.2) _).setCell (p := ⟨g, p * 4 + 2, none⟩) (fun h => absurd h hgb2.out.2) _).setCell (p := ⟨g, p * 4 + 3, none⟩) (fun h => absurd h hgb2.out.2) _, (((HK6.out.drew).far (Ne.symm hgr.out) _).far (Ne.symm hgr.out) _).far (Ne.symm hgr.out) _, hfin.out, (((HR6.out.drew).setCell (p := ⟨g, p * 4 + 1, none⟩) hgb2.out.1 _).setCell (p := ⟨g, p * 4 + 2, none⟩) hgb2.out.1 _).setCell (p := ⟨g, p * 4 + 3, none⟩) hgb2.out.1 _⟩
          case measure => simp [intOf]; have := hlt9.out; omega
        · obtain rfl : k = ws.length := by omega
          have hfin : Hid (RGo S w r (applyS s ws) wr) := hid (by
            refine ⟨fun j => j = r ∨ (B0 ≤ j ∧ j < wr.heap.size), ?_, fun j hj => ?_, HU.out.mono fun j _ h => h ▸ hInS.out⟩
            · rw [applyS_yes he.out]
              have := hRA.out
              rw [hM.out, List.take_length] at this
              exact this
            · rcases hj with rfl | hj
              · exact .inl hInS.out
              · have := hwl.out; exact .inr (by omega))
          clear hRA HU HK HO HR
          go_wp2_with fail
          go_ret
          exact ⟨by rw [he.out]; rfl, hfin.out⟩
end
end Go.Proofs.YtphglnenafdkaaaGreatDoor

namespace Go.Proofs.YtphglnenafdkaaaGreatDoor
open Go.RowKit
set_option linter.unusedVariables false
set_option linter.unusedSimpArgs false

/-- both stores, each in memory of its own -/
def Two (B : Nat) (w : World) (g r : Nat) (s : St) : Prop := ∃ S S2, PAt S w g s ∧ RAt S2 w r s ∧ (∀ j, S j → B ≤ j) ∧ (∀ j, S2 j → B ≤ j) ∧ (∀ j, S j → ¬ S2 j)
/-- the program's store has gone on, the document's not -/
def TwoM (B m : Nat) (w : World) (g r : Nat) (s s' : St) : Prop := ∃ S S2, PAt S w g s' ∧ RAt S2 w r s ∧ (∀ j, S j → B ≤ j) ∧ (∀ j, S2 j → B ≤ j) ∧ (∀ j, S j → ¬ S2 j) ∧ ∀ j, S2 j → j < m
/-- both, before the program's goes on: its blocks lie below m -/
def TwoB (B m : Nat) (w : World) (g r : Nat) (s : St) : Prop := ∃ S S2, PAt S w g s ∧ RAt S2 w r s ∧ (∀ j, S j → B ≤ j) ∧ (∀ j, S2 j → B ≤ j) ∧ (∀ j, S j → ¬ S2 j) ∧ (∀ j, S j → j < m) ∧ ∀ j, S2 j → j < m
/-- what lies from m on is as it was -/
def Far (m : Nat) (w w' : World) : Prop := ∀ j, m ≤ j → j < w.heap.size → w'.heap[j]? = w.heap[j]?
section
variable {w w' : World} {B g r : Nat}
theorem Two.below {s : St} (h : Two B w g r s) (hb : Below w.heap.size w w') : Two B w' g r s := by
  obtain ⟨S, S2, h1, h2, h3⟩ := h; exact ⟨S, S2, h1.below hb, h2.below hb, h3⟩
theorem Two.st {s : St} (h : Two B w g r s) : TwoB B w.heap.size w g r s := by obtain ⟨S, S2, h1, h2, h3, h4, h5⟩ := h; exact ⟨S, S2, h1, h2, h3, h4, h5, h1.lt, h2.lt⟩
theorem TwoB.below {m : Nat} {s : St} (h : TwoB B m w g r s) (hb : Below w.heap.size w w') : TwoB B m w' g r s := by
  obtain ⟨S, S2, h1, h2, h3⟩ := h; exact ⟨S, S2, h1.below hb, h2.below hb, h3⟩
theorem TwoB.two {m : Nat} {s : St} (h : TwoB B m w g r s) : Two B w g r s := by
  obtain ⟨S, S2, h1, h2, h3, h4, h5, _, _⟩ := h; exact ⟨S, S2, h1, h2, h3, h4, h5⟩
theorem claim_two {s : St} {m : Nat} {A : Option Addr} {c : Nat} (ks : List ByteArray) (h : TwoB B m w g r s) (hB : B ≤ w.heap.size) (hr : Rd (fun b => m ≤ b) w 1 A ks.length (strs ks)) (hs : okKs ks) (hn : ks.length ≤ 1000000) :
    Calls Tryz.prog 10 #[.pointer (some ⟨g, 0, none⟩), .slice A ks.length c] w fun e w' => e = .returned (.int .i64 (claimE s ks)) ∧ TwoM B m w' g r s (claimS s ks) ∧ Below B w w' ∧ Far m w w' := by
  obtain ⟨S, S2, h1, h2, h3, h4, h5, hm, hm2⟩ := h
  refine (claim_any ks h1 hr (fun b hb hS => by have := hm b hS; omega) hs hn).mono ?_
  rintro e w' ⟨rfl, hp, hu⟩
  exact ⟨rfl, ⟨S, S2, hp, h2.upd hu fun b hb hS => h5 b hS hb, h3, h4, h5, hm2⟩, hu.below hB fun k hk hS => by have := h3 k hS; omega, fun j hj hl => hu.block j hl fun hS => by have := hm j hS; omega⟩
theorem apply_two {s : St} {m : Nat} {A : Option Addr} {c : Nat} (ws : List Wr) (h : TwoB B m w g r s) (hB : B ≤ w.heap.size) (hr : Rd (fun b => m ≤ b) w 5 A ws.length (wrCells ws)) (hs : okWs ws) (hn : ws.length ≤ 1000000) :
    Calls Tryz.prog 12 #[.pointer (some ⟨g, 0, none⟩), .slice A ws.length c] w fun e w' => e = .returned (.int .i64 (applyE s ws)) ∧ TwoM B m w' g r s (applyS s ws) ∧ Below B w w' ∧ Far m w w' := by
  obtain ⟨S, S2, h1, h2, h3, h4, h5, hm, hm2⟩ := h
  refine (apply_any ws h1 hr (fun b hb hS => by have := hm b hS; omega) hs hn).mono ?_
  rintro e w' ⟨rfl, hp, hu⟩
  exact ⟨rfl, ⟨S, S2, hp, h2.upd hu fun b hb hS => h5 b hS hb, h3, h4, h5, hm2⟩, hu.below hB fun k hk hS => by have := h3 k hS; omega, fun j hj hl => hu.block j hl fun hS => by have := hm j hS; omega⟩
theorem RAt.inS {S : Nat → Prop} {w : World} {r : Nat} {s : St} (h : RAt S w r s) : S r := by obtain ⟨_, _, h⟩ := h; exact h.inS
theorem rgo_two {s' : St} (S S2 : Nat → Prop) (h1 : PAt S w g s') (h3 : ∀ j, S j → B ≤ j) (h4 : ∀ j, S2 j → B ≤ j) (h5 : ∀ j, S j → ¬ S2 j) {m : Nat} (h6 : ∀ j, S2 j → j < m) (hB : B ≤ w.heap.size) (h : RGo S2 w r s' w') : Two B w' g r s' ∧ Below B w w' ∧ Far m w w' := by
  obtain ⟨S', ha, hb, hu⟩ := h
  refine ⟨⟨S, S', h1.upd hu fun b hb hS => h5 b hb hS, ha, h3, fun j hj => ?_, fun j hj hS => ?_⟩, hu.below hB fun k hk hS => by have := h4 k hS; omega, fun j hj hl => hu.block j hl fun hS => by have := h6 j hS; omega⟩
  · rcases hb j hj with h | h
    · exact h4 j h
    · omega
  · rcases hb j hS with h | h
    · exact h5 j hj h
    · have := h1.lt j hj; omega
theorem rclaim_two {s : St} {A : Option Addr} {c : Nat} (ks : List ByteArray) {m : Nat} (h : TwoM B m w g r s (claimS s ks)) (hB : B ≤ w.heap.size) (hr : Rd (fun b => b < B) w 1 A ks.length (strs ks)) (hs : okKs ks) (hn : ks.length ≤ 1000000) :
    Calls Tryz.prog 17 #[.pointer (some ⟨r, 0, none⟩), .slice A ks.length c] w fun e w' => e = .returned (.int .i64 (claimE s ks)) ∧ Two B w' g r (claimS s ks) ∧ Below B w w' ∧ Far m w w' := by
  obtain ⟨S, S2, h1, h2, h3, h4, h5, h6⟩ := h
  refine (rclaim_any ks h2 hr (fun b hb => ⟨by omega, fun e => by have := h4 r h2.inS; omega⟩) hs hn).mono ?_
  rintro e w' ⟨rfl, hgo⟩
  exact ⟨rfl, rgo_two S S2 h1 h3 h4 h5 h6 hB hgo⟩
theorem rapply_two {s : St} {A : Option Addr} {c : Nat} (ws : List Wr) {m : Nat} (h : TwoM B m w g r s (applyS s ws)) (hB : B ≤ w.heap.size) (hr : Rd (fun b => b < B) w 5 A ws.length (wrCells ws)) (hs : okWs ws) (hn : ws.length ≤ 1000000) :
    Calls Tryz.prog 18 #[.pointer (some ⟨r, 0, none⟩), .slice A ws.length c] w fun e w' => e = .returned (.int .i64 (applyE s ws)) ∧ Two B w' g r (applyS s ws) ∧ Below B w w' ∧ Far m w w' := by
  obtain ⟨S, S2, h1, h2, h3, h4, h5, h6⟩ := h
  refine (rapply_any ws h2 hr hs (fun b hb => ⟨by omega, fun e => by have := h4 r h2.inS; omega⟩) hn).mono ?_
  rintro e w' ⟨rfl, hgo⟩
  exact ⟨rfl, rgo_two S S2 h1 h3 h4 h5 h6 hB hgo⟩
theorem both_bad {Sx : Nat → Prop} (p r : Int) {A : Option Addr} {c n : Nat} (hg : goodPR p r = false) : Calls Tryz.prog 8 #[.agg #[.int .i64 p, .int .i64 r, .slice A n c]] w fun e w' => e = .returned (.tuple #[.pointer none, .pointer none]) ∧ Below w.heap.size w w' := by
  have kb := hid (Blk.new w 24 #[.int .i64 p, .int .i64 r, .slice A n c])
  have hB : Hid (Below w.heap.size w (w.alloc (.cells #[.int .i64 p, .int .i64 r, .slice A n c] 24))) := hid ((Below.refl _ _).alloc (Nat.le_refl _) _)
  have hb1 := fun w => hid (new_bad p r w hg)
  have hb2 := fun w => hid (rnew_bad p r w hg)
  clear hg
  go_enter Tryz.func8, Tryz.ntmps8
  go_upto_region 1 with fail
  generalize w.alloc (.cells #[.int .i64 p, .int .i64 r, .slice A n c] 24) = w1 at *
  generalize hm : w.heap.size = m at *
  have x0 : w1.cell? ⟨m, 0, none⟩ = some (.int .i64 p) := kb.out.cell 0
  have x1 : w1.cell? ⟨m, 1, none⟩ = some (.int .i64 r) := kb.out.cell 1
  go_wp2_with fail
  refine (hb1 _).out.mono ?_
  rintro e wq ⟨rfl, hwq⟩
  obtain rfl := hwq.symm
  go_wp2_with fail
  refine (hb2 _).out.mono ?_
  rintro e wq ⟨rfl, hwq⟩
  obtain rfl := hwq.symm
  go_wp2_with fail
  refine (num_any _ _).mono ?_
  rintro e wq ⟨rfl, hwq⟩
  obtain rfl := hwq.symm
  go_wp2_with fail
  go_ret2
  exact ⟨rfl, hm ▸ hB.out⟩
theorem blk_far {m b : Nat} {t : TypeId} {cs : Array Value} (h : Blk w b t cs) (hf : Far m w w') (hb : m ≤ b) : Blk w' b t cs := (hf b hb h.lt).trans h
/-- in the loop: the stores, and the story's box -/
def actS (s : St) (a : SA) : St := if a.kind = 1 then claimS s a.ks else if a.kind = 2 then applyS s a.ws else s
def playS (s : St) (us : List SA) : St := us.foldl actS s
theorem playS_step (s : St) (us : List SA) (k : Nat) (h : k < us.length) : playS s (us.take (k + 1)) = actS (playS s (us.take k)) us[k] := by
  unfold playS
  rw [List.take_succ_eq_append_getElem h, List.foldl_append]; rfl
structure BothRel (w1 : World) (wr : World) (g r : Nat) (s : St) : Prop where
  two : Two w1.heap.size wr g r s
  bel : Below w1.heap.size w1 wr
set_option maxRecDepth 100000 in
set_option maxHeartbeats 4000000 in
theorem both_ok {Sx : Nat → Prop} (p r : Nat) {A : Option Addr} {c : Nat} {us : List SA} (h : SActs Sx w A us) (hn : us.length ≤ 200) (hp : ∀ a ∈ us, a.ks.length ≤ 6000 ∧ a.ws.length ≤ 6000) (hz : ∀ a ∈ us, okKs a.ks ∧ okWs a.ws) (h1 : 1 ≤ p ∧ p ≤ 64) (h2 : 1 ≤ r ∧ r ≤ 4096) :
    Calls Tryz.prog 8 #[.agg #[.int .i64 p, .int .i64 r, .slice A us.length c]] w fun e w' => ∃ g r0, e = .returned (.tuple #[.pointer (some ⟨g, 0, none⟩), .pointer (some ⟨r0, 0, none⟩)]) ∧ Two w.heap.size w' g r0 (playS ⟨p, r, []⟩ us) ∧ Below w.heap.size w w' := by
  have hB0 : Below w.heap.size w (w.alloc (.cells #[.int .i64 p, .int .i64 r, .slice A us.length c] 24)) := (Below.refl _ _).alloc (Nat.le_refl _) _
  have kb := hid (Blk.new w 24 #[.int .i64 p, .int .i64 r, .slice A us.length c])
  have hs := hid (h.below hB0).all
  have hB := hid hB0
  have hN : (us.length : Int) ≤ 200 := by omega
  have hp := hid hp
  have hz := hid hz
  have n1 := fun w => hid (new_ok p r w h1 h2)
  have n2 := fun w => hid (rnew_ok p r w h1 h2)
  clear h hB0 hn h1 h2
  go_enter Tryz.func8, Tryz.ntmps8
  go_upto_region 1 with fail
  generalize w.alloc (.cells #[.int .i64 p, .int .i64 r, .slice A us.length c] 24) = w1 at *
  generalize hm : w.heap.size = m at *
  have x0 : w1.cell? ⟨m, 0, none⟩ = some (.int .i64 p) := kb.out.cell 0
  have x1 : w1.cell? ⟨m, 1, none⟩ = some (.int .i64 r) := kb.out.cell 1
  go_wp2_with fail
  refine (n1 _).out.mono ?_
  rintro e w2 ⟨S, g, rfl, P2, g2, hb2⟩
  have B2 := hid hb2
  have k2 := kb.out.below_all hb2
  have P2 := hid P2
  have g2 := hid g2
  have x0 : w2.cell? ⟨m, 0, none⟩ = some (.int .i64 p) := k2.cell 0
  have x1 : w2.cell? ⟨m, 1, none⟩ = some (.int .i64 r) := k2.cell 1
  clear hb2 k2
  go_wp2_with fail
  refine (n2 _).out.mono ?_
  rintro e w3 ⟨S2, g', rfl, P3, g3, hb3⟩
  have R3 : Hid (BothRel w1 w3 g g' ⟨p, r, []⟩) := hid ⟨⟨S, S2, P2.out.below hb3, P3, g2.out, fun j hj => by have := g3 j hj; have := B2.out.size; omega, fun j hj h2 => by have := g3 j h2; have := P2.out.lt j hj; omega⟩, B2.out.trans (hb3.mono B2.out.size)⟩
  clear hb3 P3 g3 P2 g2 B2 x0 x1 n1 n2
  go_wp2_with fail
  refine (num_any _ _).mono ?_
  rintro e wq ⟨rfl, hwq⟩
  obtain rfl := hwq.symm
  go_wp2_with fail
  go_loopw [8] (fun v wr => ∃ k : Nat, v = .int .i64 k ∧ k ≤ us.length ∧ BothRel w1 wr g g' (playS ⟨p, r, []⟩ (us.take k))) (fun v _ => us.length - (intOf v).toNat)
  case atStart => exact ⟨0, rfl, Nat.zero_le _, R3.out⟩
  case round =>
    clear R3
    obtain ⟨k, rfl, hk, R0⟩ := hrel
    have R := hid R0
    have x2 : wr.cell? ⟨m, 2, none⟩ = some (.slice A us.length c) := (kb.out.below_all R0.bel).cell 2
    clear R0
    by_cases hlt : k < us.length
    · have i1 : (k : Int) < (us.length : Int) := by omega
      obtain ⟨b, o, rfl, _, hbl, hok, y0, y1, y2⟩ := hs.out.at_ hlt
      have hyy : Hid (∀ w', Below w1.heap.size w1 w' → w'.cell? ⟨m, 2, none⟩ = some (.slice (some ⟨b, o, none⟩) us.length c) ∧ w'.cell? ⟨b, o + k * 3, none⟩ = some (.int .i64 us[k].kind) ∧ w'.cell? ⟨b, o + k * 3 + 1, none⟩ = some (.slice us[k].A1 us[k].ks.length us[k].c1) ∧ w'.cell? ⟨b, o + k * 3 + 2, none⟩ = some (.slice us[k].A2 us[k].ws.length us[k].c2) ∧ us[k].ok (fun b => b < w1.heap.size) w') := hid fun w' h => ⟨(kb.out.below_all h).cell 2, cell_bel h hbl y0, cell_bel h hbl y1, cell_bel h hbl y2, hok.1.below h fun _ h => h, hok.2.below h fun _ h => h⟩
      clear y0 y1 y2 hok x2
      have hpk := hid (hp.out us[k] (List.getElem_mem hlt))
      have hzk := hid (hz.out us[k] (List.getElem_mem hlt))
      have hst := hid (playS_step ⟨p, r, []⟩ us k hlt)
      obtain ⟨s, hs0⟩ : ∃ s, s = playS ⟨p, r, []⟩ (us.take k) := ⟨_, rfl⟩
      rw [← hs0] at R hst
      clear hs0
      generalize us[k] = a at *
      obtain ⟨x2, y0, y1, y2, hok⟩ := hyy.out wr R.out.bel
      have hok := hid hok
      have hTB := hid R.out.two.st
      have hB1 := hid R.out.bel.size
      go_wp2_with fail
      refine (own_any a hok.out (by have := hpk.out.1; omega) (by have := hpk.out.2; omega)).mono ?_
      rintro e w4 ⟨B1, d1, B2, d2, rfl, hr1, hr2, hb4⟩
      have hb5 : Below wr.heap.size wr (w4.alloc (.cells #[.int .i64 a.kind, .slice B1 a.ks.length d1, .slice B2 a.ws.length d2] 51)) := hb4.alloc hb4.size _
      have k9 := hid (Blk.new w4 51 #[.int .i64 a.kind, .slice B1 a.ks.length d1, .slice B2 a.ws.length d2])
      have hs4 := hid hb4.size
      have hr1 := hid (hr1.alloc (.cells #[.int .i64 a.kind, .slice B1 a.ks.length d1, .slice B2 a.ws.length d2] 51))
      have hr2 := hid (hr2.alloc (.cells #[.int .i64 a.kind, .slice B1 a.ks.length d1, .slice B2 a.ws.length d2] 51))
      have hT5 := hid (hTB.out.below hb5)
      have hB5 := hid (R.out.bel.trans (hb5.mono hB1.out))
      clear hb4 hb5 hTB R x2 y0 y1 y2
      go_upto_region 9 with fail
      generalize w4.alloc (.cells #[.int .i64 a.kind, .slice B1 a.ks.length d1, .slice B2 a.ws.length d2] 51) = w5 at *
      have c0 : w5.cell? ⟨w4.heap.size, 0, none⟩ = some (.int .i64 a.kind) := k9.out.cell 0
      have hfin : Hid (∀ w', Two w1.heap.size w' g g' (actS s a) → Below w1.heap.size w1 w' → ∃ k' : Nat, Value.int .i64 ((k : Int) + 1) = .int .i64 k' ∧ k' ≤ us.length ∧ BothRel w1 w' g g' (playS ⟨p, r, []⟩ (us.take k'))) := hid fun w' h h' => ⟨k + 1, by go_num, hlt, by rw [hst.out]; exact h, h'⟩
      have i2 : IntKind.i64.wrap ((k : Int) + 1) = (k : Int) + 1 := by rw [IntKind.wrap_i64]; omega
      by_cases e1 : a.kind = 1
      · have t1 : (a.kind == 1) = true := by simpa using e1
        have t2 : (a.kind == 2) = false := by rw [e1]; rfl
        have hac : Hid (actS s a = claimS s a.ks) := hid (by unfold actS; rw [if_pos e1])
        clear e1
        have c1 : w5.cell? ⟨w4.heap.size, 1, none⟩ = some (.slice B1 a.ks.length d1) := k9.out.cell 1
        go_wp2_with fail
        refine (claim_two a.ks hT5.out hB5.out.size hr1.out hzk.out.1 (by have := hpk.out.1; omega)).mono ?_
        rintro e w6 ⟨rfl, hT6, hb6, hf6⟩
        have hB6 := hid (hB5.out.trans hb6)
        have hT6 := hid hT6
        have k6 := hid (blk_far k9.out hf6 hs4.out)
        clear hb6 hf6 c1 c0
        obtain ⟨x2, y0, y1, y2, hok⟩ := hyy.out w6 hB6.out
        have hok := hid hok
        go_wp2_with fail
        refine (rclaim_two a.ks hT6.out hB6.out.size hok.out.1 hzk.out.1 (by have := hpk.out.1; omega)).mono ?_
        rintro e w7 ⟨rfl, hT7, hb7, hf7⟩
        have hB7 := hid (hB6.out.trans hb7)
        have hT7 := hid hT7
        have c0 : w7.cell? ⟨w4.heap.size, 0, none⟩ = some (.int .i64 a.kind) := (blk_far k6.out hf7 hs4.out).cell 0
        clear hb7 hf7 x2 y0 y1 y2
        go_wp2_with fail
        go_roundw
        case rel => exact hfin.out _ (by rw [hac.out]; exact hT7.out) hB7.out
        case measure => simp [intOf]; omega
      · have t1 : (a.kind == 1) = false := by simpa using e1
        clear e1
        by_cases e2 : a.kind = 2
        · have t2 : (a.kind == 2) = true := by simpa using e2
          have hac : Hid (actS s a = applyS s a.ws) := hid (by unfold actS; rw [if_neg (by simpa using t1), if_pos e2])
          clear e2
          have c2 : w5.cell? ⟨w4.heap.size, 2, none⟩ = some (.slice B2 a.ws.length d2) := k9.out.cell 2
          go_wp2_with fail
          refine (apply_two a.ws hT5.out hB5.out.size hr2.out hzk.out.2 (by have := hpk.out.2; omega)).mono ?_
          rintro e w6 ⟨rfl, hT6, hb6, hf6⟩
          have hB6 := hid (hB5.out.trans hb6)
          have hT6 := hid hT6
          clear hb6 hf6 c2 c0
          obtain ⟨x2, y0, y1, y2, hok⟩ := hyy.out w6 hB6.out
          have hok := hid hok
          go_wp2_with fail
          refine (rapply_two a.ws hT6.out hB6.out.size hok.out.2 hzk.out.2 (by have := hpk.out.2; omega)).mono ?_
          rintro e w7 ⟨rfl, hT7, hb7, hf7⟩
          have hB7 := hid (hB6.out.trans hb7)
          have hT7 := hid hT7
          clear hb7 hf7 x2 y0 y1 y2
          go_wp2_with fail
          go_roundw
          case rel => exact hfin.out _ (by rw [hac.out]; exact hT7.out) hB7.out
          case measure => simp [intOf]; omega
        · have t2 : (a.kind == 2) = false := by simpa using e2
          have hac : Hid (actS s a = s) := hid (by unfold actS; rw [if_neg (by simpa using t1), if_neg e2])
          clear e2
          go_wp2_with fail
          go_roundw
          case rel => exact hfin.out _ (by rw [hac.out]; exact hT5.out.two) hB5.out
          case measure => simp [intOf]; omega
    · obtain rfl : k = us.length := by omega
      have hfb : Hid (Below m w wr) := hid (hB.out.trans (R.out.bel.mono (by have := hB.out.size; omega)))
      have hTf : Hid (Two m wr g g' (playS ⟨p, r, []⟩ us)) := hid (by
        have h0 := R.out.two
        rw [List.take_length] at h0
        obtain ⟨S, S2, h1, h2, h3, h4, h5⟩ := h0
        exact ⟨S, S2, h1, h2, fun j hj => by have := h3 j hj; have := hB.out.size; omega, fun j hj => by have := h4 j hj; have := hB.out.size; omega, h5⟩)
      generalize us.length = n at *
      clear hlt
      go_wp2_with fail
      go_ret2
      exact ⟨g, g', rfl, hm ▸ hTf.out, hm ▸ hfb.out⟩
end
end Go.Proofs.YtphglnenafdkaaaGreatDoor

namespace Go.Proofs.YtphglnenafdkaaaGreatDoor
open Go.RowKit
set_option linter.unusedVariables false
set_option linter.unusedSimpArgs false

def ptrs (l : List (Nat × St)) : List Value := l.map fun x => .pointer (some ⟨x.1, 0, none⟩)
/-- the program's store s, the document's t, the views As, the copies Bs; the blocks from lo to hi are none of theirs -/
structure PIn1 (B : Nat) (w : World) (S S2 V : Nat → Prop) (g r : Nat) (s t : St) (As Bs : List (Nat × St)) (v1 v2 : Value) (lo hi : Nat) : Prop where
  a : PAt S w g s
  b : RAt S2 w r t
  ge : ∀ q, S q ∨ S2 q → B ≤ q
  dis : ∀ j, S j → ¬ S2 j
  va : ∀ x ∈ As, VAt V w x.1 x.2.L ∧ x.2.Ok
  vb : ∀ x ∈ Bs, RAt V w x.1 x.2
  vd : ∀ j, V j → ¬ S j ∧ ¬ S2 j ∧ j < w.heap.size
  o1 : w.ownsRow B 55 1 v1 As.length (ptrs As)
  o2 : w.ownsRow B 29 1 v2 Bs.length (ptrs Bs)
  n1 : ∀ q, v1.ownBlock = some q → ¬ S q ∧ ¬ S2 q ∧ ¬ V q
  n2 : ∀ q, v2.ownBlock = some q → ¬ S q ∧ ¬ S2 q ∧ ¬ V q
  far : ∀ q, lo ≤ q → q < hi → ¬ S q ∧ ¬ S2 q ∧ ¬ V q ∧ v1.ownBlock ≠ some q ∧ v2.ownBlock ≠ some q
  hi_ : hi ≤ w.heap.size
def PRel (B : Nat) (w : World) (g r : Nat) (s : St) (v1 v2 : Value) (lo hi m : Nat) : Prop := ∃ S S2 V As Bs, PIn1 B w S S2 V g r s s As Bs v1 v2 lo hi ∧ As.map (·.2) = Bs.map (·.2) ∧ As.length ≤ m
/-- what lies from lo to hi is as it was -/
def Keep (lo hi : Nat) (w w' : World) : Prop := ∀ q, lo ≤ q → q < hi → w'.heap[q]? = w.heap[q]?
theorem Keep.refl (lo hi : Nat) (w : World) : Keep lo hi w w := fun _ _ _ => rfl
theorem Keep.trans {lo hi : Nat} {a b c : World} (h : Keep lo hi a b) (h2 : Keep lo hi b c) : Keep lo hi a c := fun q h3 h4 => (h2 q h3 h4).trans (h q h3 h4)
theorem Keep.below {lo hi : Nat} {w w' : World} (hb : Below w.heap.size w w') (h : hi ≤ w.heap.size) : Keep lo hi w w' := fun q _ h2 => hb.block q (by omega)
theorem own_keepS {w w' : World} {base : Nat} {e : TypeId} {size n : Nat} {v : Value} {xs : List Value} (h : w.ownsRow base e size v n xs) (hk : ∀ q, v.ownBlock = some q → w'.heap[q]? = w.heap[q]?) : w'.ownsRow base e size v n xs := by
  obtain ⟨h1, h2⟩ := h
  refine ⟨h1, ?_⟩
  rcases h2 with h0 | ⟨q, cap, cur, hv, hb, hh, hr⟩
  · exact .inl h0
  · subst hv
    exact .inr ⟨q, cap, cur, rfl, hb, (hk q rfl).trans hh, hr⟩
section
variable {B g r lo hi m : Nat} {w w' : World} {S S2 V : Nat → Prop} {s t s' t' : St} {As Bs : List (Nat × St)} {v1 v2 : Value}
theorem PIn1.below (h : PIn1 B w S S2 V g r s t As Bs v1 v2 lo hi) (hb : Below w.heap.size w w') : PIn1 B w' S S2 V g r s t As Bs v1 v2 lo hi :=
  ⟨h.a.below hb, h.b.below hb, h.ge, h.dis, fun x hx => ⟨(h.va x hx).1.below hb, (h.va x hx).2⟩, fun x hx => (h.vb x hx).below hb, fun j hj => ⟨(h.vd j hj).1, (h.vd j hj).2.1, Nat.lt_of_lt_of_le (h.vd j hj).2.2 hb.size⟩, own_below h.o1 hb, own_below h.o2 hb, h.n1, h.n2, h.far, Nat.le_trans h.hi_ hb.size⟩
theorem PIn1.goA (h : PIn1 B w S S2 V g r s t As Bs v1 v2 lo hi) (hp : PAt S w' g s') (hu : Upd S w w') : PIn1 B w' S S2 V g r s' t As Bs v1 v2 lo hi ∧ Keep lo hi w w' :=
  ⟨⟨hp, h.b.upd hu fun b hb hS => h.dis b hS hb, h.ge, h.dis, fun x hx => ⟨(h.va x hx).1.upd hu fun b hb => (h.vd b hb).1, (h.va x hx).2⟩, fun x hx => (h.vb x hx).upd hu fun b hb => (h.vd b hb).1, fun j hj => ⟨(h.vd j hj).1, (h.vd j hj).2.1, Nat.lt_of_lt_of_le (h.vd j hj).2.2 hu.size⟩, own_keepS h.o1 fun q hq => hu.block q (h.o1.lt q hq).2 (h.n1 q hq).1, own_keepS h.o2 fun q hq => hu.block q (h.o2.lt q hq).2 (h.n2 q hq).1, h.n1, h.n2, h.far, Nat.le_trans h.hi_ hu.size⟩, fun q h1 h2 => hu.block q (by have := h.hi_; omega) (h.far q h1 h2).1⟩
theorem PIn1.goB (h : PIn1 B w S S2 V g r s t As Bs v1 v2 lo hi) (hB : B ≤ w.heap.size) (hg : RGo S2 w r t' w') : ∃ S2', PIn1 B w' S S2' V g r s t' As Bs v1 v2 lo hi ∧ Keep lo hi w w' := by
  obtain ⟨S2', hr, hn, hu⟩ := hg
  have hout : ∀ q, q < w.heap.size → ¬ S2 q → ¬ S2' q := fun q hq h2 e => by rcases hn q e with e | e; exact h2 e; omega
  refine ⟨S2', ⟨h.a.upd hu fun b hb hS => h.dis b hb hS, hr, fun q hq => ?_, fun j hj => hout j (h.a.lt j hj) (h.dis j hj), fun x hx => ⟨(h.va x hx).1.upd hu fun b hb => (h.vd b hb).2.1, (h.va x hx).2⟩, fun x hx => (h.vb x hx).upd hu fun b hb => (h.vd b hb).2.1, fun j hj => ⟨(h.vd j hj).1, hout j (h.vd j hj).2.2 (h.vd j hj).2.1, Nat.lt_of_lt_of_le (h.vd j hj).2.2 hu.size⟩, own_keepS h.o1 fun q hq => hu.block q (h.o1.lt q hq).2 (h.n1 q hq).2.1, own_keepS h.o2 fun q hq => hu.block q (h.o2.lt q hq).2 (h.n2 q hq).2.1, fun q hq => ⟨(h.n1 q hq).1, hout q (h.o1.lt q hq).2 (h.n1 q hq).2.1, (h.n1 q hq).2.2⟩, fun q hq => ⟨(h.n2 q hq).1, hout q (h.o2.lt q hq).2 (h.n2 q hq).2.1, (h.n2 q hq).2.2⟩, fun q h1 h2 => ⟨(h.far q h1 h2).1, hout q (by have := h.hi_; omega) (h.far q h1 h2).2.1, (h.far q h1 h2).2.2⟩, Nat.le_trans h.hi_ hu.size⟩, fun q h1 h2 => hu.block q (by have := h.hi_; omega) (h.far q h1 h2).2.1⟩
  rcases hq with hq | hq
  · exact h.ge q (.inl hq)
  · rcases hn q hq with e | e
    · exact h.ge q (.inr e)
    · omega
/-- a view more -/
theorem PIn1.addA {S' : Nat → Prop} {w2 : World} {g' : Nat} {A' : Option Addr} {n c' : Nat} (h : PIn1 B w S S2 V g r s t As Bs v1 v2 lo hi) (hv : VAt S' w' g' s.L) (hge : ∀ j, S' j → w.heap.size ≤ j) (hb : Below w.heap.size w w') (hg : w'.grownBy w2 v1.ownBlock) (hn : n = As.length + 1)
    (ho : w2.ownsRow B 55 1 (.slice A' n c') n (ptrs As ++ [.pointer (some ⟨g', 0, none⟩)])) (hat : (Value.slice A' n c').ownBlock = v1.ownBlock ∨ ∃ q, (Value.slice A' n c').ownBlock = some q ∧ w'.heap.size ≤ q) :
    PIn1 B w2 S S2 (fun q => V q ∨ S' q) g r s t (As ++ [(g', s)]) Bs (.slice A' n c') v2 lo hi ∧ Keep lo hi w w2 := by
  have h' := h.below hb
  have hne : ∀ q, v2.ownBlock = some q → some q ≠ v1.ownBlock := fun q hq e => by
    rcases h'.o1.2 with ⟨h1, _⟩ | ⟨g1, _, cur1, h1, _, hh1, _⟩
    · rw [h1] at e; cases e
    · rcases h'.o2.2 with ⟨h2, _⟩ | ⟨g2, _, cur2, h2, _, hh2, _⟩
      · rw [h2] at hq; cases hq
      · rw [h1] at e; rw [h2] at hq
        injection hq with hq
        injection e with e
        have e1 : g1 = g2 := by
          have h5 : g2 = q := hq
          have h6 : q = g1 := e
          omega
        subst e1
        rw [hh1] at hh2
        injection hh2 with hh2
        injection hh2 with _ e3 _
        exact absurd e3 (by decide)
  have kp : ∀ b, b < w'.heap.size → (∀ q, v1.ownBlock = some q → b ≠ q) → w2.heap[b]? = w'.heap[b]? := fun b hl hq => hg.block b hl fun e => hq b e.symm rfl
  have hS' : ∀ q, S' q → ∀ q2, v1.ownBlock = some q2 → q ≠ q2 := fun q hq q2 h2 e => by have := hge q hq; have := (h.o1.lt q2 h2).2; omega
  have a1 : ∀ b, S b → w2.heap[b]? = w'.heap[b]? := fun b hb' => kp b (h'.a.lt b hb') fun q hq e => (h.n1 q hq).1 (e ▸ hb')
  have a2 : ∀ b, S2 b → w2.heap[b]? = w'.heap[b]? := fun b hb' => kp b (h'.b.lt b hb') fun q hq e => (h.n1 q hq).2.1 (e ▸ hb')
  have a3 : ∀ b, V b → w2.heap[b]? = w'.heap[b]? := fun b hb' => kp b (h'.vd b hb').2.2 fun q hq e => (h.n1 q hq).2.2 (e ▸ hb')
  have hlt : ∀ q, S' q → q < w2.heap.size := fun q hq => Nat.lt_of_lt_of_le (hv.lt q hq) hg.size
  have hlV : ∀ q, V q → q < w2.heap.size := fun q hq => Nat.lt_of_lt_of_le (h'.vd q hq).2.2 hg.size
  have up : ∀ {g0 : Nat} {L : List Kv} {T T' : Nat → Prop}, VAt T w' g0 L → (∀ b, T b → w2.heap[b]? = w'.heap[b]?) → (∀ q, T q → T' q) → (∀ q, T' q → q < w2.heap.size) → VAt T' w2 g0 L := fun ⟨vb, hv⟩ hk hT hl => by
    have h2 := hv.keep hk hg.size
    exact ⟨vb, h2.blk, h2.vals, ⟨hT _ h2.inS.1, hT _ h2.inS.2⟩, hl⟩
  have hor : ∀ q, V q ∨ S' q → q < w2.heap.size := fun q hq => hq.elim (hlV q) (hlt q)
  have hown : ∀ q, (Value.slice A' n c').ownBlock = some q → v1.ownBlock = some q ∨ w'.heap.size ≤ q := fun q hq => by
    rcases hat with e | ⟨q2, e, h2⟩
    · exact .inl (e ▸ hq)
    · rw [e] at hq; injection hq with hq; exact .inr (hq ▸ h2)
  have hws := hb.size
  refine ⟨⟨?_, ?_, h.ge, h.dis, fun x hx => ?_, fun x hx => ?_, fun j hj => ⟨?_, ?_, hor j hj⟩, ?_, own_keepS h'.o2 fun q hq => hg.block q (h'.o2.lt q hq).2 (hne q hq), fun q hq => ?_, fun q hq => ⟨(h.n2 q hq).1, (h.n2 q hq).2.1, fun e => ?_⟩, fun q h1 h2 => ⟨(h.far q h1 h2).1, (h.far q h1 h2).2.1, fun e => ?_, fun e => ?_, (h.far q h1 h2).2.2.2.2⟩, Nat.le_trans h'.hi_ hg.size⟩, fun q h1 h2 => ?_⟩
  · obtain ⟨_, _, _, _, hp⟩ := h'.a
    exact ⟨_, _, _, _, hp.keep a1 hg.size⟩
  · obtain ⟨_, _, hp⟩ := h'.b
    exact ⟨_, _, hp.keep a2 hg.size⟩
  · rcases List.mem_append.1 hx with hx | hx
    · exact ⟨up (h'.va x hx).1 a3 (fun _ => .inl) hor, (h.va x hx).2⟩
    · rw [List.mem_singleton.1 hx]
      exact ⟨up hv (fun b hb' => kp b (hv.lt b hb') (hS' b hb')) (fun _ => .inr) hor, h.a.ok⟩
  · obtain ⟨A0, c0, hp⟩ := h'.vb x hx
    have h2 := hp.keep a3 hg.size
    exact ⟨A0, c0, h2.blk, h2.rd.more fun b hb _ => ⟨.inl hb.1, hb.2⟩, h2.frm, .inl h2.inS, hor, h2.ok⟩
  · rcases hj with hj | hj
    · exact (h.vd j hj).1
    · exact fun e => by have := h.a.lt j e; have := hge j hj; omega
  · rcases hj with hj | hj
    · exact (h.vd j hj).2.1
    · exact fun e => by have := h.b.lt j e; have := hge j hj; omega
  · rw [List.length_append, List.length_singleton, ← hn]
    unfold ptrs at ho ⊢
    rw [List.map_append]
    exact ho
  · rcases hown q hq with e | e
    · exact ⟨(h.n1 q e).1, (h.n1 q e).2.1, fun e2 => e2.elim (h.n1 q e).2.2 fun e3 => hS' q e3 q e rfl⟩
    · exact ⟨fun e2 => by have := h'.a.lt q e2; omega, fun e2 => by have := h'.b.lt q e2; omega, fun e2 => e2.elim (fun e3 => by have := (h'.vd q e3).2.2; omega) fun e3 => by have := hv.lt q e3; omega⟩
  · exact e.elim (h.n2 q hq).2.2 fun e3 => by have := hge q e3; have := (h.o2.lt q hq).2; omega
  · exact e.elim (h.far q h1 h2).2.2.1 fun e3 => by have := hge q e3; have := h.hi_; omega
  · rcases hown q e with e2 | e2
    · exact (h.far q h1 h2).2.2.2.1 e2
    · have := h.hi_; omega
  · exact (hg.block q (by have := h.hi_; omega) fun e => (h.far q h1 h2).2.2.2.1 e.symm).trans (hb.block q (by have := h.hi_; omega))
/-- a copy more -/
theorem PIn1.addB {S' : Nat → Prop} {w2 : World} {g' : Nat} {A' : Option Addr} {n c' : Nat} (h : PIn1 B w S S2 V g r s t As Bs v1 v2 lo hi) (hv : RAt S' w' g' t) (hge : ∀ j, S' j → w.heap.size ≤ j) (hb : Below w.heap.size w w') (hg : w'.grownBy w2 v2.ownBlock) (hn : n = Bs.length + 1)
    (ho : w2.ownsRow B 29 1 (.slice A' n c') n (ptrs Bs ++ [.pointer (some ⟨g', 0, none⟩)])) (hat : (Value.slice A' n c').ownBlock = v2.ownBlock ∨ ∃ q, (Value.slice A' n c').ownBlock = some q ∧ w'.heap.size ≤ q) :
    PIn1 B w2 S S2 (fun q => V q ∨ S' q) g r s t As (Bs ++ [(g', t)]) v1 (.slice A' n c') lo hi ∧ Keep lo hi w w2 := by
  have h' := h.below hb
  have hne : ∀ q, v1.ownBlock = some q → some q ≠ v2.ownBlock := fun q hq e => by
    rcases h'.o2.2 with ⟨h1, _⟩ | ⟨g1, _, cur1, h1, _, hh1, _⟩
    · rw [h1] at e; cases e
    · rcases h'.o1.2 with ⟨h2, _⟩ | ⟨g2, _, cur2, h2, _, hh2, _⟩
      · rw [h2] at hq; cases hq
      · rw [h1] at e; rw [h2] at hq
        injection hq with hq
        injection e with e
        have e1 : g1 = g2 := by
          have h5 : g2 = q := hq
          have h6 : q = g1 := e
          omega
        subst e1
        rw [hh1] at hh2
        injection hh2 with hh2
        injection hh2 with _ e3 _
        exact absurd e3 (by decide)
  have kp : ∀ b, b < w'.heap.size → (∀ q, v2.ownBlock = some q → b ≠ q) → w2.heap[b]? = w'.heap[b]? := fun b hl hq => hg.block b hl fun e => hq b e.symm rfl
  have hS' : ∀ q, S' q → ∀ q2, v2.ownBlock = some q2 → q ≠ q2 := fun q hq q2 h2 e => by have := hge q hq; have := (h.o2.lt q2 h2).2; omega
  have a1 : ∀ b, S b → w2.heap[b]? = w'.heap[b]? := fun b hb' => kp b (h'.a.lt b hb') fun q hq e => (h.n2 q hq).1 (e ▸ hb')
  have a2 : ∀ b, S2 b → w2.heap[b]? = w'.heap[b]? := fun b hb' => kp b (h'.b.lt b hb') fun q hq e => (h.n2 q hq).2.1 (e ▸ hb')
  have a3 : ∀ b, V b → w2.heap[b]? = w'.heap[b]? := fun b hb' => kp b (h'.vd b hb').2.2 fun q hq e => (h.n2 q hq).2.2 (e ▸ hb')
  have hlt : ∀ q, S' q → q < w2.heap.size := fun q hq => Nat.lt_of_lt_of_le (hv.lt q hq) hg.size
  have hlV : ∀ q, V q → q < w2.heap.size := fun q hq => Nat.lt_of_lt_of_le (h'.vd q hq).2.2 hg.size
  have up : ∀ {g0 : Nat} {x : St} {T T' : Nat → Prop}, RAt T w' g0 x → (∀ b, T b → w2.heap[b]? = w'.heap[b]?) → (∀ q, T q → T' q) → (∀ q, T' q → q < w2.heap.size) → RAt T' w2 g0 x := fun ⟨A0, c0, hv⟩ hk hT hl => by
    have h2 := hv.keep hk hg.size
    exact ⟨A0, c0, h2.blk, h2.rd.more fun b hb _ => ⟨hT _ hb.1, hb.2⟩, h2.frm, hT _ h2.inS, hl, h2.ok⟩
  have hor : ∀ q, V q ∨ S' q → q < w2.heap.size := fun q hq => hq.elim (hlV q) (hlt q)
  have hown : ∀ q, (Value.slice A' n c').ownBlock = some q → v2.ownBlock = some q ∨ w'.heap.size ≤ q := fun q hq => by
    rcases hat with e | ⟨q2, e, h2⟩
    · exact .inl (e ▸ hq)
    · rw [e] at hq; injection hq with hq; exact .inr (hq ▸ h2)
  have hws := hb.size
  refine ⟨⟨?_, ?_, h.ge, h.dis, fun x hx => ?_, fun x hx => ?_, fun j hj => ⟨?_, ?_, hor j hj⟩, own_keepS h'.o1 fun q hq => hg.block q (h'.o1.lt q hq).2 (hne q hq), ?_, fun q hq => ⟨(h.n1 q hq).1, (h.n1 q hq).2.1, fun e => ?_⟩, fun q hq => ?_, fun q h1 h2 => ⟨(h.far q h1 h2).1, (h.far q h1 h2).2.1, fun e => ?_, (h.far q h1 h2).2.2.2.1, fun e => ?_⟩, Nat.le_trans h'.hi_ hg.size⟩, fun q h1 h2 => ?_⟩
  · obtain ⟨_, _, _, _, hp⟩ := h'.a
    exact ⟨_, _, _, _, hp.keep a1 hg.size⟩
  · obtain ⟨_, _, hp⟩ := h'.b
    exact ⟨_, _, hp.keep a2 hg.size⟩
  · obtain ⟨vb, hp⟩ := (h'.va x hx).1
    have h2 := hp.keep a3 hg.size
    exact ⟨⟨vb, h2.blk, h2.vals, ⟨.inl h2.inS.1, .inl h2.inS.2⟩, hor⟩, (h.va x hx).2⟩
  · rcases List.mem_append.1 hx with hx | hx
    · exact up (h'.vb x hx) a3 (fun _ => .inl) hor
    · rw [List.mem_singleton.1 hx]
      exact up hv (fun b hb' => kp b (hv.lt b hb') (hS' b hb')) (fun _ => .inr) hor
  · rcases hj with hj | hj
    · exact (h.vd j hj).1
    · exact fun e => by have := h.a.lt j e; have := hge j hj; omega
  · rcases hj with hj | hj
    · exact (h.vd j hj).2.1
    · exact fun e => by have := h.b.lt j e; have := hge j hj; omega
  · rw [List.length_append, List.length_singleton, ← hn]
    unfold ptrs at ho ⊢
    rw [List.map_append]
    exact ho
  · exact e.elim (h.n1 q hq).2.2 fun e3 => by have := hge q e3; have := (h.o1.lt q hq).2; omega
  · rcases hown q hq with e | e
    · exact ⟨(h.n2 q e).1, (h.n2 q e).2.1, fun e2 => e2.elim (h.n2 q e).2.2 fun e3 => hS' q e3 q e rfl⟩
    · exact ⟨fun e2 => by have := h'.a.lt q e2; omega, fun e2 => by have := h'.b.lt q e2; omega, fun e2 => e2.elim (fun e3 => by have := (h'.vd q e3).2.2; omega) fun e3 => by have := hv.lt q e3; omega⟩
  · exact e.elim (h.far q h1 h2).2.2.1 fun e3 => by have := hge q e3; have := h.hi_; omega
  · rcases hown q e with e2 | e2
    · exact (h.far q h1 h2).2.2.2.2 e2
    · have := h.hi_; omega
  · exact (hg.block q (by have := h.hi_; omega) fun e => (h.far q h1 h2).2.2.2.2 e.symm).trans (hb.block q (by have := h.hi_; omega))
/-- what lies between lo and hi is written over -/
theorem PIn1.spoil {M : Nat → Prop} (h : PIn1 B w S S2 V g r s t As Bs v1 v2 lo hi) (hu : Upd M w w') (hM : ∀ q, M q → lo ≤ q ∧ q < hi) : PIn1 B w' S S2 V g r s t As Bs v1 v2 lo hi := by
  have f1 : ∀ q, S q → ¬ M q := fun q hq e => (h.far q (hM q e).1 (hM q e).2).1 hq
  have f2 : ∀ q, S2 q → ¬ M q := fun q hq e => (h.far q (hM q e).1 (hM q e).2).2.1 hq
  have f3 : ∀ q, V q → ¬ M q := fun q hq e => (h.far q (hM q e).1 (hM q e).2).2.2.1 hq
  exact ⟨h.a.upd hu f1, h.b.upd hu f2, h.ge, h.dis, fun x hx => ⟨(h.va x hx).1.upd hu f3, (h.va x hx).2⟩, fun x hx => (h.vb x hx).upd hu f3, fun j hj => ⟨(h.vd j hj).1, (h.vd j hj).2.1, Nat.lt_of_lt_of_le (h.vd j hj).2.2 hu.size⟩, own_keepS h.o1 fun q hq => hu.block q (h.o1.lt q hq).2 fun e => (h.far q (hM q e).1 (hM q e).2).2.2.2.1 hq, own_keepS h.o2 fun q hq => hu.block q (h.o2.lt q hq).2 fun e => (h.far q (hM q e).1 (hM q e).2).2.2.2.2 hq, h.n1, h.n2, h.far, Nat.le_trans h.hi_ hu.size⟩
/-- another range: what is new -/
theorem PIn1.range (h : PIn1 B w S S2 V g r s t As Bs v1 v2 lo hi) (hb : Below w.heap.size w w') : PIn1 B w' S S2 V g r s t As Bs v1 v2 w.heap.size w'.heap.size := by
  have h2 := h.below hb
  exact ⟨h2.a, h2.b, h2.ge, h2.dis, h2.va, h2.vb, h2.vd, h2.o1, h2.o2, h2.n1, h2.n2, fun q h1 _ => ⟨fun e => by have := h.a.lt q e; omega, fun e => by have := h.b.lt q e; omega, fun e => by have := (h.vd q e).2.2; omega, fun e => by have := (h.o1.lt q e).2; omega, fun e => by have := (h.o2.lt q e).2; omega⟩, Nat.le_refl _⟩
theorem PRel.below (h : PRel B w g r s v1 v2 lo hi m) (hb : Below w.heap.size w w') : PRel B w' g r s v1 v2 lo hi m := by obtain ⟨_, _, _, _, _, h, e⟩ := h; exact ⟨_, _, _, _, _, h.below hb, e⟩
theorem PRel.range (h : PRel B w g r s v1 v2 lo hi m) (hb : Below w.heap.size w w') : PRel B w' g r s v1 v2 w.heap.size w'.heap.size m := by obtain ⟨_, _, _, _, _, h, e⟩ := h; exact ⟨_, _, _, _, _, h.range hb, e⟩
theorem PRel.spoil {M : Nat → Prop} (h : PRel B w g r s v1 v2 lo hi m) (hu : Upd M w w') (hM : ∀ q, M q → lo ≤ q ∧ q < hi) : PRel B w' g r s v1 v2 lo hi m := by obtain ⟨_, _, _, _, _, h, e⟩ := h; exact ⟨_, _, _, _, _, h.spoil hu hM, e⟩
end
end Go.Proofs.YtphglnenafdkaaaGreatDoor

