/- The document's store: Apply. -/
import Derived.Test.YtnbbdjbjbjlcpaaSRAt
import Derived.Test.YtnbbdjbjbjlcpaaSDump
import Derived.Test.YtnbbdjbjbjlcpaaSApply
namespace Go.Proofs.Ytnbbdjbjbjlcpaa
open Go.RowKit
set_option linter.unusedVariables false
set_option linter.unusedSimpArgs false

theorem up_set {k : ByteArray} {v : Vl} : ∀ {L : List Kv}, Asc L → hasK k L = true → upK k v L = L.set (posK k L) (k, v) := by
  intro L
  induction L with
  | nil => intro _ h; cases h
  | cons x l ih =>
    intro h hk
    have h' := List.pairwise_cons.1 h
    rw [hasK_cons] at hk
    show (if x.1 = k then (k, v) else x) :: upK k v l = _
    by_cases h1 : ltB x.1 k = true
    · have hne := ltB_ne h1
      simp [hne] at hk
      rw [pos_t h1, if_neg hne, ih h'.2 hk]; rfl
    · have hx : x.1 = k := by
        rcases hasK_asc h (by simpa using h1) with e | e
        · exact e
        · rw [hasK_cons] at e; rw [e] at hk; cases hk
      rw [pos_f h1, pos_z h'.1 h1, if_pos hx]
      have : upK k v l = l := by
        unfold upK
        have e : ∀ y ∈ l, (if y.1 = k then (k, v) else y) = y := fun y hy => if_neg fun e => by
          have := h'.1 y hy
          rw [hx, e, ltB_irrefl] at this; cases this
        rw [List.map_congr_left e]; simp
      rw [this]; rfl
theorem kv_get {L : List Kv} {j : Nat} (hj : j < L.length * 4) : (kvCells L)[j]? = some ((encI (L[j / 4]'(by omega)))[j % 4]'(by simp [encI]; omega)) := by
  obtain ⟨h1, h2, h3, h4⟩ := kvCells_at (L := L) (i := j / 4) (x := L[j / 4]'(by omega)) (by simp [show j / 4 < L.length by omega])
  have hr : j % 4 < 4 := Nat.mod_lt _ (by decide)
  have hj4 : j = j / 4 * 4 + j % 4 := by omega
  have hc : j % 4 = 0 ∨ j % 4 = 1 ∨ j % 4 = 2 ∨ j % 4 = 3 := by omega
  rcases hc with e | e | e | e
  · rw [show j / 4 * 4 = j by omega] at h1; simpa [encI, e] using h1
  · rw [show j / 4 * 4 + 1 = j by omega] at h2; simpa [encI, e] using h2
  · rw [show j / 4 * 4 + 2 = j by omega] at h3; simpa [encI, e] using h3
  · rw [show j / 4 * 4 + 3 = j by omega] at h4; simpa [encI, e] using h4
theorem own_kv_set {w : World} {base g n cap : Nat} {L : List Kv} (h : w.ownsRow base 39 4 (.slice (some ⟨g, 0, none⟩) n cap) n (kvCells L)) (hn : n = L.length) {p : Nat} (hp : p < n) {k : ByteArray} (hk : (L[p]'(by omega)).1 = k) (v : Vl) :
    (((w.setCell ⟨g, p * 4 + 1, none⟩ (.int .i64 v.k)).setCell ⟨g, p * 4 + 2, none⟩ (.int .i64 v.n)).setCell ⟨g, p * 4 + 3, none⟩ (.string v.s)).ownsRow base 39 4 (.slice (some ⟨g, 0, none⟩) n cap) n (kvCells (L.set p (k, v))) := by
  rcases h.2 with ⟨_, h0⟩ | ⟨g', cap', cur, hv, hgb, hgh, hgn, hgm, hgs, hgt⟩
  · omega
  injection hv with e1 e2 e3
  injection e1 with e1; injection e1 with e1 _ _
  subst e1; subst e3
  have hb : Blk w g 39 cur := hgh
  refine ⟨by rw [kvCells_len, List.length_set, hn], .inr ⟨g, cap, _, rfl, hgb, ((hb.set_ (p * 4 + 1) (.int .i64 v.k)).set_ (p * 4 + 2) (.int .i64 v.n)).set_ (p * 4 + 3) (.string v.s), hgn, hgm, by simp [hgs], ?_⟩⟩
  apply List.ext_getElem?
  intro j
  by_cases hj : j < n * 4
  · rw [List.getElem?_take_of_lt hj, Array.getElem?_toList, kv_get (by rw [List.length_set, ← hn]; exact hj)]
    have hold : cur[j]? = (kvCells L)[j]? := by rw [← hgt, List.getElem?_take_of_lt hj, Array.getElem?_toList]
    rw [kv_get (by rw [← hn]; exact hj)] at hold
    have hjs : j < cur.size := by omega
    by_cases hq : j / 4 = p
    · subst hq
      simp only [List.getElem_set_self]
      have hc : j % 4 = 0 ∨ j % 4 = 1 ∨ j % 4 = 2 ∨ j % 4 = 3 := by omega
      rcases hc with e | e | e | e
      · rw [Array.getElem?_setIfInBounds_ne (by omega), Array.getElem?_setIfInBounds_ne (by omega), Array.getElem?_setIfInBounds_ne (by omega), hold]
        simp [encI, e, hk]
      · rw [Array.getElem?_setIfInBounds_ne (by omega), Array.getElem?_setIfInBounds_ne (by omega), show j / 4 * 4 + 1 = j by omega, Array.getElem?_setIfInBounds_self_of_lt hjs]
        simp [encI, e]
      · rw [Array.getElem?_setIfInBounds_ne (by omega), show j / 4 * 4 + 2 = j by omega, Array.getElem?_setIfInBounds_self_of_lt (by simpa using hjs)]
        simp [encI, e]
      · rw [show j / 4 * 4 + 3 = j by omega, Array.getElem?_setIfInBounds_self_of_lt (by simpa using hjs)]
        simp [encI, e]
    · rw [Array.getElem?_setIfInBounds_ne (by omega), Array.getElem?_setIfInBounds_ne (by omega), Array.getElem?_setIfInBounds_ne (by omega), hold]
      simp only [List.getElem_set_ne (Ne.symm hq)]
  · rw [List.getElem?_take_eq_none (by omega), List.getElem?_eq_none (by rw [kvCells_len, List.length_set]; omega)]
section
variable {S : Nat → Prop} {w w' : World} {r : Nat} {s : St}
set_option maxRecDepth 100000 in
set_option maxHeartbeats 4000000 in
theorem rapply_any {Sk : Nat → Prop} {A : Option Addr} {c : Nat} (ws : List Wr) (h : RAt S w r s) (hr : Rd Sk w 5 A ws.length (wrCells ws)) (hs : ∀ x ∈ ws, x.key.size ≤ 9223372036854775806 ∧ x.v.s.size ≤ 9223372036854775806) (hd : ∀ b, Sk b → b < w.heap.size ∧ b ≠ r) (hn : ws.length ≤ 1000000) :
    Calls Try.prog 16 #[.pointer (some ⟨r, 0, none⟩), .slice A ws.length c] w fun e w' => e = .returned (.int .i64 (applyE s ws)) ∧ RGo S w r (applyS s ws) w' := by
  have HH := hid h
  have HR := hid hr
  have HS := hid hs
  have hgd := guardVal
  have hN : (ws.length : Int) ≤ 1000000 := by omega
  have hgo : Hid (∀ w', Below w.heap.size w w' → ∀ e, applyE s ws = e → e ≠ 0 → RGo S w r (applyS s ws) w') := hid fun w' hb e he hne => ⟨S, by rw [applyS_no (by rw [he]; exact hne)]; exact HH.out.below hb, fun j hj => .inl hj, .of_below hb fun k hk h => by omega⟩
  clear h hr hs hn
  go_enter Try.func16, Try.ntmps16
  go_wp2_with fail
  go_loopw [5] (fun v wr => ∃ (k : Nat), v = .int .i64 k ∧ k ≤ ws.length ∧ Below w.heap.size w wr ∧ ∀ j, j < k → wrE s ws j = 0) (fun v _ => ws.length - (intOf v).toNat)
  case atStart => exact ⟨0, rfl, Nat.zero_le _, Below.refl _ _, fun j h => by omega⟩
  case round =>
    obtain ⟨k, rfl, hk, hB0, ha0⟩ := hrel
    have hB := hid hB0
    have ha := hid ha0
    clear hB0 ha0
    by_cases hlt : k < ws.length
    · have i1 : (k : Int) < (ws.length : Int) := by omega
      obtain ⟨b, o, rfl, _, hbl, c0, c1, c2, c3, c4⟩ := rd_wr (HR.out.below_all hB.out) hlt
      obtain ⟨hks, hvs⟩ := HS.out _ (List.getElem_mem hlt)
      obtain ⟨x, hx⟩ : ∃ x, x = ws[k] := ⟨_, rfl⟩
      rw [← hx] at c0 c1 c2 c3 c4 hks hvs
      obtain ⟨y, hy⟩ : ∃ y, ws.getD (k - 1) wr0 = y := ⟨_, rfl⟩
      have hxe : Hid (ws.getD k wr0 = x) := hid (by rw [hx]; simp [List.getD_eq_getElem?_getD, hlt])
      have hye := hid hy
      have hE := hid (wrE_at (s := s) hxe.out hy)
      clear hx hy
      go_upto_region 5 with fail
      have kB0 := Blk.new wr 43 #[.string x.key, .bool x.gone, .int .i64 x.v.k, .int .i64 x.v.n, .string x.v.s]
      have hB2 : Below wr.heap.size wr (wr.alloc (.cells #[.string x.key, .bool x.gone, .int .i64 x.v.k, .int .i64 x.v.n, .string x.v.s] 43)) := (Below.refl _ _).alloc (Nat.le_refl _) _
      have HB2 := hid (hB.out.trans (hB2.mono hB.out.size))
      generalize wr.alloc (.cells #[.string x.key, .bool x.gone, .int .i64 x.v.k, .int .i64 x.v.n, .string x.v.s] 43) = w2 at *
      have KB := hid kB0
      have Bc := hid hbl
      generalize wr.heap.size = m at *
      clear kB0 hB2 c0 c1 c2 c3 c4 hbl hB
      have x0 : w2.cell? ⟨m, 0, none⟩ = some (.string x.key) := KB.out.cell 0
      have hvk := hid (rvalidk_any x.key w2 hks)
      go_wp2_with fail
      refine hvk.out.mono ?_
      rintro e w3 ⟨rfl, rfl⟩
      clear hvk
      cases hv0 : validK x.key with
      | false =>
        have hfin : Hid (applyE s ws = 30) := hid (applyE_first (by decide) (fun j hj => ha.out j hj) (by rw [hE.out, if_pos hv0]) hlt)
        clear hv0 hE
        go_wp2_with fail
        go_ret
        exact ⟨by rw [hfin.out]; rfl, hgo.out _ (HB2.out) _ hfin.out (by decide)⟩
      | true =>
      have hv := hid hv0
      clear hv0
      have x0 : w3.cell? ⟨m, 0, none⟩ = some (.string x.key) := KB.out.cell 0
      go_upto_region 7 with fail
      by_cases hbad : 0 < k ∧ ltB y.key x.key = false
      · obtain ⟨hk0, hl0⟩ := hbad
        have hfin : Hid (applyE s ws = 40) := hid (applyE_first (by decide) (fun j hj => ha.out j hj) (by rw [hE.out, if_neg (by simp [hv.out]), if_pos ⟨hk0, hl0⟩]) hlt)
        obtain ⟨j, hjk⟩ : ∃ j, j + 1 = k := ⟨k - 1, by omega⟩
        have hj : j < ws.length := by omega
        obtain ⟨b', o', e, _, _, d0, _⟩ := rd_wr (HR.out.below_all HB2.out) hj
        injection e with e; injection e with e1 e2; subst e1; subst e2
        have hyj : ws[j] = y := by
          have := hye.out
          rw [show k - 1 = j by omega] at this
          rw [← this]; simp [List.getD_eq_getElem?_getD, hj]
        rw [hyj] at d0
        have i0 : (j : Int) < (ws.length : Int) := by omega
        have t1 : decide ((0 : Int) < (k : Int)) = true := decide_eq_true (by omega)
        have t1n : decide (0 < k) = true := decide_eq_true hk0
        have x1 : IntKind.i64.wrap ((k : Int) - 1) = (j : Int) := by rw [IntKind.wrap_i64]; omega
        have hl : Op.bytesLess y.key.toList x.key.toList = false := hl0
        clear hl0 hk0 hjk hyj hE
        go_quiet (fail)
        go_wp2_with fail
        go_ret
        exact ⟨by rw [hfin.out]; rfl, hgo.out _ (below_drewN HB2.out _) _ hfin.out (by decide)⟩
      have hnr := hid hbad
      clear hbad
      go_cut [25] (fun v wx => v = .bool false ∧ ∃ q, wx = w3.drewN q)
      case first =>
        by_cases hk0 : 0 < k
        · obtain ⟨j, hjk⟩ : ∃ j, j + 1 = k := ⟨k - 1, by omega⟩
          have hj : j < ws.length := by omega
          obtain ⟨b', o', e, _, _, d0, _⟩ := rd_wr (HR.out.below_all HB2.out) hj
          injection e with e; injection e with e1 e2; subst e1; subst e2
          have hyj : ws[j] = y := by
            have := hye.out
            rw [show k - 1 = j by omega] at this
            rw [← this]; simp [List.getD_eq_getElem?_getD, hj]
          rw [hyj] at d0
          have i0 : (j : Int) < (ws.length : Int) := by omega
          have t1 : decide ((0 : Int) < (k : Int)) = true := decide_eq_true (by omega)
          have t1n : decide (0 < k) = true := decide_eq_true hk0
          have x1 : IntKind.i64.wrap ((k : Int) - 1) = (j : Int) := by rw [IntKind.wrap_i64]; omega
          have hl : Op.bytesLess y.key.toList x.key.toList = true := by
            have := hnr.out
            cases h : ltB y.key x.key with
            | true => exact h
            | false => exact absurd ⟨hk0, h⟩ this
          clear hk0 hjk hyj hE hnr
          go_quiet (fail)
          go_wp2_with fail
          go_meet
          exact ⟨rfl, _, rfl⟩
        · have t1 : decide ((0 : Int) < (k : Int)) = false := decide_eq_false (by omega)
          have t1n : decide (0 < k) = false := decide_eq_false hk0
          clear hk0 hE hnr
          go_quiet (fail)
          go_wp2_with fail
          go_meet
          exact ⟨rfl, _, rfl⟩
      case rest =>
        obtain ⟨rfl, q, hq⟩ := hcut
        have KB3 : Hid (Blk wc m 43 #[.string x.key, .bool x.gone, .int .i64 x.v.k, .int .i64 x.v.n, .string x.v.s]) := hid (by rw [hq]; exact KB.out)
        have HB3 : Hid (Below w.heap.size w wc) := hid (by rw [hq]; exact below_drewN HB2.out q)
        clear hq x0 KB HB2
        have x0 : wc.cell? ⟨m, 0, none⟩ = some (.string x.key) := KB3.out.cell 0
        have hcl := hid (rclaimed_any x.key (HH.out.below HB3.out))
        go_wp2_with fail
        refine hcl.out.mono ?_
        rintro e w4 ⟨rfl, hb40⟩
        have KB4 := hid (KB3.out.below_all hb40)
        have HB4 := hid (HB3.out.trans (hb40.mono HB3.out.size))
        clear hb40 hcl x0 KB3 HB3
        cases hc0 : hasK x.key s.L with
        | false =>
          have hfin : Hid (applyE s ws = 41) := hid (applyE_first (by decide) (fun j hj => ha.out j hj) (by rw [hE.out, if_neg (by simp [hv.out]), if_neg hnr.out, if_pos hc0]) hlt)
          clear hE hc0
          go_wp2_with fail
          go_ret
          exact ⟨by rw [hfin.out]; rfl, hgo.out _ (HB4.out) _ hfin.out (by decide)⟩
        | true =>
        have hc := hid hc0
        clear hc0
        have x2 : w4.cell? ⟨m, 2, none⟩ = some (.int .i64 x.v.k) := KB4.out.cell 2
        have x3 : w4.cell? ⟨m, 3, none⟩ = some (.int .i64 x.v.n) := KB4.out.cell 3
        have x4 : w4.cell? ⟨m, 4, none⟩ = some (.string x.v.s) := KB4.out.cell 4
        have hva := hid (rvalid_any x.v w4 hvs)
        go_wp2_with fail
        refine hva.out.mono ?_
        rintro e w5 ⟨rfl, hb50⟩
        have KB5 := hid (KB4.out.below_all hb50)
        have HB5 := hid (HB4.out.trans (hb50.mono HB4.out.size))
        clear hb50 hva x2 x3 x4 KB4 HB4
        cases ho0 : x.v.ok with
        | false =>
          have hfin : Hid (applyE s ws = 20) := hid (applyE_first (by decide) (fun j hj => ha.out j hj) (by rw [hE.out, if_neg (by simp [hv.out]), if_neg hnr.out, if_neg (by simp [hc.out]), if_pos ho0]) hlt)
          clear hE ho0
          go_wp2_with fail
          go_ret
          exact ⟨by rw [hfin.out]; rfl, hgo.out _ (HB5.out) _ hfin.out (by decide)⟩
        | true =>
        have ho := hid ho0
        clear ho0
        have x1 : w5.cell? ⟨m, 1, none⟩ = some (.bool x.gone) := KB5.out.cell 1
        have x2 : w5.cell? ⟨m, 2, none⟩ = some (.int .i64 x.v.k) := KB5.out.cell 2
        have x3 : w5.cell? ⟨m, 3, none⟩ = some (.int .i64 x.v.n) := KB5.out.cell 3
        have x4 : w5.cell? ⟨m, 4, none⟩ = some (.string x.v.s) := KB5.out.cell 4
        have hnz0 : ∀ w', (binOp .neq 37 (.agg #[.int .i64 x.v.k, .int .i64 x.v.n, .string x.v.s]) (.agg #[.int .i64 0, .int .i64 0, .string ⟨#[]⟩])).run Try.prog w' = .ok (.bool (!decide (x.v = vl0))) w' := fun w' => by
          rw [run_neq_struct, show (⟨#[]⟩ : ByteArray) = vl0.s from rfl, show (Value.int .i64 0) = .int .i64 vl0.k from rfl]
          have := run_eqVal x.v vl0 w'
          rw [show (.int .i64 vl0.k : Value) = .int .i64 vl0.n from rfl] at this ⊢
          rw [this]; rfl
        cases hg0 : x.gone with
        | false =>
          have hz : Hid (wrE s ws k = 0) := hid (by rw [hE.out, if_neg (by simp [hv.out]), if_neg hnr.out, if_neg (by simp [hc.out]), if_neg (by simp [ho.out]), if_neg (by simp [hg0])])
          rw [hg0] at x1
          clear hE hnz0 hg0
          go_wp2_with fail
          go_roundw
          case rel => exact ⟨k + 1, by go_num, hlt, HB5.out, fun j hj => by
            by_cases e : j = k
            · subst e; exact hz.out
            · exact ha.out j (by omega)⟩
          case measure => simp [intOf]; omega
        | true =>
          rw [hg0] at x1
          cases hz0 : decide (x.v = vl0) with
          | true =>
            have hz : Hid (wrE s ws k = 0) := hid (by rw [hE.out, if_neg (by simp [hv.out]), if_neg hnr.out, if_neg (by simp [hc.out]), if_neg (by simp [ho.out]), if_neg (by simp [of_decide_eq_true hz0])])
            have hnz := hnz0
            rw [hz0] at hnz
            clear hE hnz0 hg0 hz0
            go_wp2_with fail
            go_roundw
            case rel => exact ⟨k + 1, by go_num, hlt, HB5.out, fun j hj => by
              by_cases e : j = k
              · subst e; exact hz.out
              · exact ha.out j (by omega)⟩
            case measure => simp [intOf]; omega
          | false =>
            have hfin : Hid (applyE s ws = 2) := hid (applyE_first (by decide) (fun j hj => ha.out j hj) (by rw [hE.out, if_neg (by simp [hv.out]), if_neg hnr.out, if_neg (by simp [hc.out]), if_neg (by simp [ho.out]), if_pos ⟨hg0, of_decide_eq_false hz0⟩]) hlt)
            have hnz := hnz0
            rw [hz0] at hnz
            clear hE hnz0 hg0 hz0
            go_wp2_with fail
            go_ret
            exact ⟨by rw [hfin.out]; rfl, hgo.out _ (HB5.out) _ hfin.out (by decide)⟩
    · obtain rfl : k = ws.length := by omega
      have he := hid (applyE_zero (s := s) fun j hj => ha.out j hj)
      have hP0 := HH.out.below hB.out
      obtain ⟨B, d, hP⟩ := hP0
      have d2 : wr.cell? ⟨r, 2, none⟩ = some (.slice B s.L.length d) := hP.cells.2.2
      obtain ⟨ip, hip, hp0, hp1, hp2⟩ := info_parts info_item
      have hl9 := hP.ok.len
      have hrl := hP.blk.lt
      have qr := hP.blk.frozen
      have kb := hid hP.blk
      have hrd := hid hP.rd
      have hok := hid hP.ok
      have HR3 := hid (HR.out.below_all hB.out)
      have HB := hid hB.out
      have hb0 : Below wr.heap.size wr (wr.alloc (.cells #[] 39)) := (Below.refl _ _).alloc (Nat.le_refl _) _
      have hwl := hid hB.out.size
      have hsl := hid HH.out.lt
      have hInS := hid (show S r by obtain ⟨_, _, h⟩ := HH.out; exact h.inS)
      obtain ⟨n, hn⟩ : ∃ n, n = s.L.length := ⟨_, rfl⟩
      rw [← hn] at d2 hrd hl9 kb
      have hnn := hid hn
      clear hP ha hlt hk hB hn HH HR hgo
      go_wp2_with (
        at_builtin
        refine wpList_copy_rd wr rfl (.tmp 60) (.tmp 64) 31 rfl 39 ip _ 4 48 Try.underlying31 hip hp0 hp1 hp2 rfl (by omega) wr.heap.size rfl rfl _ B n d (kvCells s.L) rfl hrd.out (kvCells_one _) (by simp only [maxLen]; omega) (by omega) ?_
        intro A' c' w4 hown4 hb4
        have kb4 := hid (kb.out.below_all hb4)
        have r2 : w4.cell? ⟨r, 2, none⟩ = some (.slice B n d) := kb4.out.cell 2
        have q2 := kb4.out.frozen 2
        have HB4 := hid hb4
        have HO4 := hid hown4
        clear hown4 hb4)
      have h50 : Hid (Upd (fun j => j = r) w (w4.setCell ⟨r, 2, none⟩ (.slice A' n c'))) := hid (((Upd.of_below (M := fun j => j = r) HB.out fun k hk h => by omega).trans (Upd.of_below (M := fun j => j = r) HB4.out fun k hk h => by omega) fun _ _ h => h).setCell (p := ⟨r, 2, none⟩) (fun _ => rfl) _)
      have h51 : Hid (Blk (w4.setCell ⟨r, 2, none⟩ (.slice A' n c')) r 63 #[.int .i64 s.parts, .int .i64 s.room, .slice A' n c']) := hid (kb4.out.set_ 2 _)
      have h52 : Hid ((w4.setCell ⟨r, 2, none⟩ (.slice A' n c')).ownsRow wr.heap.size 39 4 (.slice A' n c') n (kvCells s.L)) := hid (own_updB HO4.out ((Upd.refl (fun j => j = r) w4).setCell (p := ⟨r, 2, none⟩) (fun _ => rfl) _) fun q hq _ e => by omega)
      have h53 : Hid (Rd Sk (w4.setCell ⟨r, 2, none⟩ (.slice A' n c')) 5 A ws.length (wrCells ws)) := hid ((HR3.out.below_all HB4.out).keep fun b hb _ => Below.heap_setCell _ _ _ _ (by have := (hd b hb).2; simp only; omega))
      generalize w4.setCell ⟨r, 2, none⟩ (.slice A' n c') = w5 at *
      obtain ⟨B0, hB0⟩ : ∃ B0, B0 = wr.heap.size := ⟨_, rfl⟩
      rw [← hB0] at h52 hwl hrl
      have hrl := hid hrl
      clear d2 kb hrd HR3 HB hb0 HB4 HO4 kb4 hl9 qr hB0
      go_wp2_with fail
      go_loopw [7] (fun v wr => ∃ (k : Nat) (M : List Kv), v = .int .i64 k ∧ k ≤ ws.length ∧ M = upAll s.L (ws.take k) ∧ St.Ok { s with L := M } ∧ Upd (fun j => j = r) w wr ∧ Blk wr r 63 #[.int .i64 s.parts, .int .i64 s.room, .slice A' n c'] ∧ wr.ownsRow B0 39 4 (.slice A' n c') n (kvCells M) ∧ Rd Sk wr 5 A ws.length (wrCells ws)) (fun v _ => ws.length - (intOf v).toNat)
      case atStart => exact ⟨0, _, rfl, Nat.zero_le _, rfl, hok.out, h50.out, h51.out, h52.out, h53.out⟩
      case round =>
        clear h50 h51 h52 h53
        obtain ⟨k, M, rfl, hk, hM0, hok0, hu0, hb0, ho0, hr0⟩ := hrel
        have hM := hid hM0
        have hok1 := hid hok0
        have HU := hid hu0
        have HK := hid hb0
        have HO := hid ho0
        have HR := hid hr0
        clear hM0 hok0 hu0 hb0 ho0 hr0
        have hMl : Hid (M.length = n) := hid (by
          have := congrArg List.length (upAll_keys (ws := ws.take k) (L := s.L))
          rw [← hM.out] at this
          simp at this
          rw [this, hnn.out])
        have hRA : Hid (RAt (fun j => j = r ∨ (B0 ≤ j ∧ j < wr.heap.size)) wr r { s with L := M }) := hid (by
          obtain ⟨A2, c2, he2, h1, h2⟩ := own_form HO.out
          injection he2 with e1 e2 e3
          subst e1; subst e3
          refine ⟨A', c', ?_, ?_, ?_, .inl rfl, fun j hj => ?_, hok1.out⟩
          · show Blk _ _ _ #[_, _, .slice A' M.length c']
            rw [hMl.out]; exact HK.out
          · show Rd _ _ 4 A' M.length (kvCells M)
            rw [hMl.out]
            exact (Rd.of_own' HO.out).more fun b hb hl => ⟨.inr ⟨hb, hl⟩, by have := hrl.out; omega⟩
          · show (A' = none ∧ M.length = 0 ∧ c' = 0) ∨ ((∃ b o, A' = some ⟨b, o, none⟩) ∧ M.length ≤ c' ∧ c' ≤ maxLen)
            rw [hMl.out]
            rcases HO.out.2 with ⟨hv, h0⟩ | ⟨g, cap, cur, hv, _⟩
            · injection hv with e1 e2 e3
              exact .inl ⟨e1, h0, e3⟩
            · injection hv with e1 e2 e3
              exact .inr ⟨⟨g, 0, e1⟩, h1, h2⟩
          · rcases hj with rfl | hj
            · exact HK.out.lt
            · exact hj.2)
        by_cases hlt : k < ws.length
        · have i1 : (k : Int) < (ws.length : Int) := by omega
          obtain ⟨b, o, hA0, hSb, hbl, c0, c1, c2, c3, c4⟩ := rd_wr HR.out hlt
          subst hA0
          have hz := hid (apply_zero he.out _ (List.getElem_mem hlt))
          have htk := hid (take_snoc hlt)
          obtain ⟨x, hx⟩ : ∃ x, x = ws[k] := ⟨_, rfl⟩
          have hcs := hid (show ∀ w', Below wr.heap.size wr w' → w'.cell? ⟨b, o + k * 5 + 2, none⟩ = some (.int .i64 x.v.k) ∧ w'.cell? ⟨b, o + k * 5 + 3, none⟩ = some (.int .i64 x.v.n) ∧ w'.cell? ⟨b, o + k * 5 + 4, none⟩ = some (.string x.v.s) from fun w' h => by
            rw [hx]; exact ⟨(h.cell (p := ⟨b, o + k * 5 + 2, none⟩) hbl).trans c2, (h.cell (p := ⟨b, o + k * 5 + 3, none⟩) hbl).trans c3, (h.cell (p := ⟨b, o + k * 5 + 4, none⟩) hbl).trans c4⟩)
          rw [← hx] at c0 hz htk
          have hat := hid (at_any x.key hRA.out)
          have hhk : hasK x.key M = true := by rw [hM.out, upAll_has]; exact hz.out.2.1
          have hpl : posK x.key M < n := by
            obtain ⟨y, h1, _⟩ := pos_get hok1.out.asc hhk
            rw [← hMl.out]; exact (List.getElem?_eq_some_iff.1 h1).1
          have hset := hid (up_set (v := x.v) hok1.out.asc hhk)
          have hpk : Hid ((M[posK x.key M]'(by rw [hMl.out]; exact hpl)).1 = x.key) := hid (by
            obtain ⟨y, h1, h2, _⟩ := pos_get hok1.out.asc hhk
            obtain ⟨h3, h4⟩ := List.getElem?_eq_some_iff.1 h1
            rw [h4]; exact h2)
          simp only at hat
          rw [hhk] at hat
          clear hx c1 c2 c3 c4 hbl hRA
          go_wp2_with fail
          refine hat.out.mono ?_
          rintro e w6 ⟨rfl, hb60⟩
          obtain ⟨c2, c3, c4⟩ := hcs.out _ hb60
          have HO6 := hid (own_below HO.out hb60)
          have HK6 := hid (HK.out.below_all hb60)
          have HR6 := hid (HR.out.below_all hb60)
          have HU6 : Hid (Upd (fun j => j = r) w w6) := hid (HU.out.trans (Upd.of_below (M := fun j => j = r) hb60 fun k hk h => by have := HK.out.lt; omega) fun _ _ h => h)
          clear hb60 hcs hat HO HK HR HU c0
          rcases HO6.out.2 with ⟨_, h0⟩ | ⟨g, cap, cur, hv, hgb, hgh, hgn, hgm, hgs, hgt⟩
          · omega
          injection hv with e1 e2 e3
          subst e1; subst e3
          have d2 : w6.cell? ⟨r, 2, none⟩ = some (.slice (some ⟨g, 0, none⟩) n c') := HK6.out.cell 2
          have kg : Blk w6 g 39 cur := hgh
          have hgl : g < w6.heap.size := kg.lt
          have fg := kg.frozen
          have hfin := hid (own_kv_set HO6.out hMl.out.symm hpl hpk.out x.v)
          have hgr : Hid (g ≠ r) := hid (by have := kg.ne_ HK6.out (by decide); exact this)
          have hgb2 := hid (show ¬ Sk g ∧ ¬ g < w.heap.size from ⟨fun h => by have := (hd g h).1; have := hwl.out; omega, by have := hwl.out; omega⟩)
          obtain ⟨p, hp⟩ : ∃ p, p = posK x.key M := ⟨_, rfl⟩
          rw [← hp] at hfin hset hpl
          simp only [← hp]
          have ip : (p : Int) < (n : Int) := by omega
          have hz1 : p * 4 + 3 < cur.size := by omega
          obtain ⟨u1, y1⟩ : ∃ u, w6.cell? ⟨g, p * 4 + 1, none⟩ = some u := ⟨cur[p * 4 + 1], by rw [kg.cell]; simp [show p * 4 + 1 < cur.size by omega]⟩
          obtain ⟨u2, y2⟩ : ∃ u, w6.cell? ⟨g, p * 4 + 2, none⟩ = some u := ⟨cur[p * 4 + 2], by rw [kg.cell]; simp [show p * 4 + 2 < cur.size by omega]⟩
          obtain ⟨u3, y3⟩ : ∃ u, w6.cell? ⟨g, p * 4 + 3, none⟩ = some u := ⟨cur[p * 4 + 3], by rw [kg.cell]; simp [show p * 4 + 3 < cur.size by omega]⟩
          have hoo := hid HO6
          have hpp := hid hp
          have hh9 := hid hgb
          have hlt9 := hid hlt
          clear hgh hgn hgm hgs hgt hz1 hpk hp kg hgb hpl hhk hlt hk
          go_wp2_with fail
          go_still_tail 12, (by kernel_rfl)
          change wpList _ _ _ _ _ w6.drew
          go_wp2_with fail
          have hM2 : M.set p (x.key, x.v) = upAll s.L (ws.take (k + 1)) := by rw [htk.out, upAll_snoc, ← hM.out]; exact hset.out.symm
          go_roundw
          case rel => exact ⟨k + 1, M.set p (x.key, x.v), by go_num, hlt9.out, hM2, by rw [← hset.out]; exact up_ok1 (s := { s with L := M }) hok1.out hz.out.1 hz.out.2.2, ((HU6.out.drew.setCell (p := ⟨g, p * 4 + 1, none⟩) (fun h => absurd h hgb2.out.2) _).setCell (p := ⟨g, p * 4 + 2, none⟩) (fun h => absurd h hgb2.out.2) _).setCell (p := ⟨g, p * 4 + 3, none⟩) (fun h => absurd h hgb2.out.2) _, (((HK6.out.drew).far (Ne.symm hgr.out) _).far (Ne.symm hgr.out) _).far (Ne.symm hgr.out) _, hfin.out, (((HR6.out.drew).setCell (p := ⟨g, p * 4 + 1, none⟩) hgb2.out.1 _).setCell (p := ⟨g, p * 4 + 2, none⟩) hgb2.out.1 _).setCell (p := ⟨g, p * 4 + 3, none⟩) hgb2.out.1 _⟩
          case measure => simp [intOf]; have := hlt9.out; omega
        · obtain rfl : k = ws.length := by omega
          have hfin : Hid (RGo S w r (applyS s ws) wr) := hid (by
            refine ⟨fun j => j = r ∨ (B0 ≤ j ∧ j < wr.heap.size), ?_, fun j hj => ?_, HU.out.mono fun j _ h => h ▸ hInS.out⟩
            · rw [applyS_yes he.out]
              have := hRA.out
              rw [hM.out, List.take_length] at this
              exact this
            · rcases hj with rfl | hj
              · exact .inl hInS.out
              · have := hwl.out; exact .inr (by omega))
          clear hRA HU HK HO HR
          go_wp2_with fail
          go_ret
          exact ⟨by rw [he.out]; rfl, hfin.out⟩
end
end Go.Proofs.Ytnbbdjbjbjlcpaa
