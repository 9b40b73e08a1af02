/- QuorumAgrees: the walk of the law. -/
import Derived.Test.YtbgopicpdpkccaaGTale
namespace Go.Proofs.Ytbgopicpdpkccaa
open Go.RowKit
set_option linter.unusedVariables false
set_option linter.unusedSimpArgs false

theorem info_strA : (Try.prog.info? 9).map (fun i => (i.zero, i.size, i.bytes)) = some (some (.string ⟨#[]⟩), 1, 16) := by kernel_rfl
/-- the texts that were proposed, in a row of their own -/
def PRow (w : World) (PA : Option Addr) (pc : Nat) (l : List ByteArray) : Prop := w.ownsRow 0 9 1 (.slice PA l.length pc) l.length (l.map .string)
theorem PRow.upd {M : Nat → Prop} {w w' : World} {PA : Option Addr} {pc : Nat} {l : List ByteArray} (h : PRow w PA pc l) (hu : Upd M w w') (hM : ∀ b, (Value.slice PA l.length pc).ownBlock = some b → ¬ M b) : PRow w' PA pc l := by
  refine ⟨h.1, ?_⟩
  rcases h.2 with hn | ⟨g, cap, cur, hv, hg, hh, rest⟩
  · exact .inl hn
  · refine .inr ⟨g, cap, cur, hv, hg, ?_, rest⟩
    have hl : g < w.heap.size := (Array.getElem?_eq_some_iff.1 hh).1
    exact (hu.block g hl (hM g (by rw [hv]; rfl))).trans hh
theorem PRow.lt {w : World} {PA : Option Addr} {pc : Nat} {l : List ByteArray} (h : PRow w PA pc l) {b : Nat} (hb : (Value.slice PA l.length pc).ownBlock = some b) : b < w.heap.size := (World.ownsRow.lt h b hb).2
theorem PRow.rd {w : World} {PA : Option Addr} {pc : Nat} {l : List ByteArray} (h : PRow w PA pc l) : Rd (fun b => b < w.heap.size) w 1 PA l.length (l.map .string) := (Rd.of_own h).more fun b hb hl => hl
set_option maxRecDepth 100000 in
set_option maxHeartbeats 4000000 in
theorem agrees_walk (n : Int) (A : Option Addr) (c : Nat) (us : List GA) (s : Int) (W : World) (ho : GActs W A us) (hl : us.length ≤ 1048576) (ht : txts us ≤ 1048576) : Calls Try.prog 6 #[.int .i64 n, .slice A us.length c, .int .i64 s] W fun e w' => e = .returned (.bool true) ∧ Below W.heap.size W w' := by
  have hlg := hid (long_any A c us W ho hl ht)
  have hll : Hid (us.length ≤ 1048576) := hid hl
  clear hl ht
  have hst : ∀ b : Bool, b = true ∨ ¬ (0 ≤ s ∧ s < 256) ∨ (b = false ∧ 0 ≤ s ∧ s < 256) := fun b => by cases b <;> by_cases h : 0 ≤ s ∧ s < 256 <;> simp [h]
  go_enter Try.func6, Try.ntmps6
  go_wp2_with fail
  refine hlg.out.mono ?_
  rintro e w1 ⟨⟨b, rfl, hb0⟩, rfl⟩
  have hb := hid hb0
  clear hb0
  rcases hst b with rfl | hs | ⟨rfl, hs1, hs2⟩
  · clear hst
    go_wp2_with fail
    go_ret
    exact ⟨rfl, Below.refl _ _⟩
  · clear hst
    cases b with
    | true =>
      go_wp2_with fail
      go_ret
      exact ⟨rfl, Below.refl _ _⟩
    | false =>
      by_cases h1 : s < 0
      · go_wp2_with fail
        go_ret
        exact ⟨rfl, Below.refl _ _⟩
      · have h2 : 256 ≤ s := by omega
        go_wp2_with fail
        go_ret
        exact ⟨rfl, Below.refl _ _⟩
  · clear hst
    have t1 : decide (s < 0) = false := decide_eq_false (by omega)
    have t2 : decide (256 ≤ s) = false := decide_eq_false (by omega)
    by_cases hn : n < 1 ∨ 9 < n
    · have hnew := hid (new_bad n w1 hn)
      go_wp2_with fail
      refine hnew.out.mono ?_
      rintro e w2 ⟨rfl, rfl⟩
      go_wp2_with (first
        | (go_at_call 10; refine (num_any _ _).mono ?_; rintro e w' ⟨rfl, rfl⟩)
        | (go_at_call 11; refine (live_any _).mono ?_; rintro e w3 ⟨rfl, hb3⟩))
      go_ret
      exact ⟨rfl, hb3⟩
    · obtain ⟨N, rfl⟩ : ∃ N : Nat, n = (N : Int) := ⟨n.toNat, by omega⟩
      have hN : 1 ≤ N ∧ N ≤ 9 := by omega
      have hN9 : Hid (N ≤ 9) := hid hN.2
      have hnew := hid (new_ok N w1 hN)
      obtain ⟨i0, hi0, hz0, hz1, hz2⟩ := info_parts info_strA
      go_wp2_with fail
      refine hnew.out.mono ?_
      rintro e w2 ⟨S, rfl, hG0, hS0, hB20⟩
      have hG := hid hG0
      have hS := hid hS0
      have hB2 := hid hB20
      clear hG0 hS0 hB20 hN
      go_wp2_with (go_at_call 10; refine (num_any _ _).mono ?_; rintro e w' ⟨rfl, rfl⟩)
      have hgN : Hid (Fit N 0 (grN N)) := hid (Fit.new N (Int.le_refl _))
      have hT0 : Hid (Tale s (grN N) [] false ⟨#[]⟩) := hid (Tale.new N s _)
      have HO := hid ho
      clear ho
      go_loopw [9, 10, 11, 12] (fun v9 v10 v11 v wr => ∃ (k : Nat) (S' : Nat → Prop) (G : Gr) (PA : Option Addr) (pc : Nat) (l : List ByteArray) (t : ByteArray) (kn : Bool), v = .int .i64 k ∧ v9 = .slice PA l.length pc ∧ v10 = .string t ∧ v11 = .bool kn ∧ k ≤ us.length ∧ l.length ≤ k ∧ GAt S' wr w1.heap.size G ∧ (∀ j, S' j → w1.heap.size ≤ j) ∧ PRow wr PA pc l ∧ (∀ b, (Value.slice PA l.length pc).ownBlock = some b → w1.heap.size ≤ b ∧ ¬ S' b) ∧ Fit N k G ∧ Tale s G l kn t ∧ Below w1.heap.size w1 wr) (fun _ _ _ v _ => us.length - (intOf v).toNat)
      case atStart =>
        exact ⟨0, S, grN N, none, 0, [], ⟨#[]⟩, false, rfl, rfl, rfl, rfl, Nat.zero_le _, Nat.le_refl _, hG.out, hS.out, World.ownsRow_nil _ _ _ _, fun b hb => (by cases hb), hgN.out, hT0.out, hB2.out⟩
      case round =>
        clear hG hS hB2 hgN hT0
        obtain ⟨k, S1, G, PA, pc, l, t, kn, rfl, rfl, rfl, rfl, hk, hlk0, q, hS10, pr0, hpb0, hf, htl0, hB0⟩ := hrel
        have hS1 := hid hS10
        have hlk := hid hlk0
        have PR := hid pr0
        have hpb := hid hpb0
        have TL := hid htl0
        have hB := hid hB0
        clear hS10 hlk0 pr0 hpb0 htl0 hB0
        by_cases hlt : k < us.length
        · have i1 : (k : Int) < (us.length : Int) := by omega
          have hoa := HO.out.below (w' := wr) hB.out
          obtain ⟨b, o, rfl, hbl, a0, a1, a2, a3⟩ := hoa.at_ hlt
          have hact := hid (act_any us[k] q hf hN9.out (by have := hb.out (by first | rfl | trivial); omega))
          have hF := hid hf
          have hbl0 := hid hbl
          have hAA := hid hoa
          clear hoa q hf
          go_upto_region 12 with fail
          go_cut [61] (fun v wx => ∃ (bq : Bool) (G2 : Gr) (S2 : Nat → Prop), v = .bool bq ∧ GAt S2 wx w1.heap.size G2 ∧ (∀ j, S2 j → w1.heap.size ≤ j) ∧ PRow wx PA pc l ∧ (∀ b, (Value.slice PA l.length pc).ownBlock = some b → w1.heap.size ≤ b ∧ ¬ S2 b) ∧ Fit N (k + 1 : Nat) G2 ∧ Tale s G2 (if bq = true then l ++ [us[k].text] else l) kn t ∧ Below w1.heap.size w1 wx)
          case first =>
            go_wp2_with fail
            refine hact.out.mono ?_
            rintro e w5 ⟨rfl, G2, hA20, S2, q20, hS20, hu20⟩
            have hB5 := hB.out.trans (hu20.below hB.out.size fun j hj h => by have := hS1.out j h; omega)
            have hfin : Hid (∃ (G2 : Gr) (S2 : Nat → Prop), GAt S2 w5 w1.heap.size G2 ∧ (∀ j, S2 j → w1.heap.size ≤ j) ∧ PRow w5 PA pc l ∧ (∀ b, (Value.slice PA l.length pc).ownBlock = some b → w1.heap.size ≤ b ∧ ¬ S2 b) ∧ Fit N (k + 1 : Nat) G2 ∧ Tale s G2 (if G.said us[k] = true ∧ us[k].slot = s then l ++ [us[k].text] else l) kn t ∧ Below w1.heap.size w1 w5) := hid (by
              refine ⟨G2, S2, q20, fun j hj => ?_, PR.out.upd hu20 fun b hb => (hpb.out b hb).2, fun b hb => ⟨(hpb.out b hb).1, fun h => ?_⟩, by have := hF.out.act (by omega) hA20; exact_mod_cast this, TL.out.act hF.out hA20, hB5⟩
              · rcases hS20 j hj with h | h
                · exact hS1.out j h
                · have := hB.out.size; omega
              · rcases hS20 b h with h | h
                · exact (hpb.out b hb).2 h
                · have := PR.out.lt hb; omega)
            obtain ⟨b5, o5, e5, hbl5, c0, c1, c2, c3⟩ := (HO.out.below hB5).at_ hlt
            injection e5 with e5
            injection e5 with e5 e6
            subst e5 e6
            clear hB5 q20 hS20 hu20 hA20 hact a0 a1 a2 a3 hbl
            cases hsd : G.said us[k] with
            | false =>
              have hv : Hid (¬ (G.said us[k] = true ∧ us[k].slot = s)) := hid (fun h => by rw [hsd] at h; cases h.1)
              clear hsd
              go_wp2_with fail
              go_meet
              obtain ⟨G2, S2, h1, h2, h3, h4, h5, h6, h7⟩ := hfin.out
              rw [if_neg hv.out] at h6
              exact ⟨false, G2, S2, rfl, h1, h2, h3, h4, h5, by simpa using h6, h7⟩
            | true =>
              by_cases hsl : us[k].slot = s
              · have hv : Hid (G.said us[k] = true ∧ us[k].slot = s) := hid ⟨hsd, hsl⟩
                have t5 : decide (us[k].slot = s) = true := decide_eq_true hsl
                have t6 : (us[k].slot == s) = true := by simp [hsl]
                clear hsd hsl
                go_wp2_with fail
                go_meet
                obtain ⟨G2, S2, h1, h2, h3, h4, h5, h6, h7⟩ := hfin.out
                rw [if_pos hv.out] at h6
                exact ⟨true, G2, S2, rfl, h1, h2, h3, h4, h5, by simpa using h6, h7⟩
              · have hv : Hid (¬ (G.said us[k] = true ∧ us[k].slot = s)) := hid (fun h => hsl h.2)
                have t5 : decide (us[k].slot = s) = false := decide_eq_false hsl
                have t6 : (us[k].slot == s) = false := by simp [hsl]
                clear hsd hsl
                go_wp2_with fail
                go_meet
                obtain ⟨G2, S2, h1, h2, h3, h4, h5, h6, h7⟩ := hfin.out
                rw [if_neg hv.out] at h6
                exact ⟨false, G2, S2, rfl, h1, h2, h3, h4, h5, by simpa using h6, h7⟩
          case rest =>
            obtain ⟨bq, G2, S2, rfl, q20, hS20, pr20, hpb20, hf20, htl20, hB20⟩ := hcut
            have q2 := hid q20
            have hS2 := hid hS20
            have PR2 := hid pr20
            have hpb2 := hid hpb20
            have hF2 := hid hf20
            have TL2 := hid htl20
            have hB2 := hid hB20
            clear q20 hS20 pr20 hpb20 hf20 htl20 hB20 hact a0 a1 a2 a3 hbl
            go_upto_if 61 with fail
            go_cut [9] (fun v9 wx => ∃ (PA2 : Option Addr) (pc2 : Nat) (l2 : List ByteArray), v9 = .slice PA2 l2.length pc2 ∧ l2.length ≤ k + 1 ∧ GAt S2 wx w1.heap.size G2 ∧ PRow wx PA2 pc2 l2 ∧ (∀ b, (Value.slice PA2 l2.length pc2).ownBlock = some b → w1.heap.size ≤ b ∧ ¬ S2 b) ∧ Tale s G2 l2 kn t ∧ Below w1.heap.size w1 wx)
            case first =>
              cases bq with
              | true =>
                obtain ⟨b5, o5, e5, hbl5, c0, c1, c2, c3⟩ := (HO.out.below hB2.out).at_ hlt
                injection e5 with e5
                injection e5 with e5 e6
                subst e5 e6
                have htl : Hid (Tale s G2 (l ++ [us[k].text]) kn t) := hid (by have := TL2.out; simpa using this)
                have hlk' : (l.length : Int) ≤ 1048576 := by have := hlk.out; have := hll.out; omega
                go_wp2_with (
                  at_builtin
                  refine wpList_append_rd _ rfl (.tmp 62) (.tmp 68) 46 rfl 0 9 i0 _ 1 16 Try.underlying46 hi0 hz0 hz1 hz2 rfl (by omega) (.slice PA l.length pc) l.length (l.map .string) rfl (own_below PR2.out ((Below.refl _ _).alloc (Nat.le_refl _) _)) (fun b => b = wc.heap.size) (some ⟨wc.heap.size, 0, none⟩) 1 1 [.string us[k].text] rfl (Rd.new _ _ 1 1 #[.string us[k].text] _ rfl rfl) (by simp [Value.oneCell']) (by simp only [maxLen]; omega) (by omega) (Nat.zero_le _) ?_
                  intro v2 w6 hown2 hg2 hat2
                  obtain ⟨A2, c2, rfl, hc2, _⟩ := own_form hown2)
                go_meet
                have hu6 : Upd (fun b => (Value.slice PA l.length pc).ownBlock = some b) wc w6 := ((Upd.refl _ wc).alloc _).grown hg2 fun q hq _ => hq
                have hbA : Below w1.heap.size w1 (wc.alloc (.cells #[.string us[k].text] 9)) := hB2.out.alloc hB2.out.size _
                refine ⟨A2, c2, l ++ [us[k].text], by simp, by have := hlk.out; simp; omega, ?_, ?_, fun q hq => ?_, htl.out, ?_⟩
                · obtain ⟨An, cn, Am, cm, a, q⟩ := q2.out
                  exact ⟨An, cn, Am, cm, a, q.far hu6 fun j hj e => (hpb2.out j e).2 hj⟩
                · unfold PRow
                  simpa using hown2
                · have hq' : (Value.slice A2 (l.length + 1) c2).ownBlock = some q := by simpa using hq
                  rcases hat2 with e | e
                  · rw [e] at hq'; exact hpb2.out q hq'
                  · rw [e] at hq'
                    injection hq' with hq'
                    have h1 := hB2.out.size
                    have h2 : ∀ j, S2 j → j < wc.heap.size := q2.out.lt.1
                    simp at hq'
                    subst hq'
                    exact ⟨by omega, fun h => by have := h2 _ h; omega⟩
                · exact hbA.grown hg2 (by have := hB2.out.size; simp; omega) fun q hq => (hpb2.out q hq).1
              | false =>
                have htl : Hid (Tale s G2 l kn t) := hid (by have := TL2.out; simpa using this)
                go_wp2_with fail
                go_meet
                exact ⟨PA, pc, l, rfl, by have := hlk.out; omega, q2.out, PR2.out, hpb2.out, htl.out, hB2.out⟩
            case rest =>
              obtain ⟨PA2, pc2, l2, rfl, hlk20, q30, pr30, hpb30, htl30, hB30⟩ := hcut
              have Q3 := hid q30
              have PR3 := hid pr30
              have hpb3 := hid hpb30
              have TL3 := hid htl30
              have hB3 := hid hB30
              have hlk3 := hid hlk20
              have hlen2 : G2.nds.length ≤ 9 := by have := hF2.out.len; have := hN9.out; omega
              have hch := hid (chosen_any s q30 hlen2)
              have hkn : Hid (decide (0 < (G2.chosen s).bal.rd) = true → (kn = true → (G2.chosen s).text = t) ∧ Tale s G2 l2 true (G2.chosen s).text) := hid fun h => TL3.out.know fun g hs => hs.chosen (of_decide_eq_true h)
              clear q30 pr30 hpb30 htl30 hB30 hlk20 hlen2 PR2 hpb2 TL2 hB2 q2
              go_wp2_with fail
              refine hch.out.mono ?_
              rintro e w7 ⟨rfl, hb70⟩
              have hb7 := hid hb70
              clear hb70 hch
              generalize decide (0 < (G2.chosen s).bal.rd) = ok at *
              generalize (G2.chosen s).text = ct at *
              go_upto_region 15 with fail
              go_cut [84] (fun v wx => v = .bool false ∧ wx = w7)
              case first =>
                cases ok with
                | false =>
                  cases kn with
                  | false => go_wp2_with fail; go_meet; exact ⟨rfl, rfl⟩
                  | true => go_wp2_with fail; go_meet; exact ⟨rfl, rfl⟩
                | true =>
                  cases kn with
                  | false => go_wp2_with fail; go_meet; exact ⟨rfl, rfl⟩
                  | true =>
                    have e := (hkn.out rfl).1 rfl
                    subst e
                    go_wp2_with fail
                    go_meet
                    exact ⟨rfl, rfl⟩
              case rest =>
                obtain ⟨rfl, hw8⟩ := hcut
                have hb8 : Hid (Below _ _ wc) := hid (hw8 ▸ hb7.out)
                clear hb7 hw8
                go_upto_if 85 with fail
                generalize hw8 : wc = w8 at *
                clear hw8
                go_cut [10, 11] (fun v10 v11 wx => ∃ (t2 : ByteArray) (kn2 : Bool), v10 = .string t2 ∧ v11 = .bool kn2 ∧ wx = w8 ∧ Tale s G2 l2 kn2 t2)
                case first =>
                  cases ok with
                  | false => go_wp2_with fail; go_meet; exact ⟨t, kn, rfl, rfl, rfl, TL3.out⟩
                  | true => go_wp2_with fail; go_meet; exact ⟨ct, true, rfl, rfl, rfl, (hkn.out (by first | rfl | trivial)).2⟩
                case rest =>
                  obtain ⟨t2, kn2, rfl, rfl, rfl, htl20⟩ := hcut
                  have TL4 := hid htl20
                  clear htl20 hkn TL3
                  have Q4 := hid (Q3.out.below hb8.out)
                  have PR4 : Hid (PRow wc PA2 pc2 l2) := hid (PR3.out.upd (.of_below' hb8.out (fun _ => False)) fun _ _ h => h)
                  have hB4 : Hid (Below w1.heap.size w1 wc) := hid (hB3.out.trans (hb8.out.mono hB3.out.size))
                  clear Q3 PR3 hB3 hb8
                  go_wp2_with fail
                  go_loopw [10, 11, 15] (fun v10 v11 v wx => ∃ (m : Nat) (t3 : ByteArray) (kn3 : Bool), v = .int .i64 m ∧ v10 = .string t3 ∧ v11 = .bool kn3 ∧ m ≤ N ∧ Tale s G2 l2 kn3 t3 ∧ Below wc.heap.size wc wx) (fun _ _ v _ => N - (intOf v).toNat)
                  case atStart => exact ⟨0, t2, kn2, rfl, rfl, rfl, Nat.zero_le _, TL4.out, Below.refl _ _⟩
                  case round =>
                    clear TL4
                    obtain ⟨m, t3, kn3, rfl, rfl, rfl, hm, htl30, hB50⟩ := hrel
                    have TL5 := hid htl30
                    have hB5 := hid hB50
                    clear htl30 hB50
                    have hm9 : (m : Int) ≤ 9 := by have := hN9.out; omega
                    by_cases hlt2 : m < N
                    · have i2 : (m : Int) < (N : Int) := by omega
                      have hle := hid (learned_any (m : Int) s (Q4.out.below hB5.out))
                      have hkn : Hid ((G2.st m s).is = true → (kn3 = true → (G2.st m s).text = t3) ∧ Tale s G2 l2 true (G2.st m s).text) := hid fun h => TL5.out.know fun g hs => hs.learned h
                      go_wp2_with fail
                      refine hle.out.mono ?_
                      rintro e w9 ⟨rfl, hb90⟩
                      have hb9 : Hid (Below wc.heap.size wc w9) := hid (hB5.out.trans (hb90.mono hB5.out.size))
                      clear hb90 hle
                      generalize (G2.st m s).is = ok at *
                      generalize (G2.st m s).text = ct at *
                      cases ok with
                      | false =>
                        cases kn3 with
                        | false =>
                          go_wp2_with fail
                          go_roundw
                          case rel => exact ⟨m + 1, t3, false, by go_num, rfl, rfl, by omega, TL5.out, hb9.out⟩
                          case measure => simp [intOf]; omega
                        | true =>
                          go_wp2_with fail
                          go_roundw
                          case rel => exact ⟨m + 1, t3, true, by go_num, rfl, rfl, by omega, TL5.out, hb9.out⟩
                          case measure => simp [intOf]; omega
                      | true =>
                        cases kn3 with
                        | false =>
                          have htl := hid (hkn.out rfl).2
                          clear hkn
                          go_wp2_with fail
                          go_roundw
                          case rel => exact ⟨m + 1, ct, true, by go_num, rfl, rfl, by omega, htl.out, hb9.out⟩
                          case measure => simp [intOf]; omega
                        | true =>
                          have htl := hid (hkn.out rfl).2
                          have e := (hkn.out rfl).1 rfl
                          subst e
                          clear hkn
                          go_wp2_with fail
                          go_roundw
                          case rel => exact ⟨m + 1, ct, true, by go_num, rfl, rfl, by omega, htl.out, hb9.out⟩
                          case measure => simp [intOf]; omega
                    · obtain rfl : m = N := by omega
                      have hkk : (k : Int) < 1048577 := by have := hll.out; omega
                      have hBf : Hid (Below w1.heap.size w1 wr) := hid (hB4.out.trans (hB5.out.mono hB4.out.size))
                      have PRf : Hid (PRow wr PA2 pc2 l2) := hid (PR4.out.upd (.of_below' hB5.out (fun _ => False)) fun _ _ h => h)
                      have Qf := hid (Q4.out.below hB5.out)
                      cases kn3 with
                      | false =>
                        go_wp2_with fail
                        go_roundw
                        case rel => exact ⟨k + 1, S2, G2, PA2, pc2, l2, t3, false, by go_num, rfl, rfl, rfl, by omega, hlk3.out, Qf.out, hS2.out, PRf.out, hpb3.out, hF2.out, TL5.out, hBf.out⟩
                        case measure => simp [intOf]; omega
                      | true =>
                        have hin := hid (has_any _ PA2 pc2 l2 t3 wr PRf.out.rd (by have := hlk3.out; have := hll.out; omega))
                        have hyes : Hid (hasB l2 t3 = true) := hid (hasB_mem.2 TL5.out.said)
                        go_wp2_with fail
                        refine hin.out.mono ?_
                        rintro e w' ⟨rfl, rfl⟩
                        rw [hyes.out]
                        go_wp2_with fail
                        go_roundw
                        case rel => exact ⟨k + 1, S2, G2, PA2, pc2, l2, t3, true, by go_num, rfl, rfl, rfl, by omega, hlk3.out, Qf.out, hS2.out, PRf.out, hpb3.out, hF2.out, TL5.out, hBf.out⟩
                        case measure => simp [intOf]; omega
        · obtain rfl : k = us.length := by omega
          go_wp2_with (go_at_call 11; refine (live_any _).mono ?_; rintro e w3 ⟨rfl, hb3⟩)
          go_ret
          exact ⟨rfl, hB.out.trans (hb3.mono hB.out.size)⟩

end Go.Proofs.Ytbgopicpdpkccaa
