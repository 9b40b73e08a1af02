/- store: StoreRoom. -/
import Derived.Test.YtnbbdjbjbjlcpaaDoorSOwn
import Derived.Test.YtnbbdjbjbjlcpaaDoorSStory
import Derived.Test.YtnbbdjbjbjlcpaaDoorSLive
import Derived.Test.YtnbbdjbjbjlcpaaDoorSRoomP
namespace Go.Proofs.YtnbbdjbjbjlcpaaDoor
open Go.RowKit
set_option linter.unusedVariables false
set_option linter.unusedSimpArgs false

theorem long_no {us : List SA} (h : longB us = false) : us.length ≤ 200 ∧ ∀ a ∈ us, a.ks.length ≤ 6000 ∧ a.ws.length ≤ 6000 := by
  unfold longB at h
  simp at h
  refine ⟨by omega, fun a ha => ?_⟩
  have := partsA_mem ha
  unfold partA at this
  omega
theorem good_pr {p r : Int} (h : goodPR p r = true) : ∃ p' r' : Nat, p = p' ∧ r = r' ∧ (1 ≤ p' ∧ p' ≤ 64) ∧ (1 ≤ r' ∧ r' ≤ 4096) := by
  unfold goodPR at h
  simp at h
  exact ⟨p.toNat, r.toNat, by omega, by omega, by omega, by omega⟩
/-- a store's bytes as a text -/
def btS (s : St) : ByteArray := bt ((bytesS s).map UInt8.toNat)
theorem bcells_bytes (l : List UInt8) : Lib.byteCells l = bcells (l.map UInt8.toNat) := by
  unfold Lib.byteCells bcells
  rw [List.map_map]; rfl
theorem bytes_text {S : Nat → Prop} {w : World} {g : Nat} {s : St} (h : PAt S w g s) (he : Env w) (hr : RngL s.L) : Calls Tryd.prog 10 #[.pointer (some ⟨g, 0, none⟩)] w fun e w' => ∃ A n c, e = .returned (.slice A n c) ∧ (convert 37 9 (.slice A n c)).run Tryd.prog w' = .ok (.string (btS s)) w' ∧ Below w.heap.size w w' := by
  refine (bytes_any h he hr).mono ?_
  rintro e w' ⟨v, rfl, ho, hb⟩
  obtain ⟨A, c, rfl, _⟩ := own_form ho
  rw [bcells_bytes] at ho
  exact ⟨A, _, c, rfl, convB (Rd.of_own ho) (by simp), hb⟩
/-- the store, within a round -/
structure RoomRel (g : Nat) (p r : Nat) (w1 wr : World) : Prop where
  st : ∃ S s, PAt S wr g s ∧ (∀ j, S j → w1.heap.size ≤ j) ∧ RngL s.L ∧ s.parts = p ∧ s.room = r
  bel : Below w1.heap.size w1 wr
theorem claimS_pr (s : St) (ks : List ByteArray) : (claimS s ks).parts = s.parts ∧ (claimS s ks).room = s.room := by unfold claimS; split <;> exact ⟨rfl, rfl⟩
theorem applyS_pr (s : St) (ws : List Wr) : (applyS s ws).parts = s.parts ∧ (applyS s ws).room = s.room := by unfold applyS; split <;> exact ⟨rfl, rfl⟩
theorem applyE_ne5 (s : St) (ws : List Wr) : applyE s ws ≠ 5 := by
  have key : ∀ n i, (scan (wrE s ws) n i).1 ≠ 5 := by
    intro n
    induction n with
    | zero => intro i; simp [scan]
    | succ n ih =>
      intro i
      unfold scan
      split
      · exact ih _
      · exact wrE_ne5 s ws i
  exact key _ _
section
variable {w w' : World}
set_option maxRecDepth 100000 in
set_option maxHeartbeats 4000000 in
theorem room_any {Sx : Nat → Prop} (p r : Int) {A : Option Addr} {c : Nat} {us : List SA} (h : SActs Sx w A us) (hn : us.length ≤ 1048576) (hp : partsA us ≤ 1048576) (hz : ∀ a ∈ us, okKs a.ks ∧ okWs a.ws) (hv : ∀ a ∈ us, ∀ x ∈ a.ws, x.v.rng) (he : Env w) :
    Calls Tryd.prog 3 #[.agg #[.int .i64 p, .int .i64 r, .slice A us.length c]] w fun e w' => e = .returned (.bool true) ∧ Below w.heap.size w w' := by
  have hB0 : Below w.heap.size w (w.alloc (.cells #[.int .i64 p, .int .i64 r, .slice A us.length c] 24)) := (Below.refl _ _).alloc (Nat.le_refl _) _
  have kb := hid (Blk.new w 24 #[.int .i64 p, .int .i64 r, .slice A us.length c])
  have hs := hid (h.below hB0)
  have hB := hid hB0
  have hE := hid (he.below hB0)
  have hlong := hid (long_any (c := c) p r hs.out hn hp)
  have hz := hid hz
  have hv := hid hv
  clear h hB0 hn hp he
  go_enter Tryd.func3, Tryd.ntmps3
  go_upto_region 1 with fail
  generalize w.alloc (.cells #[.int .i64 p, .int .i64 r, .slice A us.length c] 24) = w1 at *
  generalize hm : w.heap.size = m at *
  have x0 := kb.out.cell 0
  have x1 := kb.out.cell 1
  have x2 := kb.out.cell 2
  simp only [List.getElem?_toArray, List.getElem?_cons_zero, List.getElem?_cons_succ] at x0 x1 x2
  go_wp2_with fail
  refine hlong.out.mono ?_
  rintro e w2 ⟨rfl, hb2⟩
  have kb2 := hid (kb.out.below_all hb2)
  have hs2 := hid (hs.out.below hb2).all
  have hB2 := hid (hB.out.trans (hb2.mono (by rw [← hm]; exact hB.out.size)))
  have hE2 := hid (hE.out.below hb2)
  clear hb2 hlong hs hB hE kb x0 x1 x2
  cases hl : longB us with
  | true =>
    clear hl
    go_wp2_with fail
    go_ret
    exact ⟨rfl, by rw [hm]; exact hB2.out⟩
  | false =>
    obtain ⟨hn0, hp0⟩ := long_no hl
    have hn := hid hn0
    have hp := hid hp0
    have hN : (us.length : Int) ≤ 200 := by omega
    clear hl hn0 hp0
    have x0 := kb2.out.cell 0
    have x1 := kb2.out.cell 1
    simp only [List.getElem?_toArray, List.getElem?_cons_zero, List.getElem?_cons_succ] at x0 x1
    cases hg : goodPR p r with
    | false =>
      have hnw := fun W => hid (new_bad p r W hg)
      clear hg
      go_wp2_with fail
      refine (hnw _).out.mono ?_
      rintro e wq ⟨rfl, hwq⟩
      obtain rfl := hwq.symm
      go_wp2_with fail
      refine (num_any _ _).mono ?_
      rintro e wq ⟨rfl, hwq⟩
      obtain rfl := hwq.symm
      go_wp2_with fail
      refine (num_any _ _).mono ?_
      rintro e wq ⟨rfl, hwq⟩
      obtain rfl := hwq.symm
      go_wp2_with fail
      refine (live_any _).mono ?_
      rintro e w3 ⟨rfl, hb3⟩
      have hfb : Hid (Below m w w3) := hid (hB2.out.trans (hb3.mono (by rw [← hm]; exact hB2.out.size)))
      clear hb3
      go_wp2_with fail
      go_ret
      exact ⟨rfl, by rw [hm]; exact hfb.out⟩
    | true =>
      obtain ⟨p, r, rfl, rfl, hp1, hr1⟩ := good_pr hg
      have hnw := hid (new_ok p r w2 hp1 hr1)
      have hpp := hid hp1
      have hrr := hid hr1
      clear hg hp1 hr1
      go_wp2_with fail
      refine hnw.out.mono ?_
      rintro e w3 ⟨S, g, rfl, hP, hS, hb3⟩
      have R3 : Hid (RoomRel g p r w2 w3) := hid ⟨⟨S, _, hP, hS, fun x hx => (by cases hx), rfl, rfl⟩, hb3⟩
      clear hP hS hb3 hnw x0 x1
      go_wp2_with fail
      refine (num_any _ _).mono ?_
      rintro e wq ⟨rfl, hwq⟩
      obtain rfl := hwq.symm
      go_wp2_with fail
      go_loopw [5] (fun v wr => ∃ k : Nat, v = .int .i64 k ∧ k ≤ us.length ∧ RoomRel g p r w2 wr) (fun v _ => us.length - (intOf v).toNat)
      case atStart => exact ⟨0, rfl, Nat.zero_le _, R3.out⟩
      case round =>
        clear R3
        obtain ⟨k, rfl, hk, R0⟩ := hrel
        have R := hid R0
        clear R0
        have x2 : wr.cell? ⟨m, 2, none⟩ = some (.slice A us.length c) := (kb2.out.below_all R.out.bel).cell 2
        by_cases hlt : k < us.length
        · have i1 : (k : Int) < (us.length : Int) := by omega
          obtain ⟨b, o, rfl, _, hbl, hok, y0, y1, y2⟩ := (hs2.out.below R.out.bel).at_ hlt
          have hok := hid hok
          have hpk := hid (hp.out us[k] (List.getElem_mem hlt))
          have hzk := hid (hz.out us[k] (List.getElem_mem hlt))
          have hvk := hid (hv.out us[k] (List.getElem_mem hlt))
          generalize us[k] = a at *
          obtain ⟨S, s, hP0, hS0, hR0, hsp, hsr⟩ := R.out.st
          have hP := hid hP0
          have hSm := hid hP0.lt
          have hS := hid hS0
          have hR := hid hR0
          have hE3 := hid (hE2.out.below R.out.bel)
          have hBr := hid R.out.bel
          have hB1 := hid R.out.bel.size
          have h6 := hid hE2.out.big
          clear hP0 hS0 hR0 hbl
          go_wp2_with fail
          refine (own_any a hok.out (by have := hpk.out.1; omega) (by have := hpk.out.2; omega)).mono ?_
          rintro e w4 ⟨B1, d1, B2, d2, rfl, hr1, hr2, hb4⟩
          have hb5 : Below wr.heap.size wr (w4.alloc (.cells #[.int .i64 a.kind, .slice B1 a.ks.length d1, .slice B2 a.ws.length d2] 35)) := hb4.alloc hb4.size _
          have k9 := hid (Blk.new w4 35 #[.int .i64 a.kind, .slice B1 a.ks.length d1, .slice B2 a.ws.length d2])
          have hs4 := hid hb4.size
          have hr1 := hid (hr1.alloc (.cells #[.int .i64 a.kind, .slice B1 a.ks.length d1, .slice B2 a.ws.length d2] 35))
          have hr2 := hid (hr2.alloc (.cells #[.int .i64 a.kind, .slice B1 a.ks.length d1, .slice B2 a.ws.length d2] 35))
          have hP5 := hid (hP.out.below hb5)
          have hB5 := hid (hBr.out.trans (hb5.mono hB1.out))
          have hE5 := hid (hE3.out.below hb5)
          clear hb4 hb5 hP R x2 y0 y1 y2 hok
          go_upto_region 10 with fail
          generalize w4.alloc (.cells #[.int .i64 a.kind, .slice B1 a.ks.length d1, .slice B2 a.ws.length d2] 35) = w5 at *
          go_wp2_with fail
          refine (bytes_text hP5.out hE5.out hR.out).mono ?_
          rintro e w6 ⟨A6, n6, c6, rfl, hcv, hb6⟩
          have k6 := hid (k9.out.below_all hb6)
          have hr1 := hid (hr1.out.below_all hb6)
          have hr2 := hid (hr2.out.below_all hb6)
          have hP6 := hid (hP5.out.below hb6)
          have hB6 := hid (hB5.out.trans (hb6.mono hB5.out.size))
          have hE6 := hid (hE5.out.below hb6)
          clear hb6 hP5 hB5 hE5 k9
          have c0 := k6.out.cell 0
          go_upto_if 54 with fail
          go_cut [8] (fun v wx => ∃ (n : Int) (s' : St), v = .int .i64 n ∧ PAt S wx g s' ∧ RngL s'.L ∧ (s'.parts = p ∧ s'.room = r) ∧ Below w2.heap.size w2 wx ∧ Blk wx w4.heap.size 35 #[.int .i64 a.kind, .slice B1 a.ks.length d1, .slice B2 a.ws.length d2] ∧ Rd (fun b => wr.heap.size ≤ b) wx 1 B1 a.ks.length (strs a.ks) ∧ Rd (fun b => wr.heap.size ≤ b) wx 5 B2 a.ws.length (wrCells a.ws) ∧ (n ≠ 0 → s' = s) ∧ (a.kind = 1 → n = 0 → ∀ k ∈ a.ks, hasK k s'.L = true) ∧ (a.kind ≠ 1 → n = 0 ∧ s' = s))
          case first =>
            by_cases e1 : a.kind = 1
            · have t1 : (a.kind == 1) = true := by simpa using e1
              have he1 := hid e1
              clear e1
              have c1 := k6.out.cell 1
              have hcl := hid (claim_any (c := d1) a.ks hP6.out hr1.out (fun b hb hSb => by have := hSm.out b hSb; omega) hzk.out.1 (by have := hpk.out.1; omega))
              go_wp2_with fail
              refine hcl.out.mono ?_
              rintro e w7 ⟨rfl, hP7, hu⟩
              have hf : Hid (PAt S w7 g (claimS s a.ks) ∧ Upd S w6 w7) := hid ⟨hP7, hu⟩
              clear hP7 hu hcl c0 c1
              go_wp2_with fail
              go_meet
              exact ⟨claimE s a.ks, claimS s a.ks, rfl, hf.out.1, rng_claim hR.out, by rw [(claimS_pr s a.ks).1, (claimS_pr s a.ks).2]; exact ⟨hsp, hsr⟩, hB6.out.trans (hf.out.2.below hB6.out.size fun k hk hSk => by have := hS.out k hSk; omega), k6.out.upd hf.out.2 (fun hSk => by have := hSm.out _ hSk; have := hs4.out; omega), hr1.out.upd hf.out.2 (fun b hb hSb => by have := hSm.out b hSb; omega), hr2.out.upd hf.out.2 (fun b hb hSb => by have := hSm.out b hSb; omega), fun hne => claimS_no hne, fun _ h0 k hk => claim_has h0 hk, fun hne => absurd he1.out hne⟩
            · have t1 : (a.kind == 1) = false := by simpa using e1
              have he1 := hid e1
              clear e1
              go_wp2_with fail
              go_meet
              exact ⟨0, s, rfl, hP6.out, hR.out, ⟨hsp, hsr⟩, hB6.out, k6.out, hr1.out, hr2.out, fun _ => rfl, fun h => absurd h he1.out, fun _ => ⟨rfl, rfl⟩⟩
          case rest =>
            obtain ⟨n1, s1, rfl, hP7, hR7, ⟨hsp1, hsr1⟩, hB7, k7, hq1, hq2, hz1, hh1, ho1⟩ := hcut
            have hP7 := hid hP7
            have hR7 := hid hR7
            have hB7 := hid hB7
            have k7 := hid k7
            have hq1 := hid hq1
            have hq2 := hid hq2
            have hz1 := hid hz1
            have hh1 := hid hh1
            have ho1 := hid ho1
            have hpr1 := hid (show s1.parts = p ∧ s1.room = r from ⟨hsp1, hsr1⟩)
            clear hsp1 hsr1 k6 hr1 hr2 hP6 hB6 hE6
            rename World => w7
            have c0 := k7.out.cell 0
            go_upto_if 61 with fail
            go_cut [8] (fun v wx => ∃ (n : Int) (s' : St), v = .int .i64 n ∧ PAt S wx g s' ∧ RngL s'.L ∧ (s'.parts = p ∧ s'.room = r) ∧ Below w2.heap.size w2 wx ∧ Blk wx w4.heap.size 35 #[.int .i64 a.kind, .slice B1 a.ks.length d1, .slice B2 a.ws.length d2] ∧ Rd (fun b => wr.heap.size ≤ b) wx 1 B1 a.ks.length (strs a.ks) ∧ Rd (fun b => wr.heap.size ≤ b) wx 5 B2 a.ws.length (wrCells a.ws) ∧ (n ≠ 0 → s' = s) ∧ (a.kind = 1 → n = 0 → ∀ k ∈ a.ks, hasK k s'.L = true) ∧ (True))
            case first =>
              by_cases e2 : a.kind = 2
              · have t2 : (a.kind == 2) = true := by simpa using e2
                have hne : a.kind ≠ 1 := by omega
                obtain ⟨rfl, hss0⟩ := ho1.out hne
                have hss := hid hss0
                clear hss0
                have hne1 := hid hne
                clear e2 hne
                have c2 := k7.out.cell 2
                have hap := hid (apply_any (c := d2) a.ws hP7.out hq2.out (fun b hb hSb => by have := hSm.out b hSb; omega) hzk.out.2 (by have := hpk.out.2; omega))
                have t5 : (applyE s1 a.ws == 5) = false := by simpa using applyE_ne5 s1 a.ws
                go_wp2_with fail
                refine hap.out.mono ?_
                rintro e w8 ⟨rfl, hP8, hu⟩
                have hf : Hid (PAt S w8 g (applyS s1 a.ws) ∧ Upd S w7 w8) := hid ⟨hP8, hu⟩
                clear hP8 hu hap c0 c2
                go_wp2_with fail
                refine (num_any _ _).mono ?_
                rintro e wq ⟨rfl, hwq⟩
                obtain rfl := hwq.symm
                go_wp2_with fail
                go_meet
                exact ⟨applyE s1 a.ws, applyS s1 a.ws, rfl, hf.out.1, rng_apply hR7.out hvk.out, by rw [(applyS_pr s1 a.ws).1, (applyS_pr s1 a.ws).2]; exact hpr1.out, hB7.out.trans (hf.out.2.below hB7.out.size fun k hk hSk => by have := hS.out k hSk; omega), k7.out.upd hf.out.2 (fun hSk => by have := hSm.out _ hSk; have := hs4.out; omega), hq1.out.upd hf.out.2 (fun b hb hSb => by have := hSm.out b hSb; omega), hq2.out.upd hf.out.2 (fun b hb hSb => by have := hSm.out b hSb; omega), fun hne => (applyS_no hne).trans hss.out, fun h => absurd h hne1.out, trivial⟩
              · have t2 : (a.kind == 2) = false := by simpa using e2
                clear e2
                go_wp2_with fail
                go_meet
                exact ⟨n1, s1, rfl, hP7.out, hR7.out, hpr1.out, hB7.out, k7.out, hq1.out, hq2.out, hz1.out, hh1.out, trivial⟩
            case rest =>
              obtain ⟨n2, s2, rfl, hP80, hR80, hpr20, hB80, k80, hq80, _, hz20, hh20, _⟩ := hcut
              have hP8 := hid hP80
              have hR8 := hid hR80
              have hpr2 := hid hpr20
              have hB8 := hid hB80
              have k8 := hid k80
              have hq8 := hid hq80
              have hz2 := hid hz20
              have hh2 := hid hh20
              clear hP80 hR80 hpr20 hB80 k80 hq80 hz20 hh20 hP7 hR7 hB7 k7 hq1 hq2 hz1 hh1 ho1 hpr1 c0
              rename World => w8
              have hE8 := hid (hE2.out.below hB8.out)
              have hi5 : IntKind.i64.wrap ((k : Int) + 1) = (k : Int) + 1 := by rw [IntKind.wrap_i64]; omega
              by_cases hn2 : n2 = 0
              · subst hn2
                by_cases e1 : a.kind = 1
                · have t1 : (a.kind == 1) = true := by simpa using e1
                  have hhas := hid (hh2.out e1 rfl)
                  clear e1
                  go_wp2_with fail
                  refine (num_any _ _).mono ?_
                  rintro e wq ⟨rfl, hwq⟩
                  obtain rfl := hwq.symm
                  go_wp2_with fail
                  go_loopw [9] (fun v wz => ∃ j : Nat, v = .int .i64 j ∧ j ≤ a.ks.length ∧ Below w8.heap.size w8 wz) (fun v _ => a.ks.length - (intOf v).toNat)
                  case atStart => exact ⟨0, rfl, Nat.zero_le _, Below.refl _ _⟩
                  case round =>
                    obtain ⟨j, rfl, hj, hbz0⟩ := hrel
                    have hbz := hid hbz0
                    have kz := k8.out.below_all hbz0
                    have c0 := kz.cell 0
                    have c1 := kz.cell 1
                    have kbz := kb2.out.below_all (hB8.out.trans (hbz0.mono hB8.out.size))
                    have x0 := kbz.cell 0
                    have x1 := kbz.cell 1
                    simp only [List.getElem?_toArray, List.getElem?_cons_zero, List.getElem?_cons_succ] at x0 x1 c0 c1
                    clear kz kbz
                    by_cases hjl : j < a.ks.length
                    · have i2 : (j : Int) < (a.ks.length : Int) := by omega
                      obtain ⟨b9, o9, hA9, _, _, y9⟩ := rd_strs (hq8.out.below_all hbz0) hjl
                      obtain rfl := hA9
                      have hPz := hid (hP8.out.below hbz0)
                      have hkey := hid (hzk.out.1 _ (List.getElem_mem hjl))
                      have hhk := hid (hhas.out _ (List.getElem_mem hjl))
                      generalize a.ks[j] = key at *
                      have hq1c : Hid (∀ q, Calls Tryd.prog 13 #[.pointer (some ⟨g, 0, none⟩), .string key] (wr.drewN q) fun e w'' => e = .returned (.bool true) ∧ ∃ m, w'' = wr.drewN m) := hid fun q => ((claimed_any (w := wr.drewN q) key (hPz.out.below (below_drewN (Below.refl _ _) q)) hkey.out).mono fun e w'' ⟨h1, q', h2⟩ => ⟨by rw [h1, hhk.out], q + q', by rw [h2, World.drewN_drewN]⟩)
                      obtain ⟨hsp2, hsr2⟩ := hpr2.out
                      have hpb := hid (show 1 ≤ p ∧ p ≤ 64 from hpp.out)
                      have hq2c : Hid (∀ q, Calls Tryd.prog 15 #[.string key, .int .i64 p] (wr.drewN q) fun e w'' => e = .returned (.int .i64 (partK p key : Nat)) ∧ w'' = wr.drewN q) := hid fun q => rpart_any key p _ hkey.out hpb.out.1 hpb.out.2
                      obtain ⟨cn, hcn⟩ : ∃ cn, cn = cntP s2.parts (partK s2.parts key) s2.L := ⟨_, rfl⟩
                      have hpl : partK s2.parts key < s2.parts := partK_lt key (by rw [hsp2]; have := hpb.out; omega)
                      have hq3c : Hid (∀ q, Calls Tryd.prog 14 #[.pointer (some ⟨g, 0, none⟩), .int .i64 (partK p key : Nat)] (wr.drewN q) fun e w'' => e = .returned (.int .i64 (cn : Nat)) ∧ w'' = wr.drewN q) := hid fun q => by
                        have := claims_any (w := wr.drewN q) (hPz.out.below (below_drewN (Below.refl _ _) q)) (partK s2.parts key) hpl
                        rw [← hcn] at this
                        rw [hsp2] at this
                        exact this
                      have hle : cn ≤ r := by rw [hcn, ← hsr2]; exact hPz.out.ok.cnt _ hpl
                      have tq : decide ((r : Int) < (cn : Int)) = false := decide_eq_false (by omega)
                      have tn : decide (r < cn) = false := decide_eq_false (by omega)
                      have hj9 : IntKind.i64.wrap ((j : Int) + 1) = (j : Int) + 1 := by rw [IntKind.wrap_i64]; have := hpk.out.1; omega
                      clear hcn hpl hle hsp2 hsr2 hbz0
                      go_wp2_with fail
                      refine (num_any _ _).mono ?_
                      rintro e wq ⟨rfl, hwq⟩
                      obtain rfl := hwq.symm
                      go_wp2_with fail
                      go_quiet ((first
                        | (go_at_call 13; exact hq1c.out _)
                        | (go_at_call 15; exact Calls.quiet_of_same (hq2c.out _))
                        | (go_at_call 14; exact Calls.quiet_of_same (hq3c.out _))))
                      go_wp2_with fail
                      go_roundw
                      case rel => exact ⟨j + 1, by simp, hjl, below_drewN hbz.out _⟩
                      case measure => simp [intOf]; omega
                    · obtain rfl : j = a.ks.length := by omega
                      clear hjl hbz0
                      go_wp2_with fail
                      refine (num_any _ _).mono ?_
                      rintro e wq ⟨rfl, hwq⟩
                      obtain rfl := hwq.symm
                      go_wp2_with fail
                      go_roundw
                      case rel => exact ⟨k + 1, by simp, hlt, ⟨S, s2, hP8.out.below hbz.out, hS.out, hR8.out, hpr2.out.1, hpr2.out.2⟩, hB8.out.trans (hbz.out.mono hB8.out.size)⟩
                      case measure => simp [intOf]; omega
                · have t1 : (a.kind == 1) = false := by simpa using e1
                  have c0 := k8.out.cell 0
                  simp only [List.getElem?_toArray, List.getElem?_cons_zero] at c0
                  clear e1
                  go_wp2_with fail
                  refine (num_any _ _).mono ?_
                  rintro e wq ⟨rfl, hwq⟩
                  obtain rfl := hwq.symm
                  go_wp2_with fail
                  go_loopw [9] (fun v wz => v = .int .i64 0 ∧ wz = w8) (fun _ _ => 0)
                  case atStart => exact ⟨rfl, rfl⟩
                  case round =>
                    obtain ⟨rfl, hwz⟩ := hrel
                    obtain rfl := hwz.symm
                    go_wp2_with fail
                    refine (num_any _ _).mono ?_
                    rintro e wq ⟨rfl, hwq⟩
                    obtain rfl := hwq.symm
                    go_wp2_with fail
                    go_roundw
                    case rel => exact ⟨k + 1, by simp, hlt, ⟨S, s2, hP8.out, hS.out, hR8.out, hpr2.out.1, hpr2.out.2⟩, hB8.out⟩
                    case measure => simp [intOf]; omega
              · have t4 : (n2 == 0) = false := by simpa using hn2
                have t5 : (n2 != 0) = true := by simpa using hn2
                have hse := hz2.out hn2
                subst hse
                have hby := hid (bytes_text hP8.out hE8.out hR8.out)
                clear hn2
                go_wp2_with fail
                refine (num_any _ _).mono ?_
                rintro e wq ⟨rfl, hwq⟩
                obtain rfl := hwq.symm
                go_wp2_with fail
                refine hby.out.mono ?_
                rintro e w9 ⟨A9, n9, c9, rfl, hcv9, hb9⟩
                have hP9 := hid (hP8.out.below hb9)
                have hB9 := hid (hB8.out.trans (hb9.mono hB8.out.size))
                clear hb9 hby
                go_wp2_with fail
                go_loopw [9] (fun v wz => v = .int .i64 0 ∧ wz = w9) (fun _ _ => 0)
                case atStart => exact ⟨rfl, rfl⟩
                case round =>
                  obtain ⟨rfl, hwz⟩ := hrel
                  obtain rfl := hwz.symm
                  go_wp2_with fail
                  refine (num_any _ _).mono ?_
                  rintro e wq ⟨rfl, hwq⟩
                  obtain rfl := hwq.symm
                  go_wp2_with fail
                  go_roundw
                  case rel => exact ⟨k + 1, by simp, hlt, ⟨S, s2, hP9.out, hS.out, hR8.out, hpr2.out.1, hpr2.out.2⟩, hB9.out⟩
                  case measure => simp [intOf]; omega
        · obtain rfl : k = us.length := by omega
          have hfb : Hid (Below m w wr) := hid (hB2.out.trans (R.out.bel.mono (by rw [← hm]; exact hB2.out.size)))
          clear hlt
          generalize us.length = n at *
          go_wp2_with fail
          refine (live_any _).mono ?_
          rintro e w9 ⟨rfl, hb9⟩
          have hff : Hid (Below m w w9) := hid (hfb.out.trans (hb9.mono (by rw [← hm]; exact hfb.out.size)))
          clear hb9
          go_wp2_with fail
          go_ret
          exact ⟨rfl, by rw [hm]; exact hff.out⟩
end
end Go.Proofs.YtnbbdjbjbjlcpaaDoor
