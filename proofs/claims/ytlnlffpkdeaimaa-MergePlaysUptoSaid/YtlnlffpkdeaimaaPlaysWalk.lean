/- MergePlays: the walk of the law. -/
import Derived.Test.YtlnlffpkdeaimaaSim2
import Derived.Test.YtlnlffpkdeaimaaLive
namespace Go.Proofs.Ytlnlffpkdeaimaa
open Go.RowKit
set_option linter.unusedVariables false

/-- before act i -/
def PlaysRel (W : World) (n : Int) (g mb gR : Nat) (us : List AR) (v : Value) (wr : World) : Prop :=
  ∃ (i : Nat) (e s : Int) (H : List ((Int × Int) × HV)) (S : Nat → Prop) (AL : Option Addr) (cL : Nat) (L : List ((Int × Int) × HV)), v = .int .i64 i ∧ i ≤ us.length ∧ Sim W n g mb gR i e s H S AL cL L wr

theorem apart_del {key : Int × Int} {hv : HV} : ∀ {H : List ((Int × Int) × HV)}, (H.Pairwise fun a b => ∀ k, a.2.S k → b.2.S k → False) → getA key H = some hv → ∀ h ∈ delA key H, ∀ k, hv.S k → h.2.S k → False := by
  intro H
  induction H with
  | nil => intro _ h; simp [getA] at h
  | cons p l ih =>
    intro hp hget h hh k h1 h2
    obtain ⟨hp1, hp2⟩ := List.pairwise_cons.1 hp
    by_cases hk : key = p.1
    · simp only [getA, hk, if_true, Option.some.injEq] at hget
      simp only [delA, hk, if_true] at hh
      exact hp1 h hh k (hget ▸ h1) h2
    · simp only [getA, hk, if_false] at hget
      simp only [delA, hk, if_false] at hh
      rcases List.mem_cons.1 hh with rfl | hh
      · exact hp1 _ (getA_mem hget) k h2 h1
      · exact ih hp2 hget h hh k h1 h2

set_option maxRecDepth 100000 in
set_option maxHeartbeats 4000000 in
theorem plays_walk (n : Int) (A : Option Addr) (c : Nat) (us : List AR) (W : World) (ha : ActsOk (fun b => b < W.heap.size) W A us) (hl : us.length ≤ 1000000) (hp : partsAll us ≤ 100000000)
    (hr : ∀ a ∈ us, a.rs.length ≤ 1000000000 ∧ (∀ r ∈ a.rs, r.p.fits) ∧ a.x ≤ 9223372036854775807) :
    Calls Try.prog 5 #[.int .i64 n, .slice A us.length c] W fun e w' => e = .returned (.bool true) ∧ Below W.heap.size W w' := by
  go_enter Try.func5, Try.ntmps5
  go_wp2_with fail
  refine (long_any _ A c us W ha (by omega) hp fun a h => (hr a h).1).mono ?_
  rintro e w1 ⟨b, rfl, hb1⟩
  cases b with
  | true =>
    go_wp2_with fail
    go_ret
    exact ⟨rfl, hb1⟩
  | false =>
    by_cases hn : n < 1 ∨ 16 < n
    · go_wp2_with fail
      refine (mnew_bad n _ hn).mono ?_
      rintro e w' ⟨rfl, rfl⟩
      go_wp2_with fail
      refine (rnew_bad n _ hn).mono ?_
      rintro e w' ⟨rfl, rfl⟩
      go_wp2_with (first
        | (go_at_call 7; refine (mnum_any _ _).mono ?_; rintro e w' ⟨rfl, rfl⟩)
        | (go_at_call 8; refine (live_any _).mono ?_; rintro e w3 ⟨rfl, hb3⟩))
      go_ret
      exact ⟨rfl, hb1.trans (hb3.mono hb1.size)⟩
    · have hn1 : 1 ≤ n := by omega
      have hn2 : n ≤ 16 := by omega
      clear hn
      go_wp2_with fail
      refine (mnew_ok n _ hn1 hn2).mono ?_
      rintro e w2 ⟨g, mb, rfl, ⟨hg0, hm0⟩, hM, hb2⟩
      go_wp2_with fail
      refine (rnew_ok n _ hn1 hn2).mono ?_
      rintro e w3 ⟨rfl, hR, hb3⟩
      have hSim : Sim W n g mb w2.heap.size 0 0 0 [] Nil none 0 [] w3 := by
        have h1 := hb1.size
        have h2 := hb2.size
        have hgl := hM.blk.lt
        have hml := hM.map.lt
        exact ⟨hM.below hb3, hR, rfl, by omega, by omega, by omega, by omega, hn2, by simp, ⟨by omega, by omega, by omega⟩, by simp, fun k hk => hk.elim, (hb1.trans (hb2.mono h1)).trans (hb3.mono (by omega))⟩
      clear hM hR hb1 hb2 hb3 hg0 hm0
      generalize w2.heap.size = gR at *
      go_wp2_with (go_at_call 7; refine (mnum_any _ _).mono ?_; rintro e w' ⟨rfl, rfl⟩)
      go_loopw [9] (fun v wr => PlaysRel W n g mb gR us v wr) (fun v _ => us.length - (intOf v).toNat)
      case atStart => exact ⟨0, 0, 0, [], Nil, none, 0, [], rfl, Nat.zero_le _, hSim⟩
      case round =>
        obtain ⟨i, e, s, H, S, AL, cL, L, rfl, hi, R⟩ := hrel
        by_cases hlt : i < us.length
        · have i1 : (i : Int) < (us.length : Int) := by omega
          obtain ⟨b, o, rfl, hbW, hbl, okp, a0, a1, a2, a3⟩ := (ha.below R.below).at_ hlt
          obtain ⟨hrl, hrf, hrx⟩ := hr _ (List.getElem_mem hlt)
          cases htk : us[i].take with
          | true =>
            rw [htk] at a0
            have hei := R.ei
            have hs0' := R.s0
            have hsn' := R.sn
            have hn16' := R.n16
            have he0' := R.e0
            have hll := R.len
            cases hget : getA (e, s) H with
            | none =>
              have hget2 : getA (e, s) L = none := by
                have h1 := getA_held (e, s) H
                rw [R.eq, getA_held, hget] at h1
                simpa using h1
              have hget := hid hget
              have hget2 := hid hget2
              go_wp2_with fail
              refine (take_no g mb n e s H _ R.m hget.out).mono ?_
              rintro r w1 ⟨rfl, hb1⟩
              have R1 := (R.step hb1).step ((Below.refl _ _).alloc (Nat.le_refl _) (.cells #[.int .i64 0, .int .i64 0, .slice none 0 0] 42))
              have ko := Blk.new w1 42 #[.int .i64 0, .int .i64 0, .slice none 0 0]
              go_wp2_with fail
              refine (rtake_no S gR n e s AL cL L _ R1.r (by omega) hget2.out).mono ?_
              rintro r w2 ⟨rfl, hb2⟩
              have R2 := (R1.step hb2).step ((Below.refl _ _).alloc (Nat.le_refl _) (.cells #[.int .i64 0, .int .i64 0, .slice none 0 0] 42))
              have ko2 := (ko.below_all hb2).alloc (.cells #[.int .i64 0, .int .i64 0, .slice none 0 0] 42)
              have kp2 := Blk.new w2 42 #[.int .i64 0, .int .i64 0, .slice none 0 0]
              have x0 := ko2.cell 0
              have x1 := ko2.cell 1
              have x2 := ko2.cell 2
              have y0 := kp2.cell 0
              have y1 := kp2.cell 1
              have y2 := kp2.cell 2
              simp at x0 x1 x2 y0 y1 y2
              have hz := ko2.lt
              clear ko kp2
              go_wp2_with fail
              refine (rsame_any Nil Nil none none [] [] 0 0 0 0 0 0 _ ⟨Rd.nil_, by simp⟩ ⟨Rd.nil_, by simp⟩ (by simp) (by simp) (by simp) (by simp)).mono ?_
              rw [show eqO 0 0 0 0 (plans []) (plans []) = true from rfl]
              rintro r w3 ⟨rfl, hb3⟩
              have R3 := R2.step hb3
              have z2 := (ko2.below_all hb3).cell 2
              simp at z2
              go_wp2_with fail
              refine (spoil_any Nil none 0 [] _ ⟨⟨World.ownsRow_nil _ _ _ _, by simp [Value.ownBlock]⟩, by simp⟩ (by simp) (by simp)).mono ?_
              rintro r w4 ⟨rfl, hu4⟩
              have R4 := (R3.far hu4 (fun k hk => hk.elim)).next
              clear x0 x1 x2 y0 y1 y2 z2 a0 a1 a2 a3
              obtain ⟨_, m1, m2, _⟩ := R4.m.cells
              go_wp2_with fail
              refine (next_any g e s _ (by first | exact m1 | simpa using m1) (by first | exact m2 | simpa using m2)).mono ?_
              rintro r w5 ⟨rfl, hb5⟩
              have R5 := R4.step hb5
              obtain ⟨k0, k1, k2, k3⟩ := R5.m.cells
              obtain ⟨r0, r1, r2, r3⟩ := R5.r.cells
              have hlenB : (((hvals H).length : Int) != (L.length : Int)) = false := by
                have h1 := congrArg List.length R5.eq
                rw [held_len, held_len] at h1
                simp [hvals, h1]
              have hgl := R5.r.blk.lt
              have hLl := R5.len
              have hn16 := R5.n16
              have hs0 := R5.s0
              have hsn := R5.sn
              have keepS : Hid (∀ w' : World, Below w5.heap.size w5 w' → w'.cell? ⟨gR, 1, none⟩ = some (.int .i64 e) ∧ w'.cell? ⟨gR, 2, none⟩ = some (.int .i64 s) ∧ w'.cell? ⟨gR, 3, none⟩ = some (.slice AL L.length cL)) := fun w' hb =>
                ⟨(hb.cell (p := ⟨gR, 1, none⟩) hgl).trans r1, (hb.cell (p := ⟨gR, 2, none⟩) hgl).trans r2, (hb.cell (p := ⟨gR, 3, none⟩) hgl).trans r3⟩
              have hml := missL_len e L s (n - s).toNat
              have hmis : Hid (missL e H s (n - s).toNat = missL e L s (n - s).toNat) := missL_held' R5.eq _ _
              have hself : Hid (eqL (missL e L s (n - s).toNat) (missL e L s (n - s).toNat) = true) := by
                have : eqL (missL e L s (n - s).toNat) (missL e L s (n - s).toNat) = true := by simp [eqL]
                exact hid this
              go_wp2_with fail
              go_region_held3 (fun w' => w'.cell? ⟨gR, 1, none⟩ = some (.int .i64 e) ∧ w'.cell? ⟨gR, 2, none⟩ = some (.int .i64 s) ∧ w'.cell? ⟨gR, 3, none⟩ = some (.slice AL L.length cL))
                (first | exact keepS.out _ (below_drewN hq7 _) | exact keepS.out _ hq7 | exact keepS.out _ hq6 | exact keepS.out _ (Below.refl _ _).drew | exact keepS.out _ (Below.refl _ _))
                (first
                  | (go_at_call 23; refine (held_any g mb (hvals H) w5.drew k3 (R5.step (Below.refl _ _).drew).m.map).mono ?_; rintro r w' ⟨rfl, rfl⟩)
                  | (go_at_call 25; refine (missing_any g mb n e s H _ (R5.step (Below.refl _ _).drew).m hs0 (by omega) (by omega)).mono ?_; rintro r w6 ⟨A6, c6, rfl, hr6, hb6⟩; rw [hmis.out] at hr6 ⊢; have hq6 : Below w5.heap.size w5 w6 := ((Below.refl _ w5).drew).trans hb6)
                  | (go_at_call 26; refine (rmissing_any S gR n e s AL cL L _ (R5.step hq6).r (by omega) hs0 (by omega) (by omega)).mono ?_; rintro r w7 ⟨A7, c7, rfl, hr7, hb7⟩; have hq7 : Below w5.heap.size w5 w7 := hq6.trans (hb7.mono hq6.size))
                  | (go_at_call 24; refine (ints_any _ _ _ _ _ _ _ _ _ (hr6.below_all hb7) hr7 (by omega) (by omega)).mono ?_; rw [hself.out]; rintro r w8 ⟨rfl, q, rfl⟩))
              have R8 := R5.step (below_drewN hq7 q)
              go_wp2_with fail
              go_roundw
              case rel => exact ⟨i + 1, e, s, H, S, AL, cL, L, by go_num, hlt, R8⟩
              case measure => simp [intOf]; omega


            | some hv =>
              obtain ⟨hv2, hget2, hpe⟩ : ∃ hv2, getA (e, s) L = some hv2 ∧ plans hv2.rs = plans hv.rs := by
                have h1 := getA_held (e, s) H
                rw [R.eq, getA_held, hget] at h1
                cases h2 : getA (e, s) L with
                | none => rw [h2] at h1; simp at h1
                | some v => rw [h2] at h1; exact ⟨v, rfl, by simpa using h1⟩
              have hmem := getA_mem hget
              have hmem2 := getA_mem hget2
              have hap := apart_del R.m.apart hget
              have hfo := R.m.fits _ hmem
              have hfo2 := R.r.fits _ hmem2
              have hpe := hid hpe
              have hget := hid hget
              have hget2 := hid hget2
              obtain ⟨nb1, nb2, nb3⟩ := R.blks
              go_wp2_with fail
              refine (take_yes g mb n e s H hv _ R.m hget.out hs0' (by omega) he0' (by omega)).mono ?_
              rintro r w1 ⟨e1, s1, hc1, rfl, hM1, hu1⟩
              have hu1' := hu1.alloc (.cells #[.int .i64 e, .int .i64 s, .slice hv.A hv.rs.length hv.c] 42)
              have hM1' := hM1.alloc (.cells #[.int .i64 e, .int .i64 s, .slice hv.A hv.rs.length hv.c] 42)
              have ko := Blk.new w1 42 #[.int .i64 e, .int .i64 s, .slice hv.A hv.rs.length hv.c]
              have hR1 := R.r.upd hu1' (by rintro (h | h); exact nb1 h.symm; exact nb2 h.symm) (fun k hk h => by rcases h with h | h; exact (R.newS k hk).2.1 h; exact (R.newS k hk).2.2 h)
              have hz1 := hu1.size
              have hgl := R.r.blk.lt
              go_wp2_with fail
              refine (rtake_yes S gR n e s AL cL L hv2 _ hR1 (by omega) hget2.out hs0' (by omega) he0' (by omega)).mono ?_
              rintro r w2 ⟨e2, s2, S', AL', cL', hc2, hS', rfl, hR2, hu2⟩
              obtain ⟨rfl, rfl⟩ : e2 = e1 ∧ s2 = s1 := by omega
              have R2 := R.tak hc1 hM1' hu1' hR2 hS' (hu2.mono (M' := fun k => k = gR ∨ S k) fun _ _ h => .inl h)
              have R3 := R2.step ((Below.refl _ _).alloc (Nat.le_refl _) (.cells #[.int .i64 e, .int .i64 s, .slice hv2.A hv2.rs.length hv2.c] 42))
              have ko2 := (ko.upd hu2 (by omega)).alloc (.cells #[.int .i64 e, .int .i64 s, .slice hv2.A hv2.rs.length hv2.c] 42)
              have kp2 := Blk.new w2 42 #[.int .i64 e, .int .i64 s, .slice hv2.A hv2.rs.length hv2.c]
              have hP := (((R.m.plans _ hmem).keep (w' := w1.alloc (.cells #[.int .i64 e, .int .i64 s, .slice hv.A hv.rs.length hv.c] 42)) fun b hb hl => hu1'.block b hl (by
                have := R.m.out _ hmem b hb
                rintro (h | h); exact this.1 h; exact this.2.1 h)).keep (w' := w2) fun b hb hl => hu2.block b hl (R.newH _ hmem b hb).2.2).keep (w' := w2.alloc (.cells #[.int .i64 e, .int .i64 s, .slice hv2.A hv2.rs.length hv2.c] 42)) fun b _ hl => Below.heap_alloc _ _ _ hl
              have hP2 := (((R.r.plans _ hmem2).keep (w' := w1.alloc (.cells #[.int .i64 e, .int .i64 s, .slice hv.A hv.rs.length hv.c] 42)) fun b hb hl => hu1'.block b hl (by
                have := R.newS b hb
                rintro (h | h); exact this.2.1 h; exact this.2.2 h)).keep (w' := w2) fun b hb hl => hu2.block b hl (R.r.out b hb).1).keep (w' := w2.alloc (.cells #[.int .i64 e, .int .i64 s, .slice hv2.A hv2.rs.length hv2.c] 42)) fun b _ hl => Below.heap_alloc _ _ _ hl
              have x0 := ko2.cell 0
              have x1 := ko2.cell 1
              have x2 := ko2.cell 2
              have y0 := kp2.cell 0
              have y1 := kp2.cell 1
              have y2 := kp2.cell 2
              simp at x0 x1 x2 y0 y1 y2
              have hz := ko2.lt
              have hsm : Hid (eqO s s e e (plans hv.rs) (plans hv2.rs) = true) := by
                have : eqO s s e e (plans hv.rs) (plans hv2.rs) = true := by rw [hpe.out]; simp [eqO, eqB]
                exact hid this
              clear ko kp2 hc1 hc2 hM1 hM1' hR1 hR2
              go_wp2_with fail
              refine (rsame_any hv.S S hv.A hv2.A hv.rs hv2.rs e e s s hv.c hv2.c _ hP.ok' hP2.ok' hfo.1 hfo2.1 hfo.2 hfo2.2).mono ?_
              rw [hsm.out]
              rintro r w3 ⟨rfl, hb3⟩
              have R4 := R3.step hb3
              have hP3 := hP.keep (w' := w3) fun b _ hl => hb3.block b hl
              have z2 := (ko2.below_all hb3).cell 2
              simp at z2
              go_wp2_with fail
              refine (spoil_any hv.S hv.A hv.c hv.rs _ hP3 hfo.1 hfo.2).mono ?_
              rintro r w4 ⟨rfl, hu4⟩
              have R6 := R4.far hu4 (fun k hk => by
                have h1 := R.m.out _ hmem k hk
                have h2 := R.newH _ hmem k hk
                refine ⟨h2.1, h1.1, h1.2.1, h2.2.2, fun h => ?_, fun h hh h3 => hap h hh k hk h3⟩
                rcases hS' k h with h4 | h4
                · exact h2.2.1 h4
                · have := h1.2.2; simp at h4; omega)
              clear x0 x1 x2 y0 y1 y2 z2 a0 a1 a2 a3
              obtain ⟨_, m1, m2, _⟩ := R6.m.cells
              go_wp2_with fail
              refine (next_any g e2 s2 _ (by first | exact m1 | simpa using m1) (by first | exact m2 | simpa using m2)).mono ?_
              rintro r w5 ⟨rfl, hb5⟩
              have R5 := R6.step hb5
              obtain ⟨k0, k1, k2, k3⟩ := R5.m.cells
              obtain ⟨r0, r1, r2, r3⟩ := R5.r.cells
              have hlenB : (((hvals (delA (e, s) H)).length : Int) != ((delA (e, s) L).length : Int)) = false := by
                have h1 := congrArg List.length R5.eq
                rw [held_len, held_len] at h1
                simp [hvals, h1]
              have hgl := R5.r.blk.lt
              have hLl := R5.len
              have hn16 := R5.n16
              have hs0 := R5.s0
              have hsn := R5.sn
              have keepS : Hid (∀ w' : World, Below w5.heap.size w5 w' → w'.cell? ⟨gR, 1, none⟩ = some (.int .i64 e2) ∧ w'.cell? ⟨gR, 2, none⟩ = some (.int .i64 s2) ∧ w'.cell? ⟨gR, 3, none⟩ = some (.slice AL' (delA (e, s) L).length cL')) := fun w' hb =>
                ⟨(hb.cell (p := ⟨gR, 1, none⟩) hgl).trans r1, (hb.cell (p := ⟨gR, 2, none⟩) hgl).trans r2, (hb.cell (p := ⟨gR, 3, none⟩) hgl).trans r3⟩
              have hml := missL_len e2 (delA (e, s) L) s2 (n - s2).toNat
              have hmis : Hid (missL e2 (delA (e, s) H) s2 (n - s2).toNat = missL e2 (delA (e, s) L) s2 (n - s2).toNat) := missL_held' R5.eq _ _
              have hself : Hid (eqL (missL e2 (delA (e, s) L) s2 (n - s2).toNat) (missL e2 (delA (e, s) L) s2 (n - s2).toNat) = true) := by
                have : eqL (missL e2 (delA (e, s) L) s2 (n - s2).toNat) (missL e2 (delA (e, s) L) s2 (n - s2).toNat) = true := by simp [eqL]
                exact hid this
              go_wp2_with fail
              go_region_held3 (fun w' => w'.cell? ⟨gR, 1, none⟩ = some (.int .i64 e2) ∧ w'.cell? ⟨gR, 2, none⟩ = some (.int .i64 s2) ∧ w'.cell? ⟨gR, 3, none⟩ = some (.slice AL' (delA (e, s) L).length cL'))
                (first | exact keepS.out _ (below_drewN hq7 _) | exact keepS.out _ hq7 | exact keepS.out _ hq6 | exact keepS.out _ (Below.refl _ _).drew | exact keepS.out _ (Below.refl _ _))
                (first
                  | (go_at_call 23; refine (held_any g mb (hvals (delA (e, s) H)) w5.drew k3 (R5.step (Below.refl _ _).drew).m.map).mono ?_; rintro r w' ⟨rfl, rfl⟩)
                  | (go_at_call 25; refine (missing_any g mb n e2 s2 (delA (e, s) H) _ (R5.step (Below.refl _ _).drew).m hs0 (by omega) (by omega)).mono ?_; rintro r w6 ⟨A6, c6, rfl, hr6, hb6⟩; rw [hmis.out] at hr6 ⊢; have hq6 : Below w5.heap.size w5 w6 := ((Below.refl _ w5).drew).trans hb6)
                  | (go_at_call 26; refine (rmissing_any S' gR n e2 s2 AL' cL' (delA (e, s) L) _ (R5.step hq6).r (by omega) hs0 (by omega) (by omega)).mono ?_; rintro r w7 ⟨A7, c7, rfl, hr7, hb7⟩; have hq7 : Below w5.heap.size w5 w7 := hq6.trans (hb7.mono hq6.size))
                  | (go_at_call 24; refine (ints_any _ _ _ _ _ _ _ _ _ (hr6.below_all hb7) hr7 (by omega) (by omega)).mono ?_; rw [hself.out]; rintro r w8 ⟨rfl, q, rfl⟩))
              have R8 := R5.step (below_drewN hq7 q)
              go_wp2_with fail
              go_roundw
              case rel => exact ⟨i + 1, e2, s2, (delA (e, s) H), S', AL', cL', (delA (e, s) L), by go_num, hlt, R8⟩
              case measure => simp [intOf]; omega


          | false =>
            rw [htk] at a0
            obtain ⟨nb1, nb2, nb3⟩ := R.blks
            have hll := R.len
            have hgl := R.r.blk.lt
            have hgl2 := R.m.blk.lt
            have hgl3 := R.m.map.lt
            have hnew := R.new
            go_wp2_with fail
            refine (own_any _ us[i].A us[i].x us[i].c us[i].rs _ okp hrl hrf).mono ?_
            rintro r w1 ⟨A1, c1, rs1, ⟨hp0, rfl⟩, hown, hb1⟩
            have hp := hid hp0
            have hl1 : rs1.length ≤ 1000000000 := by have := congrArg List.length hp0; simp [plans] at this; omega
            have hf1 : ∀ r ∈ rs1, r.p.fits := fun r hr => by
              have hr' : r.p ∈ plans us[i].rs := by rw [← hp0]; exact List.mem_map.2 ⟨r, hr, rfl⟩
              obtain ⟨q, hq, hqe⟩ := List.mem_map.1 hr'
              rw [← hqe]; exact hrf q hq
            clear hp0
            have hz1 := hb1.size
            have hX : Below wr.heap.size wr (w1.alloc (.cells #[.int .i64 us[i].x, .slice A1 rs1.length c1] 34)) := hb1.alloc hz1 _
            have R1 := R.step hX
            have ko := Blk.new w1 34 #[.int .i64 us[i].x, .slice A1 rs1.length c1]
            have hP0 := PlansS.of_own hown
            have hP := hP0.keep (w' := w1.alloc (.cells #[.int .i64 us[i].x, .slice A1 rs1.length c1] 34)) fun b _ hl => Below.heap_alloc _ _ _ hl
            have b1 := (hX.cell (p := ⟨b, o + i * 4 + 1, none⟩) hbl).trans a1
            have b2 := (hX.cell (p := ⟨b, o + i * 4 + 2, none⟩) hbl).trans a2
            have b3 := (hX.cell (p := ⟨b, o + i * 4 + 3, none⟩) hbl).trans a3
            clear a0 a1 a2 a3 hP0 hown
            go_wp2_with fail
            have hzW : (w1.alloc (.cells #[.int .i64 us[i].x, .slice A1 rs1.length c1] 34)).heap.size = w1.heap.size + 1 := by simp
            have hzW := hid hzW
            generalize w1.alloc (.cells #[.int .i64 us[i].x, .slice A1 rs1.length c1] 34) = W2 at *
            have hz2 : w1.heap.size < W2.heap.size := by have := hzW.out; omega
            have d0 : W2.cell? ⟨w1.heap.size, 0, none⟩ = some (.int .i64 us[i].x) := ko.cell 0
            have d1 : W2.cell? ⟨w1.heap.size, 1, none⟩ = some (.slice A1 rs1.length c1) := ko.cell 1
            have keepS : Hid (∀ w' : World, (∀ k, (k = b ∨ k = w1.heap.size) → w'.heap[k]? = W2.heap[k]?) → w'.cell? ⟨b, o + i * 4 + 1, none⟩ = some (.int .i64 us[i].s) ∧ w'.cell? ⟨b, o + i * 4 + 2, none⟩ = some (.int .i64 us[i].x) ∧ w'.cell? ⟨b, o + i * 4 + 3, none⟩ = some (.slice us[i].A us[i].rs.length us[i].c) ∧ w'.cell? ⟨w1.heap.size, 0, none⟩ = some (.int .i64 us[i].x) ∧ w'.cell? ⟨w1.heap.size, 1, none⟩ = some (.slice A1 rs1.length c1)) := fun w' h =>
              ⟨(World.cell?_of_block (w := W2) (a := ⟨b, o + i * 4 + 1, none⟩) (h b (.inl rfl))).trans b1, (World.cell?_of_block (w := W2) (a := ⟨b, o + i * 4 + 2, none⟩) (h b (.inl rfl))).trans b2, (World.cell?_of_block (w := W2) (a := ⟨b, o + i * 4 + 3, none⟩) (h b (.inl rfl))).trans b3,
                (World.cell?_of_block (w := W2) (a := ⟨w1.heap.size, 0, none⟩) (h _ (.inr rfl))).trans d0, (World.cell?_of_block (w := W2) (a := ⟨w1.heap.size, 1, none⟩) (h _ (.inr rfl))).trans d1⟩
            have hcode : Hid (arrCode n e s (held H) us[i].x us[i].s (plans rs1) = arrCode n e s (held L) us[i].x us[i].s (plans us[i].rs)) := by
              have : arrCode n e s (held H) us[i].x us[i].s (plans rs1) = arrCode n e s (held L) us[i].x us[i].s (plans us[i].rs) := by rw [R.eq, hp.out]
              exact hid this
            have heqB : Hid (eqB us[i].x us[i].x (plans rs1) (plans us[i].rs) = true) := by
              have : eqB us[i].x us[i].x (plans rs1) (plans us[i].rs) = true := by rw [hp.out]; simp [eqB]
              exact hid this
            have R1d := R1.step (Below.refl _ _).drew
            have hPd := hP.keep (w' := W2.drew) fun _ _ _ => rfl
            have hokW := ha.ok _ (List.getElem_mem hlt)
            go_region_held3 (fun w' => w'.cell? ⟨b, o + i * 4 + 1, none⟩ = some (.int .i64 us[i].s) ∧ w'.cell? ⟨b, o + i * 4 + 2, none⟩ = some (.int .i64 us[i].x) ∧ w'.cell? ⟨b, o + i * 4 + 3, none⟩ = some (.slice us[i].A us[i].rs.length us[i].c) ∧ w'.cell? ⟨w1.heap.size, 0, none⟩ = some (.int .i64 us[i].x) ∧ w'.cell? ⟨w1.heap.size, 1, none⟩ = some (.slice A1 rs1.length c1))
              (first | exact keepS.out _ hq5.out | exact keepS.out _ hq4.out | exact keepS.out _ hq3.out | exact keepS.out _ (fun _ _ => rfl))
              (first
                | (go_at_call 11; refine (arrive_all _ g mb n e s us[i].x us[i].s H A1 c1 rs1 W2.drew R1d.m R.e0 hrx hPd.ok' hl1 hf1).mono ?_; rintro r w3 ⟨H', rfl, hM', hH', hHn, hu3⟩; rw [hcode.out]
                   have hz3 := hu3.size
                   have hq3 : Hid (∀ k, (k = b ∨ k = w1.heap.size) → w3.heap[k]? = W2.heap[k]?) := fun k hk => hu3.block k (by rcases hk with h | h <;> subst h <;> simp <;> omega) (by rcases hk with h | h <;> omega)
                   have hB3 : Below W.heap.size W w3 := R1d.below.trans (hu3.below R1d.below.size fun k hk h => by omega))
                | (go_at_call 7; refine (mnum_any _ _).mono ?_; rintro r w' ⟨rfl, rfl⟩)
                | (go_at_call 20; refine (rarrive_all _ S gR n e s us[i].x us[i].s AL cL L us[i].A us[i].c us[i].rs w3 (R1d.r.upd hu3 (fun h => nb2 h.symm) (fun k hk h => (R.newS k hk).2.2 h)) (by omega) R.e0 hrx (hokW.keep fun b hb _ => hB3.block b hb) hrl hrf).mono ?_; rintro r w4 ⟨S', AL', cL', L', rfl, hR', hL', hS', hu4⟩
                   have hz4 := hu4.size
                   have hq4 : Hid (∀ k, (k = b ∨ k = w1.heap.size) → w4.heap[k]? = W2.heap[k]?) := fun k hk => (hu4.block k (by have := hu3.size; simp at this; rcases hk with h | h <;> subst h <;> omega) (by
                     rintro (h | h)
                     · rcases hk with h2 | h2 <;> omega
                     · have h3 := R.newS k h
                       have h4 := (R.r.out k h).2
                       rcases hk with h2 | h2 <;> omega)).trans (hq3.out k hk)
                   have hB4 : Below W.heap.size W w4 := hB3.trans (hu4.below hB3.size fun k hk h => by
                     rcases h with h | h
                     · omega
                     · have := (R.newS k h).1; omega)
                   have hP4 := (hPd.keep (w' := w3) fun k hk hl => hu3.block k hl (by have := hk.1; omega)).keep (w' := w4) fun k hk hl => hu4.block k hl (by
                     rintro (h | h)
                     · have := hk.1; omega
                     · have h4 := (R.r.out k h).2; have := hk.1; omega))
                | (go_at_call 21; refine (batches_any _ _ A1 us[i].A rs1 us[i].rs us[i].x us[i].x c1 us[i].c w4 hP4.ok' (hokW.keep fun b hb _ => hB4.block b hb) hl1 hrl hf1 hrf).mono ?_; rw [heqB.out]; rintro r w5 ⟨rfl, hb5⟩
                   have hq5 : Hid (∀ k, (k = b ∨ k = w1.heap.size) → w5.heap[k]? = W2.heap[k]?) := fun k hk => (hb5.block k (by have h3 := hu3.size; simp at h3; rcases hk with h | h <;> subst h <;> omega)).trans (hq4.out k hk)))
            have RA := (R1d.arr hM' hH' hHn hu3 hR' (by rw [hp.out]; exact hL') hS' hu4).step hb5
            have hP5 := hP4.keep (w' := w5) fun k _ hl => hb5.block k hl
            obtain ⟨e1, e2, e3, e4, e5⟩ := keepS.out _ hq5.out
            clear b1 b2 b3 d0 d1
            go_wp2_with fail
            refine (spoil_any _ A1 c1 rs1 _ hP5 hl1 hf1).mono ?_
            rintro r w6 ⟨rfl, hu6⟩
            have RB := RA.far hu6 (fun k hk => by
              have hk1 : wr.heap.size ≤ k := hk.1
              have hk2 : k < w1.heap.size := hk.2
              have hw := R.below.size
              refine ⟨by omega, by omega, by omega, by omega, fun h => ?_, fun h hh h3 => ?_⟩
              · rcases hS' k h with h4 | h4
                · have := (R.r.out k h4).2; omega
                · have := hu3.size; simp at this; omega
              · rcases hHn h hh with h4 | h4
                · have := (R.m.out h h4 k h3).2.2; omega
                · have := h4 k h3; simp at this; omega)
            clear e1 e2 e3 e4 e5
            obtain ⟨_, m1, m2, _⟩ := RB.m.cells
            go_wp2_with fail
            refine (next_any g e s _ (by first | exact m1 | simpa using m1) (by first | exact m2 | simpa using m2)).mono ?_
            rintro r w5 ⟨rfl, hb5⟩
            have R5 := RB.step hb5
            obtain ⟨k0, k1, k2, k3⟩ := R5.m.cells
            obtain ⟨r0, r1, r2, r3⟩ := R5.r.cells
            have hlenB : (((hvals H').length : Int) != (L'.length : Int)) = false := by
              have h1 := congrArg List.length R5.eq
              rw [held_len, held_len] at h1
              simp [hvals, h1]
            have hgl := R5.r.blk.lt
            have hLl := R5.len
            have hn16 := R5.n16
            have hs0 := R5.s0
            have hsn := R5.sn
            have keepS : Hid (∀ w' : World, Below w5.heap.size w5 w' → w'.cell? ⟨gR, 1, none⟩ = some (.int .i64 e) ∧ w'.cell? ⟨gR, 2, none⟩ = some (.int .i64 s) ∧ w'.cell? ⟨gR, 3, none⟩ = some (.slice AL' L'.length cL')) := fun w' hb =>
              ⟨(hb.cell (p := ⟨gR, 1, none⟩) hgl).trans r1, (hb.cell (p := ⟨gR, 2, none⟩) hgl).trans r2, (hb.cell (p := ⟨gR, 3, none⟩) hgl).trans r3⟩
            have hml := missL_len e L' s (n - s).toNat
            have hmis : Hid (missL e H' s (n - s).toNat = missL e L' s (n - s).toNat) := missL_held' R5.eq _ _
            have hself : Hid (eqL (missL e L' s (n - s).toNat) (missL e L' s (n - s).toNat) = true) := by
              have : eqL (missL e L' s (n - s).toNat) (missL e L' s (n - s).toNat) = true := by simp [eqL]
              exact hid this
            go_wp2_with fail
            go_region_held3 (fun w' => w'.cell? ⟨gR, 1, none⟩ = some (.int .i64 e) ∧ w'.cell? ⟨gR, 2, none⟩ = some (.int .i64 s) ∧ w'.cell? ⟨gR, 3, none⟩ = some (.slice AL' L'.length cL'))
              (first | exact keepS.out _ (below_drewN hq7 _) | exact keepS.out _ hq7 | exact keepS.out _ hq6 | exact keepS.out _ (Below.refl _ _).drew | exact keepS.out _ (Below.refl _ _))
              (first
                | (go_at_call 23; refine (held_any g mb (hvals H') w5.drew k3 (R5.step (Below.refl _ _).drew).m.map).mono ?_; rintro r w' ⟨rfl, rfl⟩)
                | (go_at_call 25; refine (missing_any g mb n e s H' _ (R5.step (Below.refl _ _).drew).m hs0 (by omega) (by omega)).mono ?_; rintro r w6 ⟨A6, c6, rfl, hr6, hb6⟩; rw [hmis.out] at hr6 ⊢; have hq6 : Below w5.heap.size w5 w6 := ((Below.refl _ w5).drew).trans hb6)
                | (go_at_call 26; refine (rmissing_any S' gR n e s AL' cL' L' _ (R5.step hq6).r (by omega) hs0 (by omega) (by omega)).mono ?_; rintro r w7 ⟨A7, c7, rfl, hr7, hb7⟩; have hq7 : Below w5.heap.size w5 w7 := hq6.trans (hb7.mono hq6.size))
                | (go_at_call 24; refine (ints_any _ _ _ _ _ _ _ _ _ (hr6.below_all hb7) hr7 (by omega) (by omega)).mono ?_; rw [hself.out]; rintro r w8 ⟨rfl, q, rfl⟩))
            have R8 := R5.step (below_drewN hq7 q)
            go_wp2_with fail
            go_roundw
            case rel => exact ⟨i + 1, e, s, H', S', AL', cL', L', by go_num, hlt, R8⟩
            case measure => simp [intOf]; omega


        · obtain rfl : i = us.length := by omega
          go_wp2_with (go_at_call 8; refine (live_any _).mono ?_; rintro e w3 ⟨rfl, hb3⟩)
          go_ret
          exact ⟨rfl, R.below.trans (hb3.mono R.below.size)⟩

end Go.Proofs.Ytlnlffpkdeaimaa
