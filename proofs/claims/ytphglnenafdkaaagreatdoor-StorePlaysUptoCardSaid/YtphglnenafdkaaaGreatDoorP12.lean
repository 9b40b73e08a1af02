/- Texts of the proof, joined: SPlays, SLift, SOpen, LawOf, SLaid, SLaidE. -/
import Derived.Test.YtphglnenafdkaaaGreatDoorP11
import Derived.Test.YtphglnenafdkaaaGreatDoorP08
import Derived.Deep.Slices
import Derived.Lib.SmallJoins
import Derived.Test.YtphglnenafdkaaaGreatDoorP01
import Derived.ProofKit
import Derived.OpenShut
import Derived.JoinedCond
import Derived.Test.YtphglnenafdkaaaGreatDoorRows
import Derived.Stop.LaidErr
import Derived.Lib.LaidTab
import Derived.Lib.ItoaNum
import Derived.LaidLaws
import Derived.Deep.DeepHandedRow
import Derived.Test.YtphglnenafdkaaaGreatDoorP07
namespace Go.Proofs.YtphglnenafdkaaaGreatDoor
open Go.RowKit
set_option linter.unusedVariables false
set_option linter.unusedSimpArgs false

theorem info_pv : (Tryz.prog.info? 55).map (fun i => (i.zero, i.size, i.bytes)) = some (some (.pointer none), 1, 8) := by kernel_rfl
theorem info_pr : (Tryz.prog.info? 29).map (fun i => (i.zero, i.size, i.bytes)) = some (some (.pointer none), 1, 8) := by kernel_rfl
/-- a row's block -/
def RowM (A : Option Addr) (q : Nat) : Prop := ∃ o t, A = some ⟨q, o, t⟩
/-- a row's block: its type, where it lies -/
structure RowR (base hi : Nat) (w : World) (e : TypeId) (A : Option Addr) : Prop where
  ge : ∀ {q}, RowM A q → base ≤ q
  lt : ∀ {q}, RowM A q → q < hi
  ty : ∀ q, RowM A q → ∃ cur, Blk w q e cur
/-- a row that is still whole from its k-th on -/
def RowK (w : World) (e : TypeId) (size : Nat) (A : Option Addr) (n k : Nat) (xs : List Value) : Prop := k < n → ∃ b cs, A = some ⟨b, 0, none⟩ ∧ Blk w b e cs ∧ ∀ j u, k * size ≤ j → xs[j]? = some u → cs[j]? = some u
section
variable {w w' : World} {base lo hi : Nat} {e : TypeId} {size n : Nat} {A : Option Addr} {xs : List Value}
theorem RowR.ne {b : Nat} {t : TypeId} {cs : Array Value} (h : RowR base hi w e A) (hb : Blk w b t cs) (hne : e ≠ t) : ¬ RowM A b := fun hm => by
  obtain ⟨cur, hc⟩ := h.ty b hm
  exact hc.ne_ hb hne rfl
theorem RowR.of (h : RowT w lo e A) (hk : Keep lo w.heap.size w w') : RowR lo w.heap.size w' e A where
  ge := fun ⟨o, t, hA⟩ => (h _ o t hA).1
  lt := fun ⟨o, t, hA⟩ => by obtain ⟨_, _, _, cur, hc⟩ := h _ o t hA; exact hc.lt
  ty := fun q ⟨o, t, hA⟩ => by obtain ⟨h1, _, _, cur, hc⟩ := h _ o t hA; exact ⟨cur, (hk q h1 hc.lt).trans hc⟩
theorem RowR.updM {M : Nat → Prop} (h : RowR base hi w e A) (hu : Upd M w w') (hM : ∀ q cs, Blk w q e cs → ¬ M q) : RowR base hi w' e A where
  ge := h.ge
  lt := h.lt
  ty := fun q hq => by obtain ⟨cur, hc⟩ := h.ty q hq; exact ⟨cur, hc.upd hu (hM q cur hc)⟩
theorem RowK.of {S : Nat → Prop} (hr : Rd S w size A n xs) (h : RowT w lo e A) (hk : Keep lo w.heap.size w w') : RowK w' e size A n 0 xs := fun hn => by
  obtain ⟨b, o, hA, _, hl, hc⟩ := hr.2 hn
  obtain ⟨h1, rfl, _, cur, hb⟩ := h _ o _ hA
  refine ⟨b, cur, hA, (hk b h1 hl).trans hb, fun j u _ hu => ?_⟩
  have := hc j u hu
  rw [Nat.zero_add, hb.cell j] at this
  exact this
theorem RowK.upd {M : Nat → Prop} {k : Nat} (h : RowK w e size A n k xs) (hu : Upd M w w') (hM : ∀ b cs, A = some ⟨b, 0, none⟩ → Blk w b e cs → ¬ M b) : RowK w' e size A n k xs := fun hn => by
  obtain ⟨b, cs, h1, h2, h3⟩ := h hn
  exact ⟨b, cs, h1, h2.upd hu (hM b cs h1 h2), h3⟩
end
section
variable {w : World}
set_option maxRecDepth 100000 in
set_option maxHeartbeats 16000000 in
theorem plays_any (p r : Int) {A : Option Addr} {c : Nat} {us : List SA} (h : SActs (fun b => b < w.heap.size) w A us) (hn : us.length ≤ 1048576) (hp : partsA us ≤ 1048576) (hz0 : ∀ a ∈ us, okKs a.ks ∧ okWs a.ws) (hv0 : ∀ a ∈ us, ∀ x ∈ a.ws, x.v.rng) (he : Env w)
    {D : Option Addr} {d : Nat} (ks : List ByteArray) (hks0 : Rd (fun b => b < w.heap.size) w 1 D ks.length (strs ks)) (hok0 : okKs ks) (hkn0 : ks.length ≤ 1048576) :
    Calls Tryz.prog 4 #[.agg #[.int .i64 p, .int .i64 r, .slice A us.length c], .slice D ks.length d] w fun e w' => e = .returned (.bool true) ∧ Below w.heap.size w w' := by
  have hB0 : Below w.heap.size w (w.alloc (.cells #[.int .i64 p, .int .i64 r, .slice A us.length c] 24)) := (Below.refl _ _).alloc (Nat.le_refl _) _
  have kb := hid (Blk.new w 24 #[.int .i64 p, .int .i64 r, .slice A us.length c])
  have hs := hid (h.below hB0)
  have hB1w := hid hB0
  have hE := hid he
  have hlong := hid (long_any (c := c) p r (h.below hB0) hn hp)
  have hz := hid hz0
  have hv := hid hv0
  have hks := hid hks0
  have hok := hid hok0
  have hkn1 := hid hkn0
  clear h hB0 hn hp he hz0 hv0 hks0 hok0 hkn0
  go_enter Tryz.func4, Tryz.ntmps4
  go_upto_region 1 with fail
  generalize hW1 : w.alloc (.cells #[.int .i64 p, .int .i64 r, .slice A us.length c] 24) = w1 at *
  have hsz1 : Hid (w1.heap.size = w.heap.size + 1) := hid (by rw [← hW1]; simp)
  clear hW1
  have x0 := kb.out.cell 0
  have x1 := kb.out.cell 1
  have x2 := kb.out.cell 2
  simp only [List.getElem?_toArray, List.getElem?_cons_zero, List.getElem?_cons_succ] at x0 x1 x2
  go_wp2_with fail
  refine hlong.out.mono ?_
  rintro e w2 ⟨rfl, hb2⟩
  have kb2 := hid (kb.out.below_all hb2)
  have hB2 := hid hb2
  have hBw2 := hid (hB1w.out.trans (hb2.mono (by have := hsz1.out; omega)))
  clear hb2 hlong x0 x1 x2
  cases hl : longB us with
  | true =>
    clear hl
    go_wp2_with fail
    go_ret
    exact ⟨rfl, hBw2.out⟩
  | false =>
  obtain ⟨hn0, hp0⟩ := long_no hl
  have hn := hid hn0
  have hp := hid hp0
  clear hl hn0 hp0
  by_cases h1 : 200 < ks.length
  · have t1 : decide ((200 : Int) < (ks.length : Int)) = true := decide_eq_true (by omega)
    have t1n : decide (200 < ks.length) = true := decide_eq_true h1
    clear h1
    go_wp2_with fail
    go_ret
    exact ⟨rfl, hBw2.out⟩
  have t1 : decide ((200 : Int) < (ks.length : Int)) = false := decide_eq_false (by omega)
  have t1n : decide (200 < ks.length) = false := decide_eq_false h1
  have hkn := hid (show ks.length ≤ 200 by omega)
  clear h1 hkn1
  have x0 := kb2.out.cell 0
  have x1 := kb2.out.cell 1
  simp only [List.getElem?_toArray, List.getElem?_cons_zero, List.getElem?_cons_succ] at x0 x1
  cases hg : goodPR p r with
  | false =>
    have hbd := fun W => hid (new_bad p r W hg)
    have hbd2 := fun W => hid (rnew_bad p r W hg)
    clear hg
    go_wp2_with fail
    refine (hbd _).out.mono ?_
    rintro e wq ⟨rfl, hwq⟩
    obtain rfl := hwq.symm
    go_wp2_with fail
    refine (hbd2 _).out.mono ?_
    rintro e wq ⟨rfl, hwq⟩
    obtain rfl := hwq.symm
    go_wp2_with fail
    refine (num_any _ _).mono ?_
    rintro e wq ⟨rfl, hwq⟩
    obtain rfl := hwq.symm
    go_wp2_with fail
    refine (live_any _).mono ?_
    rintro e wl ⟨rfl, hbl⟩
    have hfb := hid (hBw2.out.trans (hbl.mono hBw2.out.size))
    clear hbl
    go_wp2_with fail
    go_ret
    exact ⟨rfl, hfb.out⟩
  | true =>
  obtain ⟨p, r, rfl, rfl, hp1, hr1⟩ := good_pr hg
  have n1 := fun W => hid (new_ok p r W hp1 hr1)
  have n2 := fun W => hid (rnew_ok p r W hp1 hr1)
  clear hg hp1 hr1
  go_wp2_with fail
  refine (n1 _).out.mono ?_
  rintro e w3 ⟨S, g, rfl, hP3, hg3, hb3⟩
  have hB3 := hid (hB2.out.trans (hb3.mono hB2.out.size))
  have hP3 := hid hP3
  have hg3 := hid hg3
  have kb3 := hid (kb2.out.below_all hb3)
  clear hb3 x0 x1 kb2
  have x0 := kb3.out.cell 0
  have x1 := kb3.out.cell 1
  simp only [List.getElem?_toArray, List.getElem?_cons_zero, List.getElem?_cons_succ] at x0 x1
  go_wp2_with fail
  refine (n2 _).out.mono ?_
  rintro e w4 ⟨S2, g', rfl, hP4, hg4, hb4⟩
  have hB4 := hid (hB3.out.trans (hb4.mono hB3.out.size))
  have R4 : Hid (PRel w1.heap.size w4 g g' ⟨p, r, []⟩ (.slice none 0 0) (.slice none 0 0) 0 0 0) := hid ⟨S, S2, fun _ => False, [], [], ⟨hP3.out.below hb4, hP4, fun q hq => ?_, fun j hj h2 => ?_, fun x hx => (by cases hx), fun x hx => (by cases hx), fun j hj => hj.elim, World.ownsRow_nil _ _ _ _, World.ownsRow_nil _ _ _ _, fun q hq => (by cases hq), fun q hq => (by cases hq), fun q h1 h2 => (by omega), Nat.zero_le _⟩, rfl, Nat.le_refl _⟩
  rotate_left
  · rcases hq with hq | hq
    · have := hg3.out q hq; have := hB2.out.size; omega
    · have := hg4 q hq; have := hB3.out.size; omega
  · have := hg4 j h2; have := hP3.out.lt j hj; omega
  have hR0 : Hid (RngL (St.mk p r []).L) := hid (fun x hx => by cases hx)
  clear hb4 hP4 hg4 hP3 hg3 hB3 x0 x1 kb3 n1 n2 hBw2 hB2
  go_wp2_with fail
  refine (num_any _ _).mono ?_
  rintro e wq ⟨rfl, hwq⟩
  obtain rfl := hwq.symm
  go_wp2_with fail
  refine (live_any _).mono ?_
  rintro e w4b ⟨rfl, hb4⟩
  have R5 := hid (R4.out.below hb4)
  have hB5 := hid (hB4.out.trans (hb4.mono hB4.out.size))
  clear hb4 R4 hB4
  go_wp2_with fail
  go_loopw [9, 10, 11] (fun v1 v2 v wr => ∃ (x1 x2 : Value) (k : Nat) (s : St) (lo hi : Nat), x1 = v1 ∧ x2 = v2 ∧ v = .int .i64 k ∧ k ≤ us.length ∧ PRel w1.heap.size wr g g' s x1 x2 lo hi k ∧ RngL s.L ∧ Below w1.heap.size w1 wr) (fun _ _ v _ => us.length - (intOf v).toNat)
  case atStart => exact ⟨_, _, 0, _, 0, 0, rfl, rfl, rfl, Nat.zero_le _, R5.out, hR0.out, hB5.out⟩
  case round =>
    clear R5 hR0 hB5
    obtain ⟨v1, v2, k, s, lo0, hi0, rfl, rfl, rfl, hk, R0, hRs0, hb0⟩ := hrel
    have R := hid R0
    have hRs := hid hRs0
    have hB := hid hb0
    clear R0 hRs0 hb0
    have x2 : wr.cell? ⟨w.heap.size, 2, none⟩ = some (.slice A us.length c) := (kb.out.below_all hB.out).cell 2
    by_cases hlt : k < us.length
    · have i1 : (k : Int) < (us.length : Int) := by omega
      obtain ⟨b, o, rfl, _, hbl, hokx, y0, y1, y2⟩ := hs.out.at_ hlt
      have hyy : Hid (∀ w', Below w1.heap.size w1 w' → w'.cell? ⟨w.heap.size, 2, none⟩ = some (.slice (some ⟨b, o, none⟩) us.length c) ∧ w'.cell? ⟨b, o + k * 3, none⟩ = some (.int .i64 us[k].kind) ∧ w'.cell? ⟨b, o + k * 3 + 1, none⟩ = some (.slice us[k].A1 us[k].ks.length us[k].c1) ∧ w'.cell? ⟨b, o + k * 3 + 2, none⟩ = some (.slice us[k].A2 us[k].ws.length us[k].c2) ∧ us[k].ok (fun b => b < w1.heap.size) w') := hid fun w' h => ⟨(kb.out.below_all h).cell 2, cell_bel h (by have := hsz1.out; omega) y0, cell_bel h (by have := hsz1.out; omega) y1, cell_bel h (by have := hsz1.out; omega) y2, (hokx.1.all.below_all h), (hokx.2.all.below_all h)⟩
      clear y0 y1 y2 hokx x2
      have hpk := hid (hp.out us[k] (List.getElem_mem hlt))
      have hzk := hid (hz.out us[k] (List.getElem_mem hlt))
      have hvk := hid (hv.out us[k] (List.getElem_mem hlt))
      generalize us[k] = a at *
      have hltH := hid hlt
      have ik : IntKind.i64.wrap ((k : Int) + 1) = (k : Int) + 1 := by rw [IntKind.wrap_i64]; have := hn.out; omega
      obtain ⟨x2, y0, y1, y2, hok9⟩ := hyy.out wr hB.out
      have hok9 := hid hok9
      go_wp2_with fail
      refine (own_anyW a hok9.out (by have := hpk.out.1; omega) (by have := hpk.out.2; omega)).mono ?_
      rintro e w4 ⟨B1, d1, B2, d2, rfl, hr1, hr2, ht1, ht2, hb4⟩
      have hb5 : Below wr.heap.size wr (w4.alloc (.cells #[.int .i64 a.kind, .slice B1 a.ks.length d1, .slice B2 a.ws.length d2] 51)) := hb4.alloc hb4.size _
      have k9 := hid (Blk.new w4 51 #[.int .i64 a.kind, .slice B1 a.ks.length d1, .slice B2 a.ws.length d2])
      have hr1 := hid (hr1.alloc (.cells #[.int .i64 a.kind, .slice B1 a.ks.length d1, .slice B2 a.ws.length d2] 51))
      have hr2 := hid (hr2.alloc (.cells #[.int .i64 a.kind, .slice B1 a.ks.length d1, .slice B2 a.ws.length d2] 51))
      have ht1 := hid (ht1.below_all ((Below.refl w4.heap.size w4).alloc (Nat.le_refl _) (.cells #[.int .i64 a.kind, .slice B1 a.ks.length d1, .slice B2 a.ws.length d2] 51)))
      have ht2 := hid (ht2.below_all ((Below.refl w4.heap.size w4).alloc (Nat.le_refl _) (.cells #[.int .i64 a.kind, .slice B1 a.ks.length d1, .slice B2 a.ws.length d2] 51)))
      have R9 := hid (R.out.range hb5)
      have hB5 := hid (hB.out.trans (hb5.mono hB.out.size))
      have hs4 := hid hb4.size
      have hs1r := hid hB.out.size
      clear hb4 hb5 R hB x2 y0 y1 y2 hok9 hk hlt
      go_upto_block 2 with fail
      generalize hW5 : w4.alloc (.cells #[.int .i64 a.kind, .slice B1 a.ks.length d1, .slice B2 a.ws.length d2] 51) = w5 at *
      have hn9 : Hid (wr.heap.size ≤ w4.heap.size ∧ w4.heap.size < w5.heap.size) := hid ⟨hs4.out, by rw [← hW5]; simp⟩
      clear hW5 hs4
      generalize w4.heap.size = n9 at *
      have c0 : w5.cell? ⟨n9, 0, none⟩ = some (.int .i64 a.kind) := k9.out.cell 0
      go_cut [9, 10] (fun v1 v2 wx => ∃ (s' : St) (x1 x2 : Value), x1 = v1 ∧ x2 = v2 ∧ PRel w1.heap.size wx g g' s' x1 x2 wr.heap.size w5.heap.size (k + 1) ∧ RngL s'.L ∧ Keep wr.heap.size w5.heap.size w5 wx ∧ Below w1.heap.size w1 wx)
      case first =>
        obtain ⟨S, S2, V, As, Bs, hin, hsn0, hAk0⟩ := R9.out
        have R := hid hin
        have hsn := hid hsn0
        have hAk := hid hAk0
        have hAs := hid (show As.length ≤ 1000000 by have := hn.out; have := hltH.out; omega)
        have hBl := hid (show Bs.length ≤ 1000000 by have := congrArg List.length hsn0; simp at this; have := hn.out; have := hltH.out; omega)
        have hBs := hid hB5.out.size
        clear hin hsn0 hAk0 R9
        by_cases e1 : a.kind = 1
        · as_aux_lemma =>
            have t1 : (a.kind == 1) = true := by rw [e1]; rfl
            have t2 : (a.kind == 2) = false := by rw [e1]; rfl
            have t3 : (a.kind == 3) = false := by rw [e1]; rfl
            clear e1
            have c1 : w5.cell? ⟨n9, 1, none⟩ = some (.slice B1 a.ks.length d1) := k9.out.cell 1
            go_upto_region 17 with fail
            refine wp_region_held_drew (S := fun w' => Below w1.heap.size w1 w' ∧ w'.cell? ⟨n9, 1, none⟩ = some (.slice B1 a.ks.length d1)) (by kernel_rfl) ?_ (fun hHeld => ?_)
            · exact ⟨hB5.out.drew, c1⟩
            have hbd := hid ((Below.refl w5.heap.size w5).drew)
            have Rd5 := hid (R.out.below hbd.out)
            have Kd5 := hid (Keep.below (lo := wr.heap.size) (hi := w5.heap.size) hbd.out (Nat.le_refl _))
            have hrd5 := hid ((hr1.out.more (S' := fun b => wr.heap.size ≤ b ∧ b < w5.heap.size) fun b hb hl => ⟨hb, hl⟩).below_all hbd.out)
            have hBd5 := hid (hB5.out.trans (hbd.out.mono hB5.out.size))
            generalize World.drew w5 = wd at *
            clear hbd c1
            refine wpAnyH_take (i := 0) (v := ?v58) rfl (by kernel_rfl) (by kernel_rfl) (by kernel_rfl) (fun _ _ _ h => h) (Or.inl ⟨by rfl, ?hy58⟩) (by assumption) ?rest58
            case hy58 => intro w' hSw; have c1 := hSw.2; obtain ⟨x2, y0, y1, y2, hokx⟩ := hyy.out w' hSw.1; (try dsimp only at hSw); go_simp; try with_reducible rfl
            (try simp only [Act.put, List.setIfInBounds_toArray, List.set_cons_zero, List.set_cons_succ, List.getElem_toArray, List.getElem_cons_zero, List.getElem_cons_succ])
            refine wpAnyH_take (i := 1) (v := ?v59) rfl (by kernel_rfl) (by kernel_rfl) (by kernel_rfl) (fun _ _ _ h => h) (Or.inl ⟨by rfl, ?hy59⟩) (by assumption) ?rest59
            case hy59 => intro w' hSw; have c1 := hSw.2; obtain ⟨x2, y0, y1, y2, hokx⟩ := hyy.out w' hSw.1; (try dsimp only at hSw); go_simp; try with_reducible rfl
            (try simp only [Act.put, List.setIfInBounds_toArray, List.set_cons_zero, List.set_cons_succ, List.getElem_toArray, List.getElem_cons_zero, List.getElem_cons_succ])
            refine wpAnyH_take (i := 2) (v := ?v60) rfl (by kernel_rfl) (by kernel_rfl) (by kernel_rfl) (fun _ _ _ h => h) (Or.inl ⟨by rfl, ?hy60⟩) (by assumption) ?rest60
            case hy60 => intro w' hSw; have c1 := hSw.2; obtain ⟨x2, y0, y1, y2, hokx⟩ := hyy.out w' hSw.1; (try dsimp only at hSw); go_simp; try with_reducible rfl
            (try simp only [Act.put, List.setIfInBounds_toArray, List.set_cons_zero, List.set_cons_succ, List.getElem_toArray, List.getElem_cons_zero, List.getElem_cons_succ])
            refine wpAnyH_take (i := 5) (v := ?v61) rfl (by kernel_rfl) (by kernel_rfl) (by kernel_rfl) (fun _ _ _ h => h) (Or.inl ⟨by rfl, ?hy61⟩) (by assumption) ?rest61
            case hy61 => intro w' hSw; have c1 := hSw.2; obtain ⟨x2, y0, y1, y2, hokx⟩ := hyy.out w' hSw.1; (try dsimp only at hSw); go_simp; try with_reducible rfl
            (try simp only [Act.put, List.setIfInBounds_toArray, List.set_cons_zero, List.set_cons_succ, List.getElem_toArray, List.getElem_cons_zero, List.getElem_cons_succ])
            refine wpAnyH_take (i := 6) (v := ?v62) rfl (by kernel_rfl) (by kernel_rfl) (by kernel_rfl) (fun _ _ _ h => h) (Or.inl ⟨by rfl, ?hy62⟩) (by assumption) ?rest62
            case hy62 => intro w' hSw; have c1 := hSw.2; obtain ⟨x2, y0, y1, y2, hokx⟩ := hyy.out w' hSw.1; (try dsimp only at hSw); go_simp; try with_reducible rfl
            (try simp only [Act.put, List.setIfInBounds_toArray, List.set_cons_zero, List.set_cons_succ, List.getElem_toArray, List.getElem_cons_zero, List.getElem_cons_succ])
            refine wpAnyH_take (i := 7) (v := ?v63) rfl (by kernel_rfl) (by kernel_rfl) (by kernel_rfl) (fun _ _ _ h => h) (Or.inl ⟨by rfl, ?hy63⟩) (by assumption) ?rest63
            case hy63 => intro w' hSw; have c1 := hSw.2; obtain ⟨x2, y0, y1, y2, hokx⟩ := hyy.out w' hSw.1; (try dsimp only at hSw); go_simp; try with_reducible rfl
            (try simp only [Act.put, List.setIfInBounds_toArray, List.set_cons_zero, List.set_cons_succ, List.getElem_toArray, List.getElem_cons_zero, List.getElem_cons_succ])
            refine wpAnyH_take (i := 8) (v := ?v64) rfl (by kernel_rfl) (by kernel_rfl) (by kernel_rfl) (fun _ _ _ h => h) (Or.inl ⟨by rfl, ?hy64⟩) (by assumption) ?rest64
            case hy64 => intro w' hSw; have c1 := hSw.2; obtain ⟨x2, y0, y1, y2, hokx⟩ := hyy.out w' hSw.1; (try dsimp only at hSw); go_simp; try with_reducible rfl
            (try simp only [Act.put, List.setIfInBounds_toArray, List.set_cons_zero, List.set_cons_succ, List.getElem_toArray, List.getElem_cons_zero, List.getElem_cons_succ])
            refine wpAnyH_take (i := 9) (v := ?v65) rfl (by kernel_rfl) (by kernel_rfl) (by kernel_rfl) (fun _ _ _ h => h) (Or.inl ⟨by rfl, ?hy65⟩) (by assumption) ?rest65
            case hy65 => intro w' hSw; have c1 := hSw.2; obtain ⟨x2, y0, y1, y2, hokx⟩ := hyy.out w' hSw.1; (try dsimp only at hSw); go_simp; try with_reducible rfl
            (try simp only [Act.put, List.setIfInBounds_toArray, List.set_cons_zero, List.set_cons_succ, List.getElem_toArray, List.getElem_cons_zero, List.getElem_cons_succ])
            refine wpAnyH_take (i := 10) (v := ?v66) rfl (by kernel_rfl) (by kernel_rfl) (by kernel_rfl) (fun _ _ _ h => h) (Or.inl ⟨by rfl, ?hy66⟩) (by assumption) ?rest66
            case hy66 => intro w' hSw; have c1 := hSw.2; obtain ⟨x2, y0, y1, y2, hokx⟩ := hyy.out w' hSw.1; (try dsimp only at hSw); go_simp; try with_reducible rfl
            (try simp only [Act.put, List.setIfInBounds_toArray, List.set_cons_zero, List.set_cons_succ, List.getElem_toArray, List.getElem_cons_zero, List.getElem_cons_succ])
            refine wpAnyH_take (i := 11) (v := ?v67) rfl (by kernel_rfl) (by kernel_rfl) (by kernel_rfl) (fun _ _ _ h => h) (Or.inl ⟨by rfl, ?hy67⟩) (by assumption) ?rest67
            case hy67 => intro w' hSw; have c1 := hSw.2; obtain ⟨x2, y0, y1, y2, hokx⟩ := hyy.out w' hSw.1; (try dsimp only at hSw); go_simp; try with_reducible rfl
            (try simp only [Act.put, List.setIfInBounds_toArray, List.set_cons_zero, List.set_cons_succ, List.getElem_toArray, List.getElem_cons_zero, List.getElem_cons_succ])
            refine wpAnyH_ready (rs := [3]) (by kernel_rfl) (by simp) ?_
            refine AllReadyH.cons rfl (fun K hK => ?_) AllReadyH.nil
            go_simp
            refine (claim_any a.ks Rd5.out.a hrd5.out (fun b hb => (Rd5.out.far b hb.1 hb.2).1) hzk.out.1 (by have := hpk.out.1; omega)).mono ?_
            rintro e w6 ⟨rfl, hP, hu⟩
            obtain ⟨R60, K60⟩ := Rd5.out.goA hP hu
            have R6 := hid R60
            have K6 := hid (Kd5.out.trans K60)
            have hB6 := hid (hBd5.out.trans (hu.below hBd5.out.size fun q hq hS => by have := Rd5.out.ge q (.inl hS); omega))
            clear hP hu R60 K60 Rd5 Kd5 hBd5 hrd5
            have k6 := hid ((K6.out n9 hn9.out.1 hn9.out.2).trans k9.out)
            refine hK.out _ _ ?_ (fun hHeld => ?_)
            · exact ⟨hB6.out, Blk.cell k6.out 1⟩
            clear hK K
            (try simp only [Act.put, List.setIfInBounds_toArray, List.set_cons_zero, List.set_cons_succ, List.getElem_toArray, List.getElem_cons_zero, List.getElem_cons_succ])
            refine wpAnyH_ready (rs := [4]) (by kernel_rfl) (by simp) ?_
            refine AllReadyH.cons rfl (fun K hK => ?_) AllReadyH.nil
            go_simp
            refine (num_any _ _).mono ?_
            rintro e wq ⟨rfl, hwq⟩
            obtain rfl := hwq.symm
            refine hK.out _ _ ?_ (fun hHeld => ?_)
            · exact hHeld
            clear hK K
            (try simp only [Act.put, List.setIfInBounds_toArray, List.set_cons_zero, List.set_cons_succ, List.getElem_toArray, List.getElem_cons_zero, List.getElem_cons_succ])
            refine wpAnyH_ready (rs := [12]) (by kernel_rfl) (by simp) ?_
            refine AllReadyH.cons rfl (fun K hK => ?_) AllReadyH.nil
            go_simp
            obtain ⟨x2, y0, y1, y2, hokx⟩ := hyy.out _ hB6.out
            refine (rclaim_any a.ks R6.out.b hokx.1 (fun b hb => ⟨by have := hB6.out.size; omega, fun e => by have := R6.out.ge b (.inr (e ▸ R6.out.b.inS)); omega⟩) hzk.out.1 (by have := hpk.out.1; omega)).mono ?_
            rintro e w7 ⟨rfl, hgo⟩
            have hgo := hid hgo
            obtain ⟨S2n, R70, K70⟩ := R6.out.goB hB6.out.size hgo.out
            have R7 := hid R70
            have K7 := hid (K6.out.trans K70)
            have hB7 : Hid (Below w1.heap.size w1 w7) := hid (by
              obtain ⟨_, _, _, hu⟩ := hgo.out
              exact hB6.out.trans (hu.below hB6.out.size fun q hq hS => by have := R6.out.ge q (.inr hS); omega))
            have k7 := hid ((K7.out n9 hn9.out.1 hn9.out.2).trans k9.out)
            clear R70 K70 hgo x2 y0 y1 y2 hokx R6 K6 hB6
            refine hK.out _ _ ?_ (fun hHeld => ?_)
            · exact ⟨hB7.out, Blk.cell k7.out 1⟩
            clear hK K
            (try simp only [Act.put, List.setIfInBounds_toArray, List.set_cons_zero, List.set_cons_succ, List.getElem_toArray, List.getElem_cons_zero, List.getElem_cons_succ])
            generalize claimE s a.ks = ec at *
            refine wpAnyH_take (i := 13) (v := ?v68) rfl (by kernel_rfl) (by kernel_rfl) (by kernel_rfl) (fun _ _ _ h => h) (Or.inl ⟨by rfl, ?hy68⟩) (by assumption) ?rest68
            case hy68 => intro w' hSw; (try dsimp only at hSw); go_simp; try with_reducible rfl
            (try simp only [Act.put, List.setIfInBounds_toArray, List.set_cons_zero, List.set_cons_succ, List.getElem_toArray, List.getElem_cons_zero, List.getElem_cons_succ])
            refine wpAnyH_done (by kernel_rfl) ?_ _
            go_wp2_with fail
            go_meet
            exact ⟨claimS s a.ks, _, _, rfl, rfl, ⟨_, _, _, _, _, R7.out, hsn.out, by have := hAk.out; omega⟩, rng_claim hRs.out, K7.out, hB7.out⟩
        by_cases e2 : a.kind = 2
        · as_aux_lemma =>
            have t1 : (a.kind == 1) = false := by simp; omega
            have t2 : (a.kind == 2) = true := by rw [e2]; rfl
            have t3 : (a.kind == 3) = false := by rw [e2]; rfl
            clear e1 e2
            have c1 : w5.cell? ⟨n9, 2, none⟩ = some (.slice B2 a.ws.length d2) := k9.out.cell 2
            go_upto_region 20 with fail
            refine wp_region_held_drew (S := fun w' => Below w1.heap.size w1 w' ∧ w'.cell? ⟨n9, 2, none⟩ = some (.slice B2 a.ws.length d2)) (by kernel_rfl) ?_ (fun hHeld => ?_)
            · exact ⟨hB5.out.drew, c1⟩
            have hbd := hid ((Below.refl w5.heap.size w5).drew)
            have Rd5 := hid (R.out.below hbd.out)
            have Kd5 := hid (Keep.below (lo := wr.heap.size) (hi := w5.heap.size) hbd.out (Nat.le_refl _))
            have hrd5 := hid ((hr2.out.more (S' := fun b => wr.heap.size ≤ b ∧ b < w5.heap.size) fun b hb hl => ⟨hb, hl⟩).below_all hbd.out)
            have hBd5 := hid (hB5.out.trans (hbd.out.mono hB5.out.size))
            generalize World.drew w5 = wd at *
            clear hbd c1
            refine wpAnyH_take (i := 0) (v := ?v91) rfl (by kernel_rfl) (by kernel_rfl) (by kernel_rfl) (fun _ _ _ h => h) (Or.inl ⟨by rfl, ?hy91⟩) (by assumption) ?rest91
            case hy91 => intro w' hSw; have c1 := hSw.2; obtain ⟨x2, y0, y1, y2, hokx⟩ := hyy.out w' hSw.1; (try dsimp only at hSw); go_simp; try with_reducible rfl
            (try simp only [Act.put, List.setIfInBounds_toArray, List.set_cons_zero, List.set_cons_succ, List.getElem_toArray, List.getElem_cons_zero, List.getElem_cons_succ])
            refine wpAnyH_take (i := 1) (v := ?v92) rfl (by kernel_rfl) (by kernel_rfl) (by kernel_rfl) (fun _ _ _ h => h) (Or.inl ⟨by rfl, ?hy92⟩) (by assumption) ?rest92
            case hy92 => intro w' hSw; have c1 := hSw.2; obtain ⟨x2, y0, y1, y2, hokx⟩ := hyy.out w' hSw.1; (try dsimp only at hSw); go_simp; try with_reducible rfl
            (try simp only [Act.put, List.setIfInBounds_toArray, List.set_cons_zero, List.set_cons_succ, List.getElem_toArray, List.getElem_cons_zero, List.getElem_cons_succ])
            refine wpAnyH_take (i := 2) (v := ?v93) rfl (by kernel_rfl) (by kernel_rfl) (by kernel_rfl) (fun _ _ _ h => h) (Or.inl ⟨by rfl, ?hy93⟩) (by assumption) ?rest93
            case hy93 => intro w' hSw; have c1 := hSw.2; obtain ⟨x2, y0, y1, y2, hokx⟩ := hyy.out w' hSw.1; (try dsimp only at hSw); go_simp; try with_reducible rfl
            (try simp only [Act.put, List.setIfInBounds_toArray, List.set_cons_zero, List.set_cons_succ, List.getElem_toArray, List.getElem_cons_zero, List.getElem_cons_succ])
            refine wpAnyH_take (i := 5) (v := ?v94) rfl (by kernel_rfl) (by kernel_rfl) (by kernel_rfl) (fun _ _ _ h => h) (Or.inl ⟨by rfl, ?hy94⟩) (by assumption) ?rest94
            case hy94 => intro w' hSw; have c1 := hSw.2; obtain ⟨x2, y0, y1, y2, hokx⟩ := hyy.out w' hSw.1; (try dsimp only at hSw); go_simp; try with_reducible rfl
            (try simp only [Act.put, List.setIfInBounds_toArray, List.set_cons_zero, List.set_cons_succ, List.getElem_toArray, List.getElem_cons_zero, List.getElem_cons_succ])
            refine wpAnyH_take (i := 6) (v := ?v95) rfl (by kernel_rfl) (by kernel_rfl) (by kernel_rfl) (fun _ _ _ h => h) (Or.inl ⟨by rfl, ?hy95⟩) (by assumption) ?rest95
            case hy95 => intro w' hSw; have c1 := hSw.2; obtain ⟨x2, y0, y1, y2, hokx⟩ := hyy.out w' hSw.1; (try dsimp only at hSw); go_simp; try with_reducible rfl
            (try simp only [Act.put, List.setIfInBounds_toArray, List.set_cons_zero, List.set_cons_succ, List.getElem_toArray, List.getElem_cons_zero, List.getElem_cons_succ])
            refine wpAnyH_take (i := 7) (v := ?v96) rfl (by kernel_rfl) (by kernel_rfl) (by kernel_rfl) (fun _ _ _ h => h) (Or.inl ⟨by rfl, ?hy96⟩) (by assumption) ?rest96
            case hy96 => intro w' hSw; have c1 := hSw.2; obtain ⟨x2, y0, y1, y2, hokx⟩ := hyy.out w' hSw.1; (try dsimp only at hSw); go_simp; try with_reducible rfl
            (try simp only [Act.put, List.setIfInBounds_toArray, List.set_cons_zero, List.set_cons_succ, List.getElem_toArray, List.getElem_cons_zero, List.getElem_cons_succ])
            refine wpAnyH_take (i := 8) (v := ?v97) rfl (by kernel_rfl) (by kernel_rfl) (by kernel_rfl) (fun _ _ _ h => h) (Or.inl ⟨by rfl, ?hy97⟩) (by assumption) ?rest97
            case hy97 => intro w' hSw; have c1 := hSw.2; obtain ⟨x2, y0, y1, y2, hokx⟩ := hyy.out w' hSw.1; (try dsimp only at hSw); go_simp; try with_reducible rfl
            (try simp only [Act.put, List.setIfInBounds_toArray, List.set_cons_zero, List.set_cons_succ, List.getElem_toArray, List.getElem_cons_zero, List.getElem_cons_succ])
            refine wpAnyH_take (i := 9) (v := ?v98) rfl (by kernel_rfl) (by kernel_rfl) (by kernel_rfl) (fun _ _ _ h => h) (Or.inl ⟨by rfl, ?hy98⟩) (by assumption) ?rest98
            case hy98 => intro w' hSw; have c1 := hSw.2; obtain ⟨x2, y0, y1, y2, hokx⟩ := hyy.out w' hSw.1; (try dsimp only at hSw); go_simp; try with_reducible rfl
            (try simp only [Act.put, List.setIfInBounds_toArray, List.set_cons_zero, List.set_cons_succ, List.getElem_toArray, List.getElem_cons_zero, List.getElem_cons_succ])
            refine wpAnyH_take (i := 10) (v := ?v99) rfl (by kernel_rfl) (by kernel_rfl) (by kernel_rfl) (fun _ _ _ h => h) (Or.inl ⟨by rfl, ?hy99⟩) (by assumption) ?rest99
            case hy99 => intro w' hSw; have c1 := hSw.2; obtain ⟨x2, y0, y1, y2, hokx⟩ := hyy.out w' hSw.1; (try dsimp only at hSw); go_simp; try with_reducible rfl
            (try simp only [Act.put, List.setIfInBounds_toArray, List.set_cons_zero, List.set_cons_succ, List.getElem_toArray, List.getElem_cons_zero, List.getElem_cons_succ])
            refine wpAnyH_take (i := 11) (v := ?v100) rfl (by kernel_rfl) (by kernel_rfl) (by kernel_rfl) (fun _ _ _ h => h) (Or.inl ⟨by rfl, ?hy100⟩) (by assumption) ?rest100
            case hy100 => intro w' hSw; have c1 := hSw.2; obtain ⟨x2, y0, y1, y2, hokx⟩ := hyy.out w' hSw.1; (try dsimp only at hSw); go_simp; try with_reducible rfl
            (try simp only [Act.put, List.setIfInBounds_toArray, List.set_cons_zero, List.set_cons_succ, List.getElem_toArray, List.getElem_cons_zero, List.getElem_cons_succ])
            refine wpAnyH_ready (rs := [3]) (by kernel_rfl) (by simp) ?_
            refine AllReadyH.cons rfl (fun K hK => ?_) AllReadyH.nil
            go_simp
            refine (apply_any a.ws Rd5.out.a hrd5.out (fun b hb => (Rd5.out.far b hb.1 hb.2).1) hzk.out.2 (by have := hpk.out.2; omega)).mono ?_
            rintro e w6 ⟨rfl, hP, hu⟩
            obtain ⟨R60, K60⟩ := Rd5.out.goA hP hu
            have R6 := hid R60
            have K6 := hid (Kd5.out.trans K60)
            have hB6 := hid (hBd5.out.trans (hu.below hBd5.out.size fun q hq hS => by have := Rd5.out.ge q (.inl hS); omega))
            clear hP hu R60 K60 Rd5 Kd5 hBd5 hrd5
            have k6 := hid ((K6.out n9 hn9.out.1 hn9.out.2).trans k9.out)
            refine hK.out _ _ ?_ (fun hHeld => ?_)
            · exact ⟨hB6.out, Blk.cell k6.out 2⟩
            clear hK K
            (try simp only [Act.put, List.setIfInBounds_toArray, List.set_cons_zero, List.set_cons_succ, List.getElem_toArray, List.getElem_cons_zero, List.getElem_cons_succ])
            refine wpAnyH_ready (rs := [4]) (by kernel_rfl) (by simp) ?_
            refine AllReadyH.cons rfl (fun K hK => ?_) AllReadyH.nil
            go_simp
            refine (num_any _ _).mono ?_
            rintro e wq ⟨rfl, hwq⟩
            obtain rfl := hwq.symm
            refine hK.out _ _ ?_ (fun hHeld => ?_)
            · exact hHeld
            clear hK K
            (try simp only [Act.put, List.setIfInBounds_toArray, List.set_cons_zero, List.set_cons_succ, List.getElem_toArray, List.getElem_cons_zero, List.getElem_cons_succ])
            refine wpAnyH_ready (rs := [12]) (by kernel_rfl) (by simp) ?_
            refine AllReadyH.cons rfl (fun K hK => ?_) AllReadyH.nil
            go_simp
            obtain ⟨x2, y0, y1, y2, hokx⟩ := hyy.out _ hB6.out
            refine (rapply_any a.ws R6.out.b hokx.2 hzk.out.2 (fun b hb => ⟨by have := hB6.out.size; omega, fun e => by have := R6.out.ge b (.inr (e ▸ R6.out.b.inS)); omega⟩) (by have := hpk.out.2; omega)).mono ?_
            rintro e w7 ⟨rfl, hgo⟩
            have hgo := hid hgo
            obtain ⟨S2n, R70, K70⟩ := R6.out.goB hB6.out.size hgo.out
            have R7 := hid R70
            have K7 := hid (K6.out.trans K70)
            have hB7 : Hid (Below w1.heap.size w1 w7) := hid (by
              obtain ⟨_, _, _, hu⟩ := hgo.out
              exact hB6.out.trans (hu.below hB6.out.size fun q hq hS => by have := R6.out.ge q (.inr hS); omega))
            have k7 := hid ((K7.out n9 hn9.out.1 hn9.out.2).trans k9.out)
            clear R70 K70 hgo x2 y0 y1 y2 hokx R6 K6 hB6
            refine hK.out _ _ ?_ (fun hHeld => ?_)
            · exact ⟨hB7.out, Blk.cell k7.out 2⟩
            clear hK K
            (try simp only [Act.put, List.setIfInBounds_toArray, List.set_cons_zero, List.set_cons_succ, List.getElem_toArray, List.getElem_cons_zero, List.getElem_cons_succ])
            generalize applyE s a.ws = ec at *
            refine wpAnyH_take (i := 13) (v := ?v101) rfl (by kernel_rfl) (by kernel_rfl) (by kernel_rfl) (fun _ _ _ h => h) (Or.inl ⟨by rfl, ?hy101⟩) (by assumption) ?rest101
            case hy101 => intro w' hSw; (try dsimp only at hSw); go_simp; try with_reducible rfl
            (try simp only [Act.put, List.setIfInBounds_toArray, List.set_cons_zero, List.set_cons_succ, List.getElem_toArray, List.getElem_cons_zero, List.getElem_cons_succ])
            refine wpAnyH_done (by kernel_rfl) ?_ _
            go_wp2_with fail
            go_meet
            exact ⟨applyS s a.ws, _, _, rfl, rfl, ⟨_, _, _, _, _, R7.out, hsn.out, by have := hAk.out; omega⟩, rng_apply hRs.out hvk.out, K7.out, hB7.out⟩
        by_cases e3 : a.kind = 3
        · as_aux_lemma =>
            have t1 : (a.kind == 1) = false := by simp; omega
            have t2 : (a.kind == 2) = false := by simp; omega
            have t3 : (a.kind == 3) = true := by rw [e3]; rfl
            clear e1 e2 e3
            obtain ⟨ip1, hip1, hp10, hp11, hp12⟩ := info_parts info_pv
            obtain ⟨ip2, hip2, hp20, hp21, hp22⟩ := info_parts info_pr
            go_wp2_with fail
            refine (view_any R.out.a).mono ?_
            rintro e w6 ⟨S', v, rfl, hv0, hge0, hb0⟩
            have hv := hid hv0
            have hge := hid hge0
            have hb6 := hid hb0
            have hown := hid (own_below R.out.o1 hb0)
            have hb6a := hid (hb0.alloc hb0.size (.cells #[.pointer (some ⟨v, 0, none⟩)] 55))
            have hs6 := hid hb0.size
            clear hv0 hge0 hb0
            go_wp2_with (
              at_builtin
              go_loud (refine wpList_append_rd _ rfl (.tmp 107) (.tmp 110) 48 rfl w1.heap.size 55 ip1 _ 1 8 Tryz.underlying48 hip1 hp10 hp11 hp12 rfl (by omega) v1 As.length (ptrs As) rfl (hown.out.alloc _) (fun b => b = w6.heap.size) (some ⟨w6.heap.size, 0, none⟩) 1 1 [.pointer (some ⟨v, 0, none⟩)] rfl (Rd.new w6 55 1 1 #[.pointer (some ⟨v, 0, none⟩)] _ rfl rfl) (by intro v hv; simp at hv; subst hv; rfl) (by have := hAs.out; simp only [maxLen]; omega) (by have := hAs.out; omega) (by simp; have := hBs.out; have := hs6.out; omega) ?_)
              intro v3 w9 hown3 hg3 hat3
              obtain ⟨A3, c3, rfl, hc3, _⟩ := own_form hown3)
            have hat9 : (Value.slice A3 (As.length + 1) c3).ownBlock = v1.ownBlock ∨ ∃ q, (Value.slice A3 (As.length + 1) c3).ownBlock = some q ∧ (w6.alloc (.cells #[.pointer (some ⟨v, 0, none⟩)] 55)).heap.size ≤ q := by
              rcases hat3 with e | e
              · exact .inl e
              · exact .inr ⟨_, e, Nat.le_refl _⟩
            obtain ⟨R60, K60⟩ := R.out.addA (hv.out.below ((Below.refl _ _).alloc (Nat.le_refl _) _)) hge.out hb6a.out hg3 rfl hown3 hat9
            have R6 := hid R60
            have K6 := hid K60
            have hB6 := hid ((hB5.out.trans (hb6a.out.mono hB5.out.size)).grown hg3 (by have := hB5.out.size; have := hb6a.out.size; omega) fun q hq => (R.out.o1.lt q hq).1)
            clear R60 K60 hown3 hg3 hat3 hat9 hv hge hb6 hown hb6a hs6 hc3 R
            rename World => w9
            go_wp2_with fail
            refine (rcopy_any R6.out.b).mono ?_
            rintro e w10 ⟨S', v, rfl, hv0, hge0, hb0⟩
            have hv := hid hv0
            have hge := hid hge0
            have hown := hid (own_below R6.out.o2 hb0)
            have hb6a := hid (hb0.alloc hb0.size (.cells #[.pointer (some ⟨v, 0, none⟩)] 29))
            have hs6 := hid hb0.size
            have hBs2 := hid (show w1.heap.size ≤ w9.heap.size from hB6.out.size)
            clear hv0 hge0 hb0
            go_wp2_with (
              at_builtin
              go_loud (refine wpList_append_rd _ rfl (.tmp 112) (.tmp 115) 49 rfl w1.heap.size 29 ip2 _ 1 8 Tryz.underlying49 hip2 hp20 hp21 hp22 rfl (by omega) v2 Bs.length (ptrs Bs) rfl (hown.out.alloc _) (fun b => b = w10.heap.size) (some ⟨w10.heap.size, 0, none⟩) 1 1 [.pointer (some ⟨v, 0, none⟩)] rfl (Rd.new w10 29 1 1 #[.pointer (some ⟨v, 0, none⟩)] _ rfl rfl) (by intro v hv; simp at hv; subst hv; rfl) (by have := hBl.out; simp only [maxLen]; omega) (by have := hBl.out; omega) (by simp; have := hBs2.out; have := hs6.out; omega) ?_)
              intro v3 w11 hown3 hg3 hat3
              obtain ⟨A4, c4, rfl, hc3, _⟩ := own_form hown3)
            have hat9 : (Value.slice A4 (Bs.length + 1) c4).ownBlock = v2.ownBlock ∨ ∃ q, (Value.slice A4 (Bs.length + 1) c4).ownBlock = some q ∧ (w10.alloc (.cells #[.pointer (some ⟨v, 0, none⟩)] 29)).heap.size ≤ q := by
              rcases hat3 with e | e
              · exact .inl e
              · exact .inr ⟨_, e, Nat.le_refl _⟩
            obtain ⟨R70, K70⟩ := R6.out.addB (hv.out.below ((Below.refl _ _).alloc (Nat.le_refl _) _)) hge.out hb6a.out hg3 rfl hown3 hat9
            have hB7 := hid ((hB6.out.trans (hb6a.out.mono hB6.out.size)).grown hg3 (by have := hB6.out.size; have := hb6a.out.size; omega) fun q hq => (R6.out.o2.lt q hq).1)
            have R7 := hid R70
            have K7 := hid (K6.out.trans K70)
            clear R70 K70 hown3 hg3 hat3 hat9 hv hge hown hb6a hs6 hc3 R6 K6 hB6
            go_wp2_with fail
            go_meet
            exact ⟨s, _, _, rfl, rfl, ⟨_, _, _, _, _, R7.out, by simp [hsn.out], by have := hAk.out; simp; omega⟩, hRs.out, K7.out, hB7.out⟩
        have t1 : (a.kind == 1) = false := by simp; omega
        have t2 : (a.kind == 2) = false := by simp; omega
        have t3 : (a.kind == 3) = false := by simp; omega
        clear e1 e2 e3
        go_wp2_with fail
        go_meet
        exact ⟨s, _, _, rfl, rfl, ⟨_, _, _, _, _, R.out, hsn.out, by have := hAk.out; omega⟩, hRs.out, Keep.refl _ _ _, hB5.out⟩
      case rest =>
        clear R9 c0
        obtain ⟨s', v1x, v2x, rfl, rfl, hR0, hr0, hK0, hb0⟩ := hcut
        have Ry := hid hR0
        have hRy := hid hr0
        have hBy := hid hb0
        have ky := hid (show Blk _ n9 51 #[.int .i64 a.kind, .slice B1 a.ks.length d1, .slice B2 a.ws.length d2] from (hK0 n9 hn9.out.1 hn9.out.2).trans k9.out)
        have hrt1 := hid (RowR.of ht1.out hK0)
        have hrt2 := hid (RowR.of ht2.out hK0)
        have hrow1 := hid (RowK.of hr1.out ht1.out hK0)
        have hrow2 := hid (RowK.of hr2.out ht2.out hK0)
        clear hR0 hr0 hK0 hb0 hr1 hr2 ht1 ht2 k9
        rename World => wy
        go_wp2_with fail
        go_loopw [13] (fun v wz => ∃ j : Nat, v = .int .i64 j ∧ j ≤ a.ks.length ∧ Upd (RowM B1) wy wz ∧ RowK wz 9 1 B1 a.ks.length j (strs a.ks)) (fun v _ => a.ks.length - (intOf v).toNat)
        case atStart => exact ⟨0, rfl, Nat.zero_le _, Upd.refl _ _, hrow1.out⟩
        case round =>
          clear hrow1
          obtain ⟨j, rfl, hj, hu0, hrow0⟩ := hrel
          rename World => wz
          have hU := hid hu0
          have hrw := hid hrow0
          have hBz := hid (hBy.out.trans (hu0.below hBy.out.size fun q hq e => by have := (hrt1.out.ge e); have := hs1r.out; omega))
          have kz := hid (ky.out.upd hu0 (hrt1.out.ne ky.out (by decide)))
          clear hu0 hrow0
          have c1 : wz.cell? ⟨n9, 1, none⟩ = some (.slice B1 a.ks.length d1) := kz.out.cell 1
          by_cases hlt : j < a.ks.length
          · obtain ⟨b8, cs, hB9, hbk0, hcs⟩ := hrw.out hlt
            have hbk := hid hbk0
            have i1 : (j : Int) < (a.ks.length : Int) := by omega
            have i2 : IntKind.i64.wrap ((j : Int) + 1) = (j : Int) + 1 := by rw [IntKind.wrap_i64]; have := hpk.out.1; omega
            obtain ⟨x2, y0, y1, y2, hokx⟩ := hyy.out _ hBz.out
            obtain ⟨b7, o7, hA7, _, _, u0⟩ := rd_strs (hokx.1) hlt
            obtain ⟨x, hx⟩ : ∃ x, x = a.ks[j] := ⟨_, rfl⟩
            rw [← hx] at u0
            have hg0 : (strs a.ks)[j]? = some (.string x) := by rw [hx]; simp [strs, hlt]
            have hc0 := hcs (j) _ (by omega) hg0
            have z0 : wz.cell? ⟨b8, j, none⟩ = some (.string x) := (hbk.out.cell (j)).trans hc0
            have fz := fun q => hbk.out.frozen q
            have hcs := hid hcs
            rw [hB9] at c1
            rw [hA7] at y1
            have hBe := hid hB9
            have hlH := hid hlt
            clear hokx hbk0 hx hg0 hc0 hA7 hj hlt
            go_wp2_with fail
            go_quiet (fail)
            go_wp2_with fail
            go_roundw
            case rel =>
              refine ⟨j + 1, rfl, by have := hlH.out; omega, ?_, fun _ => ⟨b8, _, hBe.out, ((hbk.out.drewN _).set_ (j) _), fun q u hq hu => ?_⟩⟩
              · rw [hBe.out] at hU ⊢
                exact hU.out.trans ((Upd.of_below' (below_drewN (Below.refl wz.heap.size wz) _) (RowM (some ⟨b8, 0, none⟩))).setCell (p := ⟨b8, j, none⟩) (fun _ => ⟨0, none, rfl⟩) (.string ⟨#[115, 112, 111, 105, 108, 116]⟩)) fun _ _ h => h
              · simp only [Array.getElem?_setIfInBounds]
                have h9 := hcs.out q u (by omega) hu
                rw [if_neg (by omega)]; exact h9
            case measure => simp [intOf]; have := hlH.out; omega
          · have i1 : ¬ ((j : Int) < (a.ks.length : Int)) := by omega
            clear hlt hj hrw
            have Ry2 := hid (Ry.out.spoil hU.out fun q hq => ⟨by have := hrt1.out.ge hq; omega, hrt1.out.lt hq⟩)
            have hrow2b := hid (hrow2.out.upd hU.out fun b cs hb hk e => hrt1.out.ne hk (by decide) e)
            have hrt2b := hid (hrt2.out.updM hU.out fun q cs hk e => hrt1.out.ne hk (by decide) e)
            have kyb := kz
            clear Ry hrow2 hrt2 ky hU hBy hrt1 kz
            rename World => wz0
            go_wp2_with fail
            clear c1 i1
            have hrow2 := hrow2b
            have hrt2 := hrt2b
            have ky := kyb
            have Ry := Ry2
            have hBy := hBz
            clear hrow2b hrt2b kyb Ry2 hBz
            go_loopw [14] (fun v wz => ∃ j : Nat, v = .int .i64 j ∧ j ≤ a.ws.length ∧ Upd (RowM B2) wz0 wz ∧ RowK wz 40 5 B2 a.ws.length j (wrCells a.ws)) (fun v _ => a.ws.length - (intOf v).toNat)
            case atStart => exact ⟨0, rfl, Nat.zero_le _, Upd.refl _ _, hrow2.out⟩
            case round =>
              clear hrow2
              obtain ⟨j, rfl, hj, hu0, hrow0⟩ := hrel
              rename World => wz
              have hU := hid hu0
              have hrw := hid hrow0
              have hBz := hid (hBy.out.trans (hu0.below hBy.out.size fun q hq e => by have := (hrt2.out.ge e); have := hs1r.out; omega))
              have kz := hid (ky.out.upd hu0 (hrt2.out.ne ky.out (by decide)))
              clear hu0 hrow0
              have c1 : wz.cell? ⟨n9, 2, none⟩ = some (.slice B2 a.ws.length d2) := kz.out.cell 2
              by_cases hlt : j < a.ws.length
              · obtain ⟨b8, cs, hB9, hbk0, hcs⟩ := hrw.out hlt
                have hbk := hid hbk0
                have i1 : (j : Int) < (a.ws.length : Int) := by omega
                have i2 : IntKind.i64.wrap ((j : Int) + 1) = (j : Int) + 1 := by rw [IntKind.wrap_i64]; have := hpk.out.2; omega
                obtain ⟨x2, y0, y1, y2, hokx⟩ := hyy.out _ hBz.out
                obtain ⟨b7, o7, hA7, _, _, u0, u1, u2, u3, u4⟩ := rd_wr (hokx.2) hlt
                obtain ⟨x, hx⟩ : ∃ x, x = a.ws[j] := ⟨_, rfl⟩
                rw [← hx] at u0 u1 u2 u3 u4
                obtain ⟨hg0, hg1, hg2, hg3, hg4⟩ := wrCells_at (L := a.ws) (i := j) (x := x) (by rw [hx]; exact List.getElem?_eq_getElem hlt)
                have hc0 := hcs (j * 5) _ (by omega) hg0
                have hc1 := hcs (j * 5 + 1) _ (by omega) hg1
                have hc2 := hcs (j * 5 + 2) _ (by omega) hg2
                have hc3 := hcs (j * 5 + 3) _ (by omega) hg3
                have hc4 := hcs (j * 5 + 4) _ (by omega) hg4
                have z0 : wz.cell? ⟨b8, j * 5, none⟩ = some (.string x.key) := (hbk.out.cell (j * 5)).trans hc0
                have z1 : wz.cell? ⟨b8, j * 5 + 1, none⟩ = some (.bool x.gone) := (hbk.out.cell (j * 5 + 1)).trans hc1
                have z2 : wz.cell? ⟨b8, j * 5 + 2, none⟩ = some (.int .i64 x.v.k) := (hbk.out.cell (j * 5 + 2)).trans hc2
                have z3 : wz.cell? ⟨b8, j * 5 + 3, none⟩ = some (.int .i64 x.v.n) := (hbk.out.cell (j * 5 + 3)).trans hc3
                have z4 : wz.cell? ⟨b8, j * 5 + 4, none⟩ = some (.string x.v.s) := (hbk.out.cell (j * 5 + 4)).trans hc4
                have fz := fun q => hbk.out.frozen q
                have hcs := hid hcs
                rw [hB9] at c1
                rw [hA7] at y2
                have hBe := hid hB9
                have hlH := hid hlt
                clear hokx hbk0 hx hg0 hc0 hg1 hc1 hg2 hc2 hg3 hc3 hg4 hc4 hA7 hj hlt
                go_wp2_with fail
                go_quiet (fail)
                go_wp2_with fail
                go_roundw
                case rel =>
                  refine ⟨j + 1, rfl, by have := hlH.out; omega, ?_, fun _ => ⟨b8, _, hBe.out, ((((((hbk.out.drewN _).set_ (j * 5) _).set_ (j * 5 + 1) _).set_ (j * 5 + 2) _).set_ (j * 5 + 3) _).set_ (j * 5 + 4) _), fun q u hq hu => ?_⟩⟩
                  · rw [hBe.out] at hU ⊢
                    exact hU.out.trans ((((((Upd.of_below' (below_drewN (Below.refl wz.heap.size wz) _) (RowM (some ⟨b8, 0, none⟩))).setCell (p := ⟨b8, j * 5, none⟩) (fun _ => ⟨0, none, rfl⟩) (.string ⟨#[115, 112, 111, 105, 108, 116]⟩)).setCell (p := ⟨b8, j * 5 + 1, none⟩) (fun _ => ⟨0, none, rfl⟩) (.bool false)).setCell (p := ⟨b8, j * 5 + 2, none⟩) (fun _ => ⟨0, none, rfl⟩) (.int .i64 0)).setCell (p := ⟨b8, j * 5 + 3, none⟩) (fun _ => ⟨0, none, rfl⟩) (.int .i64 0)).setCell (p := ⟨b8, j * 5 + 4, none⟩) (fun _ => ⟨0, none, rfl⟩) (.string ⟨#[]⟩)) fun _ _ h => h
                  · simp only [Array.getElem?_setIfInBounds]
                    have h9 := hcs.out q u (by omega) hu
                    rw [if_neg (by omega), if_neg (by omega), if_neg (by omega), if_neg (by omega), if_neg (by omega)]; exact h9
                case measure => simp [intOf]; have := hlH.out; omega
              · have i1 : ¬ ((j : Int) < (a.ws.length : Int)) := by omega
                clear hlt hj hrw
                go_wp2_with fail
                go_roundw
                case rel => exact ⟨_, _, k + 1, s', wr.heap.size, w5.heap.size, rfl, rfl, by go_num, hltH.out, Ry.out.spoil hU.out fun q hq => ⟨by have := hrt2.out.ge hq; omega, hrt2.out.lt hq⟩, hRy.out, hBz.out⟩
                case measure => simp [intOf]; have := hltH.out; omega
    · obtain rfl : k = us.length := by omega
      clear hlt hk
      obtain ⟨S, S2, V, As, Bs, hin, hsn0, _⟩ := R.out
      have hsn := hid hsn0
      have hP := hid hin.a
      have hR := hid hin.b
      have hva := hid hin.va
      have hvb := hid hin.vb
      obtain ⟨A8, c8, rfl, hl81, hl82⟩ := own_form hin.o1
      obtain ⟨A9, c9, rfl, hl91, hl92⟩ := own_form hin.o2
      have hrA := hid (Rd.of_own hin.o1).all
      have hrB := hid (Rd.of_own hin.o2).all
      have hAB : Hid (As.length = Bs.length) := hid (by have := congrArg List.length hsn0; simpa using this)
      have hAl := hid (show As.length ≤ maxLen by omega)
      have hRng := hid hRs.out
      have hBr := hid (hB1w.out.trans (hB.out.mono hB1w.out.size))
      clear hin hsn0 hl81 hl82 hl91 hl92 R hRs hB
      rename World => w5
      go_wp2_with fail
      refine (stands_any hP.out hR.out (hE.out.below hBr.out) hRng.out).mono ?_
      rintro e w6 ⟨rfl, hb6⟩
      have hP6 := hid (hP.out.below hb6)
      have hR6 := hid (hR.out.below hb6)
      have hva := hid (fun x hx => And.intro ((hva.out x hx).1.below hb6) (hva.out x hx).2)
      have hvb := hid (fun x hx => (hvb.out x hx).below hb6)
      have hrA := hid (hrA.out.below_all hb6)
      have hrB := hid (hrB.out.below_all hb6)
      have hB6 := hid (hBr.out.trans (hb6.mono hBr.out.size))
      clear hb6 hP hR hBr
      go_wp2_with fail
      go_loopw [15] (fun v wr => ∃ i : Nat, v = .int .i64 i ∧ i ≤ ks.length ∧ Below w6.heap.size w6 wr) (fun v _ => ks.length - (intOf v).toNat)
      case atStart => exact ⟨0, rfl, Nat.zero_le _, Below.refl _ _⟩
      case round =>
        obtain ⟨i, rfl, hi, hb0⟩ := hrel
        have hb := hid hb0
        clear hb0
        by_cases hlt : i < ks.length
        · as_aux_lemma =>
          have i1 : (i : Int) < (ks.length : Int) := by omega
          have i2 : IntKind.i64.wrap ((i : Int) + 1) = (i : Int) + 1 := by rw [IntKind.wrap_i64]; have := hkn.out; omega
          go_upto_region 42 with fail
          have hPv0 := hid (hP6.out.below hb.out)
          have hRv0 := hid (hR6.out.below hb.out)
          obtain ⟨b9, o9, hA9, _, hl9, x0⟩ := rd_strs (hks.out.below_all (hB6.out.trans (hb.out.mono hB6.out.size))) hlt
          obtain rfl := hA9
          have hxs := hid (hok.out _ (List.getElem_mem hlt))
          generalize ks[i] = x at *
          have hY := hid (fun W (hW : Below wr.heap.size wr W) => (show W.cell? ⟨b9, o9 + i, none⟩ = some (.string x) from cell_bel hW hl9 x0))
          have hltH := hid hlt
          clear hlt hi x0 hl9
          refine wp_region_held_drew (S := fun w' => Below wr.heap.size wr w') (by kernel_rfl) ?_ (fun hHeld => ?_)
          · exact (Below.refl _ _).drew
          have hbd := hid ((Below.refl wr.heap.size wr).drew)
          have hPv := hid (hPv0.out.below hbd.out)
          have hRv := hid (hRv0.out.below hbd.out)
          generalize World.drew wr = wv at *
          refine wpAnyH_take (i := 0) (v := ?v1) rfl (by kernel_rfl) (by kernel_rfl) (by kernel_rfl) (fun _ _ _ h => h) (Or.inl ⟨by rfl, ?hy1⟩) (by assumption) ?rest1
          case hy1 => intro w' hSw; (try dsimp only at hSw); go_simp; try with_reducible rfl
          (try simp only [Act.put, List.setIfInBounds_toArray, List.set_cons_zero, List.set_cons_succ, List.getElem_toArray, List.getElem_cons_zero, List.getElem_cons_succ])
          refine wpAnyH_take (i := 1) (v := ?v2) rfl (by kernel_rfl) (by kernel_rfl) (by kernel_rfl) (fun _ _ _ h => h) (Or.inl ⟨by rfl, ?hy2⟩) (by assumption) ?rest2
          case hy2 => intro w' hSw; (try dsimp only at hSw); go_simp; try with_reducible rfl
          (try simp only [Act.put, List.setIfInBounds_toArray, List.set_cons_zero, List.set_cons_succ, List.getElem_toArray, List.getElem_cons_zero, List.getElem_cons_succ])
          refine wpAnyH_take (i := 2) (v := ?v3) rfl (by kernel_rfl) (by kernel_rfl) (by kernel_rfl) (fun _ _ _ h => h) (Or.inl ⟨by rfl, ?hy3⟩) (by assumption) ?rest3
          case hy3 => intro w' hSw; (try dsimp only at hSw); go_simp; try with_reducible rfl
          (try simp only [Act.put, List.setIfInBounds_toArray, List.set_cons_zero, List.set_cons_succ, List.getElem_toArray, List.getElem_cons_zero, List.getElem_cons_succ])
          refine wpAnyH_take (i := 3) (v := ?v4) rfl (by kernel_rfl) (by kernel_rfl) (by kernel_rfl) (fun _ _ _ h => h) (Or.inl ⟨by rfl, ?hy4⟩) (by assumption) ?rest4
          case hy4 => intro w' hSw; have q0 := hY.out w' hSw; (try dsimp only at hSw); go_simp; try with_reducible rfl
          (try simp only [Act.put, List.setIfInBounds_toArray, List.set_cons_zero, List.set_cons_succ, List.getElem_toArray, List.getElem_cons_zero, List.getElem_cons_succ])
          refine wpAnyH_take (i := 4) (v := ?v5) rfl (by kernel_rfl) (by kernel_rfl) (by kernel_rfl) (fun _ _ _ h => h) (Or.inl ⟨by rfl, ?hy5⟩) (by assumption) ?rest5
          case hy5 => intro w' hSw; have q0 := hY.out w' hSw; (try dsimp only at hSw); go_simp; try with_reducible rfl
          (try simp only [Act.put, List.setIfInBounds_toArray, List.set_cons_zero, List.set_cons_succ, List.getElem_toArray, List.getElem_cons_zero, List.getElem_cons_succ])
          refine wpAnyH_take (i := 6) (v := ?v6) rfl (by kernel_rfl) (by kernel_rfl) (by kernel_rfl) (fun _ _ _ h => h) (Or.inl ⟨by rfl, ?hy6⟩) (by assumption) ?rest6
          case hy6 => intro w' hSw; (try dsimp only at hSw); go_simp; try with_reducible rfl
          (try simp only [Act.put, List.setIfInBounds_toArray, List.set_cons_zero, List.set_cons_succ, List.getElem_toArray, List.getElem_cons_zero, List.getElem_cons_succ])
          refine wpAnyH_take (i := 7) (v := ?v7) rfl (by kernel_rfl) (by kernel_rfl) (by kernel_rfl) (fun _ _ _ h => h) (Or.inl ⟨by rfl, ?hy7⟩) (by assumption) ?rest7
          case hy7 => intro w' hSw; (try dsimp only at hSw); go_simp; try with_reducible rfl
          (try simp only [Act.put, List.setIfInBounds_toArray, List.set_cons_zero, List.set_cons_succ, List.getElem_toArray, List.getElem_cons_zero, List.getElem_cons_succ])
          refine wpAnyH_take (i := 8) (v := ?v8) rfl (by kernel_rfl) (by kernel_rfl) (by kernel_rfl) (fun _ _ _ h => h) (Or.inl ⟨by rfl, ?hy8⟩) (by assumption) ?rest8
          case hy8 => intro w' hSw; (try dsimp only at hSw); go_simp; try with_reducible rfl
          (try simp only [Act.put, List.setIfInBounds_toArray, List.set_cons_zero, List.set_cons_succ, List.getElem_toArray, List.getElem_cons_zero, List.getElem_cons_succ])
          refine wpAnyH_take (i := 9) (v := ?v9) rfl (by kernel_rfl) (by kernel_rfl) (by kernel_rfl) (fun _ _ _ h => h) (Or.inl ⟨by rfl, ?hy9⟩) (by assumption) ?rest9
          case hy9 => intro w' hSw; have q0 := hY.out w' hSw; (try dsimp only at hSw); go_simp; try with_reducible rfl
          (try simp only [Act.put, List.setIfInBounds_toArray, List.set_cons_zero, List.set_cons_succ, List.getElem_toArray, List.getElem_cons_zero, List.getElem_cons_succ])
          refine wpAnyH_take (i := 10) (v := ?v10) rfl (by kernel_rfl) (by kernel_rfl) (by kernel_rfl) (fun _ _ _ h => h) (Or.inl ⟨by rfl, ?hy10⟩) (by assumption) ?rest10
          case hy10 => intro w' hSw; have q0 := hY.out w' hSw; (try dsimp only at hSw); go_simp; try with_reducible rfl
          (try simp only [Act.put, List.setIfInBounds_toArray, List.set_cons_zero, List.set_cons_succ, List.getElem_toArray, List.getElem_cons_zero, List.getElem_cons_succ])
          refine wpAnyH_ready (rs := [5]) (by kernel_rfl) (by simp) ?_
          refine AllReadyH.cons rfl (fun K hK => ?_) AllReadyH.nil
          go_simp
          refine (get_any x hPv.out).mono ?_
          rintro e wa ⟨rfl, hb10⟩
          have hb1 := hid hb10
          clear hb10
          refine hK.out _ _ ?_ (fun hHeld => ?_)
          · exact hbd.out.trans (hb1.out.mono hbd.out.size)
          clear hK K
          (try simp only [Act.put, List.setIfInBounds_toArray, List.set_cons_zero, List.set_cons_succ, List.getElem_toArray, List.getElem_cons_zero, List.getElem_cons_succ])
          refine wpAnyH_ready (rs := [11]) (by kernel_rfl) (by simp) ?_
          refine AllReadyH.cons rfl (fun K hK => ?_) AllReadyH.nil
          go_simp
          refine (rget_any x (hRv.out.below hb1.out)).mono ?_
          rintro e wb ⟨rfl, hb20⟩
          have hb2 := hid (hb1.out.trans (hb20.mono hb1.out.size))
          clear hb20 hb1
          refine hK.out _ _ ?_ (fun hHeld => ?_)
          · exact hbd.out.trans (hb2.out.mono hbd.out.size)
          clear hK K
          (try simp only [Act.put, List.setIfInBounds_toArray, List.set_cons_zero, List.set_cons_succ, List.getElem_toArray, List.getElem_cons_zero, List.getElem_cons_succ])
          generalize valK x s.L = vv at *
          refine wpAnyH_take (i := 12) (v := ?v11) rfl (by kernel_rfl) (by kernel_rfl) (by kernel_rfl) (fun _ _ _ h => h) (Or.inl ⟨by rfl, ?hy11⟩) (by assumption) ?rest11
          case hy11 => intro w' hSw; have hq := neqValF vv; (try dsimp only at hSw); go_simp; try with_reducible rfl
          (try simp only [Act.put, List.setIfInBounds_toArray, List.set_cons_zero, List.set_cons_succ, List.getElem_toArray, List.getElem_cons_zero, List.getElem_cons_succ])
          refine wpAnyH_take (i := 13) (v := ?v12) rfl (by kernel_rfl) (by kernel_rfl) (by kernel_rfl) (fun _ _ _ h => h) (Or.inl ⟨by rfl, ?hy12⟩) (by assumption) ?rest12
          case hy12 => intro w' hSw; (try dsimp only at hSw); go_simp; try with_reducible rfl
          (try simp only [Act.put, List.setIfInBounds_toArray, List.set_cons_zero, List.set_cons_succ, List.getElem_toArray, List.getElem_cons_zero, List.getElem_cons_succ])
          refine wpAnyH_take (i := 14) (v := ?v13) rfl (by kernel_rfl) (by kernel_rfl) (by kernel_rfl) (fun _ _ _ h => h) (Or.inl ⟨by rfl, ?hy13⟩) (by assumption) ?rest13
          case hy13 => intro w' hSw; (try dsimp only at hSw); go_simp; try with_reducible rfl
          (try simp only [Act.put, List.setIfInBounds_toArray, List.set_cons_zero, List.set_cons_succ, List.getElem_toArray, List.getElem_cons_zero, List.getElem_cons_succ])
          refine wpAnyH_take (i := 15) (v := ?v14) rfl (by kernel_rfl) (by kernel_rfl) (by kernel_rfl) (fun _ _ _ h => h) (Or.inl ⟨by rfl, ?hy14⟩) (by assumption) ?rest14
          case hy14 => intro w' hSw; (try dsimp only at hSw); go_simp; try with_reducible rfl
          (try simp only [Act.put, List.setIfInBounds_toArray, List.set_cons_zero, List.set_cons_succ, List.getElem_toArray, List.getElem_cons_zero, List.getElem_cons_succ])
          refine wpAnyH_take (i := 16) (v := ?v15) rfl (by kernel_rfl) (by kernel_rfl) (by kernel_rfl) (fun _ _ _ h => h) (Or.inl ⟨by rfl, ?hy15⟩) (by assumption) ?rest15
          case hy15 => intro w' hSw; (try dsimp only at hSw); go_simp; try with_reducible rfl
          (try simp only [Act.put, List.setIfInBounds_toArray, List.set_cons_zero, List.set_cons_succ, List.getElem_toArray, List.getElem_cons_zero, List.getElem_cons_succ])
          refine wpAnyH_take (i := 17) (v := ?v16) rfl (by kernel_rfl) (by kernel_rfl) (by kernel_rfl) (fun _ _ _ h => h) (Or.inl ⟨by rfl, ?hy16⟩) (by assumption) ?rest16
          case hy16 => intro w' hSw; have q0 := hY.out w' hSw; (try dsimp only at hSw); go_simp; try with_reducible rfl
          (try simp only [Act.put, List.setIfInBounds_toArray, List.set_cons_zero, List.set_cons_succ, List.getElem_toArray, List.getElem_cons_zero, List.getElem_cons_succ])
          refine wpAnyH_take (i := 18) (v := ?v17) rfl (by kernel_rfl) (by kernel_rfl) (by kernel_rfl) (fun _ _ _ h => h) (Or.inl ⟨by rfl, ?hy17⟩) (by assumption) ?rest17
          case hy17 => intro w' hSw; have q0 := hY.out w' hSw; (try dsimp only at hSw); go_simp; try with_reducible rfl
          (try simp only [Act.put, List.setIfInBounds_toArray, List.set_cons_zero, List.set_cons_succ, List.getElem_toArray, List.getElem_cons_zero, List.getElem_cons_succ])
          refine wpAnyH_take (i := 20) (v := ?v18) rfl (by kernel_rfl) (by kernel_rfl) (by kernel_rfl) (fun _ _ _ h => h) (Or.inl ⟨by rfl, ?hy18⟩) (by assumption) ?rest18
          case hy18 => intro w' hSw; (try dsimp only at hSw); go_simp; try with_reducible rfl
          (try simp only [Act.put, List.setIfInBounds_toArray, List.set_cons_zero, List.set_cons_succ, List.getElem_toArray, List.getElem_cons_zero, List.getElem_cons_succ])
          refine wpAnyH_take (i := 21) (v := ?v19) rfl (by kernel_rfl) (by kernel_rfl) (by kernel_rfl) (fun _ _ _ h => h) (Or.inl ⟨by rfl, ?hy19⟩) (by assumption) ?rest19
          case hy19 => intro w' hSw; (try dsimp only at hSw); go_simp; try with_reducible rfl
          (try simp only [Act.put, List.setIfInBounds_toArray, List.set_cons_zero, List.set_cons_succ, List.getElem_toArray, List.getElem_cons_zero, List.getElem_cons_succ])
          refine wpAnyH_take (i := 22) (v := ?v20) rfl (by kernel_rfl) (by kernel_rfl) (by kernel_rfl) (fun _ _ _ h => h) (Or.inl ⟨by rfl, ?hy20⟩) (by assumption) ?rest20
          case hy20 => intro w' hSw; (try dsimp only at hSw); go_simp; try with_reducible rfl
          (try simp only [Act.put, List.setIfInBounds_toArray, List.set_cons_zero, List.set_cons_succ, List.getElem_toArray, List.getElem_cons_zero, List.getElem_cons_succ])
          refine wpAnyH_take (i := 23) (v := ?v21) rfl (by kernel_rfl) (by kernel_rfl) (by kernel_rfl) (fun _ _ _ h => h) (Or.inl ⟨by rfl, ?hy21⟩) (by assumption) ?rest21
          case hy21 => intro w' hSw; have q0 := hY.out w' hSw; (try dsimp only at hSw); go_simp; try with_reducible rfl
          (try simp only [Act.put, List.setIfInBounds_toArray, List.set_cons_zero, List.set_cons_succ, List.getElem_toArray, List.getElem_cons_zero, List.getElem_cons_succ])
          refine wpAnyH_take (i := 24) (v := ?v22) rfl (by kernel_rfl) (by kernel_rfl) (by kernel_rfl) (fun _ _ _ h => h) (Or.inl ⟨by rfl, ?hy22⟩) (by assumption) ?rest22
          case hy22 => intro w' hSw; have q0 := hY.out w' hSw; (try dsimp only at hSw); go_simp; try with_reducible rfl
          (try simp only [Act.put, List.setIfInBounds_toArray, List.set_cons_zero, List.set_cons_succ, List.getElem_toArray, List.getElem_cons_zero, List.getElem_cons_succ])
          refine wpAnyH_ready (rs := [19]) (by kernel_rfl) (by simp) ?_
          refine AllReadyH.cons rfl (fun K hK => ?_) AllReadyH.nil
          rw [if_pos (by rfl)]
          go_simp
          refine (claimed_any x (hPv.out.below hb2.out) hxs.out).mono ?_
          rintro e wq ⟨rfl, n1, hwq⟩
          have hb3 : Hid (Below wv.heap.size wv wq) := hid (by rw [hwq]; exact below_drewN hb2.out _)
          clear hwq hb2
          refine hK.out _ _ ?_ (fun hHeld => ?_)
          · exact hbd.out.trans (hb3.out.mono hbd.out.size)
          clear hK K
          (try simp only [Act.put, List.setIfInBounds_toArray, List.set_cons_zero, List.set_cons_succ, List.getElem_toArray, List.getElem_cons_zero, List.getElem_cons_succ])
          refine wpAnyH_ready (rs := [25]) (by kernel_rfl) (by simp) ?_
          refine AllReadyH.cons rfl (fun K hK => ?_) AllReadyH.nil
          rw [if_pos (by rfl)]
          go_simp
          refine (rclaimed_any x (hRv.out.below hb3.out)).mono ?_
          rintro e wb ⟨rfl, hb40⟩
          have hb4 := hid (hb3.out.trans (hb40.mono hb3.out.size))
          clear hb40 hb3
          refine hK.out _ _ ?_ (fun hHeld => ?_)
          · exact hbd.out.trans (hb4.out.mono hbd.out.size)
          clear hK K
          (try simp only [Act.put, List.setIfInBounds_toArray, List.set_cons_zero, List.set_cons_succ, List.getElem_toArray, List.getElem_cons_zero, List.getElem_cons_succ])
          generalize hasK x s.L = hv at *
          refine wpAnyH_take (i := 26) (v := ?v23) rfl (by kernel_rfl) (by kernel_rfl) (by kernel_rfl) (fun _ _ _ h => h) (Or.inl ⟨by rfl, ?hy23⟩) (by assumption) ?rest23
          case hy23 => intro w' hSw; (try dsimp only at hSw); go_simp; try with_reducible rfl
          (try simp only [Act.put, List.setIfInBounds_toArray, List.set_cons_zero, List.set_cons_succ, List.getElem_toArray, List.getElem_cons_zero, List.getElem_cons_succ])
          refine wpAnyH_take (i := 27) (v := ?v24) rfl (by kernel_rfl) (by kernel_rfl) (by kernel_rfl) (fun _ _ _ h => h) (Or.inl ⟨by rfl, ?hy24⟩) (by assumption) ?rest24
          case hy24 => intro w' hSw; (try dsimp only at hSw); go_simp; try with_reducible rfl
          (try simp only [Act.put, List.setIfInBounds_toArray, List.set_cons_zero, List.set_cons_succ, List.getElem_toArray, List.getElem_cons_zero, List.getElem_cons_succ])
          refine wpAnyH_done (by kernel_rfl) ?_ _
          go_wp2_with fail
          go_roundw
          case rel => exact ⟨i + 1, by go_num, hltH.out, hb.out.trans ((hbd.out.trans (hb4.out.mono hbd.out.size)).mono hb.out.size)⟩
          case measure => simp [intOf]; have := hltH.out; omega
        · obtain rfl : i = ks.length := by omega
          clear hlt hi
          have hP7 := hid (hP6.out.below hb.out)
          have hR7 := hid (hR6.out.below hb.out)
          have hva := hid (fun x hx => And.intro ((hva.out x hx).1.below hb.out) (hva.out x hx).2)
          have hvb := hid (fun x hx => (hvb.out x hx).below hb.out)
          have hrA := hid (hrA.out.below_all hb.out)
          have hrB := hid (hrB.out.below_all hb.out)
          have hB7 := hid (hB6.out.trans (hb.out.mono hB6.out.size))
          clear hb hP6 hR6 hB6
          rename World => w7
          go_wp2_with fail
          go_loopw [16] (fun v wr => ∃ i : Nat, v = .int .i64 i ∧ i ≤ As.length ∧ Below w7.heap.size w7 wr) (fun v _ => As.length - (intOf v).toNat)
          case atStart => exact ⟨0, rfl, Nat.zero_le _, Below.refl _ _⟩
          case round =>
            obtain ⟨i, rfl, hi, hb0⟩ := hrel
            have hb := hid hb0
            clear hb0
            by_cases hlt : i < As.length
            · as_aux_lemma =>
              have i1 : (i : Int) < (As.length : Int) := by omega
              have i1b : (i : Int) < (Bs.length : Int) := by have := hAB.out; omega
              have i2 : IntKind.i64.wrap ((i : Int) + 1) = (i : Int) + 1 := by rw [IntKind.wrap_i64]; have := hAl.out; simp only [maxLen] at this; omega
              have hltB : i < Bs.length := by have := hAB.out; omega
              go_upto_region 47 with fail
              have hs2 : As[i].2 = Bs[i].2 := by
                have h1 : (As.map (·.2))[i]? = (Bs.map (·.2))[i]? := by rw [hsn.out]
                simpa [hlt, hltB] using h1
              have hVv0 := hid ((hva.out _ (List.getElem_mem hlt)).1.below hb.out)
              have hxok := hid (hva.out _ (List.getElem_mem hlt)).2
              have hBv0 := hid ((hvb.out _ (List.getElem_mem hltB)).below hb.out)
              rw [← hs2] at hBv0
              obtain ⟨bA, oA, hA9, _, hlA, hcA⟩ := (hrA.out.below_all hb.out).at_ hlt
              obtain ⟨bB, oB, hB9, _, hlB, hcB⟩ := (hrB.out.below_all hb.out).at_ hltB
              have x0 := hcA i (.pointer (some ⟨As[i].1, 0, none⟩)) (by simp [ptrs, hlt])
              have x1 := hcB i (.pointer (some ⟨Bs[i].1, 0, none⟩)) (by simp [ptrs, hltB])
              generalize As[i].1 = gA at *
              generalize Bs[i].1 = gB at *
              generalize As[i].2 = x at *
              obtain rfl := hA9
              obtain rfl := hB9
              have hY := hid (fun W (hW : Below wr.heap.size wr W) => (show W.cell? ⟨bA, oA + i, none⟩ = some (.pointer (some ⟨gA, 0, none⟩)) ∧ W.cell? ⟨bB, oB + i, none⟩ = some (.pointer (some ⟨gB, 0, none⟩)) from ⟨cell_bel hW hlA x0, cell_bel hW hlB x1⟩))
              have hiH := hid hlt
              clear hlt hi x0 x1 hcA hcB hs2 hltB hva hvb hrA hrB hsn hlA hlB
              refine wp_region_held_drew (S := fun w' => Below wr.heap.size wr w') (by kernel_rfl) ?_ (fun hHeld => ?_)
              · exact (Below.refl _ _).drew
              have hbd := hid ((Below.refl wr.heap.size wr).drew)
              have hVv := hid (hVv0.out.below hbd.out)
              have hBv := hid (hBv0.out.below hbd.out)
              generalize World.drew wr = wv at *
              refine wpAnyH_take (i := 0) (v := ?v25) rfl (by kernel_rfl) (by kernel_rfl) (by kernel_rfl) (fun _ _ _ h => h) (Or.inl ⟨by rfl, ?hy25⟩) (by assumption) ?rest25
              case hy25 => intro w' hSw; (try dsimp only at hSw); go_simp; try with_reducible rfl
              (try simp only [Act.put, List.setIfInBounds_toArray, List.set_cons_zero, List.set_cons_succ, List.getElem_toArray, List.getElem_cons_zero, List.getElem_cons_succ])
              refine wpAnyH_take (i := 1) (v := ?v26) rfl (by kernel_rfl) (by kernel_rfl) (by kernel_rfl) (fun _ _ _ h => h) (Or.inl ⟨by rfl, ?hy26⟩) (by assumption) ?rest26
              case hy26 => intro w' hSw; (try dsimp only at hSw); go_simp; try with_reducible rfl
              (try simp only [Act.put, List.setIfInBounds_toArray, List.set_cons_zero, List.set_cons_succ, List.getElem_toArray, List.getElem_cons_zero, List.getElem_cons_succ])
              refine wpAnyH_take (i := 2) (v := ?v27) rfl (by kernel_rfl) (by kernel_rfl) (by kernel_rfl) (fun _ _ _ h => h) (Or.inl ⟨by rfl, ?hy27⟩) (by assumption) ?rest27
              case hy27 => intro w' hSw; obtain ⟨q0, q1⟩ := hY.out w' hSw; (try dsimp only at hSw); go_simp; try with_reducible rfl
              (try simp only [Act.put, List.setIfInBounds_toArray, List.set_cons_zero, List.set_cons_succ, List.getElem_toArray, List.getElem_cons_zero, List.getElem_cons_succ])
              refine wpAnyH_take (i := 3) (v := ?v28) rfl (by kernel_rfl) (by kernel_rfl) (by kernel_rfl) (fun _ _ _ h => h) (Or.inl ⟨by rfl, ?hy28⟩) (by assumption) ?rest28
              case hy28 => intro w' hSw; obtain ⟨q0, q1⟩ := hY.out w' hSw; (try dsimp only at hSw); go_simp; try with_reducible rfl
              (try simp only [Act.put, List.setIfInBounds_toArray, List.set_cons_zero, List.set_cons_succ, List.getElem_toArray, List.getElem_cons_zero, List.getElem_cons_succ])
              refine wpAnyH_take (i := 4) (v := ?v29) rfl (by kernel_rfl) (by kernel_rfl) (by kernel_rfl) (fun _ _ _ h => h) (Or.inl ⟨by rfl, ?hy29⟩) (by assumption) ?rest29
              case hy29 => intro w' hSw; (try dsimp only at hSw); go_simp; try with_reducible rfl
              (try simp only [Act.put, List.setIfInBounds_toArray, List.set_cons_zero, List.set_cons_succ, List.getElem_toArray, List.getElem_cons_zero, List.getElem_cons_succ])
              refine wpAnyH_take (i := 5) (v := ?v30) rfl (by kernel_rfl) (by kernel_rfl) (by kernel_rfl) (fun _ _ _ h => h) (Or.inl ⟨by rfl, ?hy30⟩) (by assumption) ?rest30
              case hy30 => intro w' hSw; (try dsimp only at hSw); go_simp; try with_reducible rfl
              (try simp only [Act.put, List.setIfInBounds_toArray, List.set_cons_zero, List.set_cons_succ, List.getElem_toArray, List.getElem_cons_zero, List.getElem_cons_succ])
              refine wpAnyH_take (i := 6) (v := ?v31) rfl (by kernel_rfl) (by kernel_rfl) (by kernel_rfl) (fun _ _ _ h => h) (Or.inl ⟨by rfl, ?hy31⟩) (by assumption) ?rest31
              case hy31 => intro w' hSw; (try dsimp only at hSw); go_simp; try with_reducible rfl
              (try simp only [Act.put, List.setIfInBounds_toArray, List.set_cons_zero, List.set_cons_succ, List.getElem_toArray, List.getElem_cons_zero, List.getElem_cons_succ])
              refine wpAnyH_take (i := 7) (v := ?v32) rfl (by kernel_rfl) (by kernel_rfl) (by kernel_rfl) (fun _ _ _ h => h) (Or.inl ⟨by rfl, ?hy32⟩) (by assumption) ?rest32
              case hy32 => intro w' hSw; (try dsimp only at hSw); go_simp; try with_reducible rfl
              (try simp only [Act.put, List.setIfInBounds_toArray, List.set_cons_zero, List.set_cons_succ, List.getElem_toArray, List.getElem_cons_zero, List.getElem_cons_succ])
              refine wpAnyH_take (i := 8) (v := ?v33) rfl (by kernel_rfl) (by kernel_rfl) (by kernel_rfl) (fun _ _ _ h => h) (Or.inl ⟨by rfl, ?hy33⟩) (by assumption) ?rest33
              case hy33 => intro w' hSw; obtain ⟨q0, q1⟩ := hY.out w' hSw; (try dsimp only at hSw); go_simp; try with_reducible rfl
              (try simp only [Act.put, List.setIfInBounds_toArray, List.set_cons_zero, List.set_cons_succ, List.getElem_toArray, List.getElem_cons_zero, List.getElem_cons_succ])
              refine wpAnyH_take (i := 9) (v := ?v34) rfl (by kernel_rfl) (by kernel_rfl) (by kernel_rfl) (fun _ _ _ h => h) (Or.inl ⟨by rfl, ?hy34⟩) (by assumption) ?rest34
              case hy34 => intro w' hSw; obtain ⟨q0, q1⟩ := hY.out w' hSw; (try dsimp only at hSw); go_simp; try with_reducible rfl
              (try simp only [Act.put, List.setIfInBounds_toArray, List.set_cons_zero, List.set_cons_succ, List.getElem_toArray, List.getElem_cons_zero, List.getElem_cons_succ])
              refine wpAnyH_take (i := 11) (v := ?v35) rfl (by kernel_rfl) (by kernel_rfl) (by kernel_rfl) (fun _ _ _ h => h) (Or.inl ⟨by rfl, ?hy35⟩) (by assumption) ?rest35
              case hy35 => intro w' hSw; (try dsimp only at hSw); go_simp; try with_reducible rfl
              (try simp only [Act.put, List.setIfInBounds_toArray, List.set_cons_zero, List.set_cons_succ, List.getElem_toArray, List.getElem_cons_zero, List.getElem_cons_succ])
              refine wpAnyH_take (i := 12) (v := ?v36) rfl (by kernel_rfl) (by kernel_rfl) (by kernel_rfl) (fun _ _ _ h => h) (Or.inl ⟨by rfl, ?hy36⟩) (by assumption) ?rest36
              case hy36 => intro w' hSw; (try dsimp only at hSw); go_simp; try with_reducible rfl
              (try simp only [Act.put, List.setIfInBounds_toArray, List.set_cons_zero, List.set_cons_succ, List.getElem_toArray, List.getElem_cons_zero, List.getElem_cons_succ])
              refine wpAnyH_take (i := 13) (v := ?v37) rfl (by kernel_rfl) (by kernel_rfl) (by kernel_rfl) (fun _ _ _ h => h) (Or.inl ⟨by rfl, ?hy37⟩) (by assumption) ?rest37
              case hy37 => intro w' hSw; obtain ⟨q0, q1⟩ := hY.out w' hSw; (try dsimp only at hSw); go_simp; try with_reducible rfl
              (try simp only [Act.put, List.setIfInBounds_toArray, List.set_cons_zero, List.set_cons_succ, List.getElem_toArray, List.getElem_cons_zero, List.getElem_cons_succ])
              refine wpAnyH_take (i := 14) (v := ?v38) rfl (by kernel_rfl) (by kernel_rfl) (by kernel_rfl) (fun _ _ _ h => h) (Or.inl ⟨by rfl, ?hy38⟩) (by assumption) ?rest38
              case hy38 => intro w' hSw; obtain ⟨q0, q1⟩ := hY.out w' hSw; (try dsimp only at hSw); go_simp; try with_reducible rfl
              (try simp only [Act.put, List.setIfInBounds_toArray, List.set_cons_zero, List.set_cons_succ, List.getElem_toArray, List.getElem_cons_zero, List.getElem_cons_succ])
              refine wpAnyH_ready (rs := [10]) (by kernel_rfl) (by simp) ?_
              refine AllReadyH.cons rfl (fun K hK => ?_) AllReadyH.nil
              rw [if_pos (by rfl)]
              go_simp
              refine (vdump_any hVv.out hxok.out).mono ?_
              rintro e wa ⟨A1, c1, rfl, ho10, hb10⟩
              have ho1 := hid ho10
              have hb1 := hid hb10
              clear ho10 hb10
              refine hK.out _ _ ?_ (fun hHeld => ?_)
              · exact hbd.out.trans (hb1.out.mono hbd.out.size)
              clear hK K
              (try simp only [Act.put, List.setIfInBounds_toArray, List.set_cons_zero, List.set_cons_succ, List.getElem_toArray, List.getElem_cons_zero, List.getElem_cons_succ])
              refine wpAnyH_ready (rs := [15]) (by kernel_rfl) (by simp) ?_
              refine AllReadyH.cons rfl (fun K hK => ?_) AllReadyH.nil
              rw [if_pos (by rfl)]
              go_simp
              refine (rdump_any (hBv.out.below hb1.out)).mono ?_
              rintro e wb ⟨A2, c2, rfl, ho20, hb20⟩
              have ho2 := hid ho20
              have ho1 := hid (own_below ho1.out hb20)
              have hb2 := hid (hb1.out.trans (hb20.mono hb1.out.size))
              clear ho20 hb20 hb1
              refine hK.out _ _ ?_ (fun hHeld => ?_)
              · exact hbd.out.trans (hb2.out.mono hbd.out.size)
              clear hK K
              (try simp only [Act.put, List.setIfInBounds_toArray, List.set_cons_zero, List.set_cons_succ, List.getElem_toArray, List.getElem_cons_zero, List.getElem_cons_succ])
              refine wpAnyH_ready (rs := [16]) (by kernel_rfl) (by simp) ?_
              refine AllReadyH.cons rfl (fun K hK => ?_) AllReadyH.nil
              rw [if_pos (by rfl)]
              go_simp
              refine (items_eq (c := c1) (d := c2) (dumpL x.L) (Rd.of_own' ho1.out) (Rd.of_own' ho2.out) (Nat.le_trans (List.length_filter_le _ _) (by have := hxok.out.len; omega))).mono ?_
              rintro e wc ⟨rfl, hb30⟩
              have hb3 := hid (hb2.out.trans (hb30.mono hb2.out.size))
              clear hb30 hb2 ho1 ho2
              refine hK.out _ _ ?_ (fun hHeld => ?_)
              · exact hbd.out.trans (hb3.out.mono hbd.out.size)
              clear hK K
              (try simp only [Act.put, List.setIfInBounds_toArray, List.set_cons_zero, List.set_cons_succ, List.getElem_toArray, List.getElem_cons_zero, List.getElem_cons_succ])
              refine wpAnyH_take (i := 17) (v := ?v39) rfl (by kernel_rfl) (by kernel_rfl) (by kernel_rfl) (fun _ _ _ h => h) (Or.inl ⟨by rfl, ?hy39⟩) (by assumption) ?rest39
              case hy39 => intro w' hSw; (try dsimp only at hSw); go_simp; try with_reducible rfl
              (try simp only [Act.put, List.setIfInBounds_toArray, List.set_cons_zero, List.set_cons_succ, List.getElem_toArray, List.getElem_cons_zero, List.getElem_cons_succ])
              refine wpAnyH_take (i := 18) (v := ?v40) rfl (by kernel_rfl) (by kernel_rfl) (by kernel_rfl) (fun _ _ _ h => h) (Or.inl ⟨by rfl, ?hy40⟩) (by assumption) ?rest40
              case hy40 => intro w' hSw; (try dsimp only at hSw); go_simp; try with_reducible rfl
              (try simp only [Act.put, List.setIfInBounds_toArray, List.set_cons_zero, List.set_cons_succ, List.getElem_toArray, List.getElem_cons_zero, List.getElem_cons_succ])
              refine wpAnyH_done (by kernel_rfl) ?_ _
              go_wp2_with fail
              have hb8 := hid (hb.out.trans ((hbd.out.trans (hb3.out.mono hbd.out.size)).mono hb.out.size))
              have hB8 := hid (hB7.out.trans (hb8.out.mono hB7.out.size))
              have hV8 := hid (hVv.out.below hb3.out)
              have hR8 := hid (hBv.out.below hb3.out)
              have hY8 := hid (fun W (hW : Below wc.heap.size wc W) => hY.out W ((hbd.out.trans (hb3.out.mono hbd.out.size)).trans (hW.mono (by have := hbd.out.size; have := hb3.out.size; omega))))
              clear hb3 hVv hBv hVv0 hBv0 hY hHeld hbd hb
              rename World => w8
              go_loopw [17] (fun v wr => ∃ j : Nat, v = .int .i64 j ∧ j ≤ ks.length ∧ Below w8.heap.size w8 wr) (fun v _ => ks.length - (intOf v).toNat)
              case atStart => exact ⟨0, rfl, Nat.zero_le _, Below.refl _ _⟩
              case round =>
                obtain ⟨j, rfl, hj, hb0⟩ := hrel
                rename World => wt
                have hbt := hid hb0
                clear hb0
                by_cases hlt : j < ks.length
                · as_aux_lemma =>
                  have i1 : (j : Int) < (ks.length : Int) := by omega
                  have i2 : IntKind.i64.wrap ((j : Int) + 1) = (j : Int) + 1 := by rw [IntKind.wrap_i64]; have := hkn.out; omega
                  go_upto_region 52 with fail
                  have hVu0 := hid (hV8.out.below hbt.out)
                  have hBu0 := hid (hR8.out.below hbt.out)
                  obtain ⟨b9, o9, hA9, _, hl9, x0⟩ := rd_strs (hks.out.below_all (hB8.out.trans (hbt.out.mono hB8.out.size))) hlt
                  obtain rfl := hA9
                  generalize ks[j] = y at *
                  have hZ := hid (fun W (hW : Below wt.heap.size wt W) => (show W.cell? ⟨bA, oA + i, none⟩ = some (.pointer (some ⟨gA, 0, none⟩)) ∧ W.cell? ⟨bB, oB + i, none⟩ = some (.pointer (some ⟨gB, 0, none⟩)) ∧ W.cell? ⟨b9, o9 + j, none⟩ = some (.string y) from ⟨(hY8.out W (hbt.out.trans (hW.mono hbt.out.size))).1, (hY8.out W (hbt.out.trans (hW.mono hbt.out.size))).2, cell_bel hW hl9 x0⟩))
                  have hltH := hid hlt
                  clear hlt hj x0 hl9
                  refine wp_region_held_drew (S := fun w' => Below wt.heap.size wt w') (by kernel_rfl) ?_ (fun hHeld => ?_)
                  · exact (Below.refl _ _).drew
                  have hbd := hid ((Below.refl wt.heap.size wt).drew)
                  have hVu := hid (hVu0.out.below hbd.out)
                  have hBu := hid (hBu0.out.below hbd.out)
                  generalize World.drew wt = wu at *
                  refine wpAnyH_take (i := 0) (v := ?v41) rfl (by kernel_rfl) (by kernel_rfl) (by kernel_rfl) (fun _ _ _ h => h) (Or.inl ⟨by rfl, ?hy41⟩) (by assumption) ?rest41
                  case hy41 => intro w' hSw; (try dsimp only at hSw); go_simp; try with_reducible rfl
                  (try simp only [Act.put, List.setIfInBounds_toArray, List.set_cons_zero, List.set_cons_succ, List.getElem_toArray, List.getElem_cons_zero, List.getElem_cons_succ])
                  refine wpAnyH_take (i := 1) (v := ?v42) rfl (by kernel_rfl) (by kernel_rfl) (by kernel_rfl) (fun _ _ _ h => h) (Or.inl ⟨by rfl, ?hy42⟩) (by assumption) ?rest42
                  case hy42 => intro w' hSw; (try dsimp only at hSw); go_simp; try with_reducible rfl
                  (try simp only [Act.put, List.setIfInBounds_toArray, List.set_cons_zero, List.set_cons_succ, List.getElem_toArray, List.getElem_cons_zero, List.getElem_cons_succ])
                  refine wpAnyH_take (i := 2) (v := ?v43) rfl (by kernel_rfl) (by kernel_rfl) (by kernel_rfl) (fun _ _ _ h => h) (Or.inl ⟨by rfl, ?hy43⟩) (by assumption) ?rest43
                  case hy43 => intro w' hSw; obtain ⟨q0, q1, q2⟩ := hZ.out w' hSw; (try dsimp only at hSw); go_simp; try with_reducible rfl
                  (try simp only [Act.put, List.setIfInBounds_toArray, List.set_cons_zero, List.set_cons_succ, List.getElem_toArray, List.getElem_cons_zero, List.getElem_cons_succ])
                  refine wpAnyH_take (i := 3) (v := ?v44) rfl (by kernel_rfl) (by kernel_rfl) (by kernel_rfl) (fun _ _ _ h => h) (Or.inl ⟨by rfl, ?hy44⟩) (by assumption) ?rest44
                  case hy44 => intro w' hSw; obtain ⟨q0, q1, q2⟩ := hZ.out w' hSw; (try dsimp only at hSw); go_simp; try with_reducible rfl
                  (try simp only [Act.put, List.setIfInBounds_toArray, List.set_cons_zero, List.set_cons_succ, List.getElem_toArray, List.getElem_cons_zero, List.getElem_cons_succ])
                  refine wpAnyH_take (i := 4) (v := ?v45) rfl (by kernel_rfl) (by kernel_rfl) (by kernel_rfl) (fun _ _ _ h => h) (Or.inl ⟨by rfl, ?hy45⟩) (by assumption) ?rest45
                  case hy45 => intro w' hSw; (try dsimp only at hSw); go_simp; try with_reducible rfl
                  (try simp only [Act.put, List.setIfInBounds_toArray, List.set_cons_zero, List.set_cons_succ, List.getElem_toArray, List.getElem_cons_zero, List.getElem_cons_succ])
                  refine wpAnyH_take (i := 5) (v := ?v46) rfl (by kernel_rfl) (by kernel_rfl) (by kernel_rfl) (fun _ _ _ h => h) (Or.inl ⟨by rfl, ?hy46⟩) (by assumption) ?rest46
                  case hy46 => intro w' hSw; (try dsimp only at hSw); go_simp; try with_reducible rfl
                  (try simp only [Act.put, List.setIfInBounds_toArray, List.set_cons_zero, List.set_cons_succ, List.getElem_toArray, List.getElem_cons_zero, List.getElem_cons_succ])
                  refine wpAnyH_take (i := 6) (v := ?v47) rfl (by kernel_rfl) (by kernel_rfl) (by kernel_rfl) (fun _ _ _ h => h) (Or.inl ⟨by rfl, ?hy47⟩) (by assumption) ?rest47
                  case hy47 => intro w' hSw; obtain ⟨q0, q1, q2⟩ := hZ.out w' hSw; (try dsimp only at hSw); go_simp; try with_reducible rfl
                  (try simp only [Act.put, List.setIfInBounds_toArray, List.set_cons_zero, List.set_cons_succ, List.getElem_toArray, List.getElem_cons_zero, List.getElem_cons_succ])
                  refine wpAnyH_take (i := 7) (v := ?v48) rfl (by kernel_rfl) (by kernel_rfl) (by kernel_rfl) (fun _ _ _ h => h) (Or.inl ⟨by rfl, ?hy48⟩) (by assumption) ?rest48
                  case hy48 => intro w' hSw; obtain ⟨q0, q1, q2⟩ := hZ.out w' hSw; (try dsimp only at hSw); go_simp; try with_reducible rfl
                  (try simp only [Act.put, List.setIfInBounds_toArray, List.set_cons_zero, List.set_cons_succ, List.getElem_toArray, List.getElem_cons_zero, List.getElem_cons_succ])
                  refine wpAnyH_take (i := 9) (v := ?v49) rfl (by kernel_rfl) (by kernel_rfl) (by kernel_rfl) (fun _ _ _ h => h) (Or.inl ⟨by rfl, ?hy49⟩) (by assumption) ?rest49
                  case hy49 => intro w' hSw; (try dsimp only at hSw); go_simp; try with_reducible rfl
                  (try simp only [Act.put, List.setIfInBounds_toArray, List.set_cons_zero, List.set_cons_succ, List.getElem_toArray, List.getElem_cons_zero, List.getElem_cons_succ])
                  refine wpAnyH_take (i := 10) (v := ?v50) rfl (by kernel_rfl) (by kernel_rfl) (by kernel_rfl) (fun _ _ _ h => h) (Or.inl ⟨by rfl, ?hy50⟩) (by assumption) ?rest50
                  case hy50 => intro w' hSw; (try dsimp only at hSw); go_simp; try with_reducible rfl
                  (try simp only [Act.put, List.setIfInBounds_toArray, List.set_cons_zero, List.set_cons_succ, List.getElem_toArray, List.getElem_cons_zero, List.getElem_cons_succ])
                  refine wpAnyH_take (i := 11) (v := ?v51) rfl (by kernel_rfl) (by kernel_rfl) (by kernel_rfl) (fun _ _ _ h => h) (Or.inl ⟨by rfl, ?hy51⟩) (by assumption) ?rest51
                  case hy51 => intro w' hSw; obtain ⟨q0, q1, q2⟩ := hZ.out w' hSw; (try dsimp only at hSw); go_simp; try with_reducible rfl
                  (try simp only [Act.put, List.setIfInBounds_toArray, List.set_cons_zero, List.set_cons_succ, List.getElem_toArray, List.getElem_cons_zero, List.getElem_cons_succ])
                  refine wpAnyH_take (i := 12) (v := ?v52) rfl (by kernel_rfl) (by kernel_rfl) (by kernel_rfl) (fun _ _ _ h => h) (Or.inl ⟨by rfl, ?hy52⟩) (by assumption) ?rest52
                  case hy52 => intro w' hSw; obtain ⟨q0, q1, q2⟩ := hZ.out w' hSw; (try dsimp only at hSw); go_simp; try with_reducible rfl
                  (try simp only [Act.put, List.setIfInBounds_toArray, List.set_cons_zero, List.set_cons_succ, List.getElem_toArray, List.getElem_cons_zero, List.getElem_cons_succ])
                  refine wpAnyH_take (i := 13) (v := ?v53) rfl (by kernel_rfl) (by kernel_rfl) (by kernel_rfl) (fun _ _ _ h => h) (Or.inl ⟨by rfl, ?hy53⟩) (by assumption) ?rest53
                  case hy53 => intro w' hSw; (try dsimp only at hSw); go_simp; try with_reducible rfl
                  (try simp only [Act.put, List.setIfInBounds_toArray, List.set_cons_zero, List.set_cons_succ, List.getElem_toArray, List.getElem_cons_zero, List.getElem_cons_succ])
                  refine wpAnyH_take (i := 14) (v := ?v54) rfl (by kernel_rfl) (by kernel_rfl) (by kernel_rfl) (fun _ _ _ h => h) (Or.inl ⟨by rfl, ?hy54⟩) (by assumption) ?rest54
                  case hy54 => intro w' hSw; (try dsimp only at hSw); go_simp; try with_reducible rfl
                  (try simp only [Act.put, List.setIfInBounds_toArray, List.set_cons_zero, List.set_cons_succ, List.getElem_toArray, List.getElem_cons_zero, List.getElem_cons_succ])
                  refine wpAnyH_take (i := 15) (v := ?v55) rfl (by kernel_rfl) (by kernel_rfl) (by kernel_rfl) (fun _ _ _ h => h) (Or.inl ⟨by rfl, ?hy55⟩) (by assumption) ?rest55
                  case hy55 => intro w' hSw; obtain ⟨q0, q1, q2⟩ := hZ.out w' hSw; (try dsimp only at hSw); go_simp; try with_reducible rfl
                  (try simp only [Act.put, List.setIfInBounds_toArray, List.set_cons_zero, List.set_cons_succ, List.getElem_toArray, List.getElem_cons_zero, List.getElem_cons_succ])
                  refine wpAnyH_take (i := 16) (v := ?v56) rfl (by kernel_rfl) (by kernel_rfl) (by kernel_rfl) (fun _ _ _ h => h) (Or.inl ⟨by rfl, ?hy56⟩) (by assumption) ?rest56
                  case hy56 => intro w' hSw; obtain ⟨q0, q1, q2⟩ := hZ.out w' hSw; (try dsimp only at hSw); go_simp; try with_reducible rfl
                  (try simp only [Act.put, List.setIfInBounds_toArray, List.set_cons_zero, List.set_cons_succ, List.getElem_toArray, List.getElem_cons_zero, List.getElem_cons_succ])
                  refine wpAnyH_ready (rs := [8]) (by kernel_rfl) (by simp) ?_
                  refine AllReadyH.cons rfl (fun K hK => ?_) AllReadyH.nil
                  go_simp
                  refine (vget_any y hVu.out hxok.out).mono ?_
                  rintro e wa ⟨rfl, hb10⟩
                  have hb1 := hid hb10
                  clear hb10
                  refine hK.out _ _ ?_ (fun hHeld => ?_)
                  · exact hbd.out.trans (hb1.out.mono hbd.out.size)
                  clear hK K
                  (try simp only [Act.put, List.setIfInBounds_toArray, List.set_cons_zero, List.set_cons_succ, List.getElem_toArray, List.getElem_cons_zero, List.getElem_cons_succ])
                  refine wpAnyH_ready (rs := [17]) (by kernel_rfl) (by simp) ?_
                  refine AllReadyH.cons rfl (fun K hK => ?_) AllReadyH.nil
                  go_simp
                  refine (rget_any y (hBu.out.below hb1.out)).mono ?_
                  rintro e wb ⟨rfl, hb20⟩
                  have hb2 := hid (hb1.out.trans (hb20.mono hb1.out.size))
                  clear hb20 hb1
                  refine hK.out _ _ ?_ (fun hHeld => ?_)
                  · exact hbd.out.trans (hb2.out.mono hbd.out.size)
                  clear hK K
                  (try simp only [Act.put, List.setIfInBounds_toArray, List.set_cons_zero, List.set_cons_succ, List.getElem_toArray, List.getElem_cons_zero, List.getElem_cons_succ])
                  generalize valK y x.L = vv at *
                  refine wpAnyH_take (i := 18) (v := ?v57) rfl (by kernel_rfl) (by kernel_rfl) (by kernel_rfl) (fun _ _ _ h => h) (Or.inl ⟨by rfl, ?hy57⟩) (by assumption) ?rest57
                  case hy57 => intro w' hSw; have hq := neqValF vv; (try dsimp only at hSw); go_simp; try with_reducible rfl
                  (try simp only [Act.put, List.setIfInBounds_toArray, List.set_cons_zero, List.set_cons_succ, List.getElem_toArray, List.getElem_cons_zero, List.getElem_cons_succ])
                  refine wpAnyH_done (by kernel_rfl) ?_ _
                  go_wp2_with fail
                  go_roundw
                  case rel => exact ⟨j + 1, by go_num, hltH.out, hbt.out.trans ((hbd.out.trans (hb2.out.mono hbd.out.size)).mono hbt.out.size)⟩
                  case measure => simp [intOf]; have := hltH.out; omega
                · obtain rfl : j = ks.length := by omega
                  clear hlt hj
                  have hbe := hid (hb8.out.trans (hbt.out.mono hb8.out.size))
                  go_wp2_with fail
                  go_roundw
                  case rel => exact ⟨i + 1, by go_num, hiH.out, hbe.out⟩
                  case measure => simp [intOf]; have := hiH.out; omega
            · obtain rfl : i = As.length := by omega
              clear hlt hi
              have hPf := hid (hP7.out.below hb.out)
              have hRf := hid (hR7.out.below hb.out)
              have hEf := hid (hE.out.below (hB7.out.trans (hb.out.mono hB7.out.size)))
              have hBf := hid (hB7.out.trans (hb.out.mono hB7.out.size))
              clear hb hva hvb hrA hrB hsn hAB
              go_wp2_with fail
              refine (fresh_any hPf.out hRf.out hEf.out hRng.out).mono ?_
              rintro e wf ⟨rfl, hbf⟩
              have hfin := hid (hBf.out.trans (hbf.mono hBf.out.size))
              clear hbf
              go_wp2_with fail
              go_ret
              exact ⟨rfl, hfin.out⟩
end
end Go.Proofs.YtphglnenafdkaaaGreatDoor

namespace Go.Proofs.YtphglnenafdkaaaGreatDoor
open Go.RowKit Go.Deep Go.ChangeShapes
set_option linter.unusedVariables false

theorem bulk_app {H : Type} (l r : List (DataW H)) : Rows.uptoBulkAll (l ++ r) = Rows.uptoBulkAll l + Rows.uptoBulkAll r := by
  induction l with
  | nil => simp [Rows.uptoBulkAll]
  | cons x l ih => simp only [List.cons_append, Rows.uptoBulkAll, ih]; omega
theorem cell_lt {w : World} {a : Addr} {v : Value} (h : w.cell? a = some v) : a.block < w.heap.size := by
  by_cases hl : a.block < w.heap.size
  · exact hl
  · exfalso
    have : w.heap[a.block]? = none := by simp; omega
    unfold World.cell? at h
    split at h <;> simp_all
theorem add_plain (b o j : Nat) : (⟨b, o, none⟩ : Addr).add j = ⟨b, o + j, none⟩ := by
  unfold Addr.add; split <;> simp_all
theorem flat_len {α : Type} (f : α → List Value) (sz : Nat) (hf : ∀ a, (f a).length = sz) (us : List α) : (us.flatMap f).length = us.length * sz := by
  induction us with
  | nil => simp
  | cons r l ih => rw [List.flatMap_cons, List.length_append, hf, ih, List.length_cons, Nat.succ_mul]; omega
/-- rows chosen one by one -/
theorem pick {α H : Type} (D : Nat → DataW H) (μ : α → Nat) (R : Nat → α → Prop) : ∀ len : Nat, (∀ i, i < len → ∃ a, R i a ∧ μ a ≤ Rows.uptoBulk (D i)) →
    ∃ us : List α, us.length = len ∧ (∀ i (h : i < us.length), R i us[i]) ∧ (us.map μ).sum ≤ Rows.uptoBulkAll ((List.range len).map D) := by
  intro len
  induction len with
  | zero => intro _; exact ⟨[], rfl, fun i h => absurd h (by simp), by simp⟩
  | succ n ih =>
    intro h
    obtain ⟨us, hl, hR, hs⟩ := ih fun i hi => h i (by omega)
    obtain ⟨a, ha, hm⟩ := h n (by omega)
    refine ⟨us ++ [a], by simp [hl], fun i hi => ?_, ?_⟩
    · by_cases hin : i < us.length
      · rw [List.getElem_append_left hin]; exact hR i hin
      · have : i = us.length := by simp at hi; omega
        subst this
        rw [List.getElem_append_right (by omega)]
        simpa [hl] using ha
    · rw [List.range_succ, List.map_append (f := D), bulk_app]
      simp only [List.map_append, List.sum_append, List.map_cons, List.map_nil, List.sum_cons, List.sum_nil, Rows.uptoBulkAll]
      omega

/-- a slice's cells, element by element -/
theorem open_rows {α H : Type} {enc : TypeId × Value → H} {w : World} {base : Nat} {spare : Nat → Bool} {held : Bool} {t e : TypeId} {fuel : Nat} {cs : List Value} {x : DataW H × List MemPlace}
    (cf : α → List Value) (μ : α → Nat) (ok : α → Prop) (sz : Nat) (hsz : 0 < sz) (hcf : ∀ a, (cf a).length = sz) (ht : Tryz.prog.underlying t = some (.slice e)) (hce : Tryz.prog.cellsOf e = sz)
    (hE : ∀ n cs' y, DataW.trod enc Tryz.prog w base spare held n e cs' = some y → ∃ a, cs' = cf a ∧ ok a ∧ μ a ≤ Rows.uptoBulk y.1)
    (h : DataW.trod enc Tryz.prog w base spare held fuel t cs = some x) :
    ∃ (A : Option Addr) (us : List α) (c : Nat), cs = [.slice A us.length c] ∧ Rd (fun b => b < w.heap.size) w sz A us.length (us.flatMap cf) ∧ (∀ a ∈ us, ok a) ∧ (us.map μ).sum + 1 ≤ Rows.uptoBulk x.1 := by
  rcases open_slice ht h with ⟨rfl, rfl⟩ | ⟨a, len, cap, m, n, D, Pl, rfl, hb, hl, hm, hmm, rfl, hx⟩
  · exact ⟨none, [], 0, rfl, Rd.nil_, by simp, by simp [Rows.uptoBulk]⟩
  · have hlm : len ≤ m := by rw [hmm]; split <;> omega
    obtain ⟨us, hal, hR, hs⟩ := pick D μ (fun i r => ok r ∧ ∃ cs', cs' = cf r ∧ w.cells? base (a.add (i * sz)) sz = some cs') len (fun i hi => by
      obtain ⟨cs', h1, h2⟩ := hx i (by omega)
      rw [hce] at h1
      obtain ⟨r, e1, e2, e3⟩ := hE _ _ _ h2
      exact ⟨r, ⟨e2, cs', e1, h1⟩, e3⟩)
    refine ⟨some a, us, cap, by rw [hal], ⟨?_, fun h0 => ?_⟩, fun r hr => ?_, ?_⟩
    · exact flat_len cf sz hcf us
    · obtain ⟨_, cs0, e1, e2⟩ := hR 0 h0
      obtain ⟨_, h3, h4⟩ := World.cells?_some e2
      have h5 := h4 0 hsz
      rw [List.getElem?_eq_getElem (by omega)] at h5
      simp at h5
      obtain ⟨b, o, sp⟩ := a
      have h8 : sp = none := by have := World.cell?_spot h5; simpa [Addr.add] using this
      have h9 : b < w.heap.size := by have := cell_lt h5; simpa [Addr.add] using this
      subst h8
      refine ⟨b, o, rfl, h9, h9, fun j u hu => ?_⟩
      have hj : j / sz < us.length := by
        have h1 := (List.getElem?_eq_some_iff.1 hu).1
        rw [flat_len cf sz hcf] at h1
        exact Nat.div_lt_of_lt_mul (by rw [Nat.mul_comm]; exact h1)
      have hjm := Nat.mod_lt j hsz
      have hdm : j / sz * sz + j % sz = j := by rw [Nat.mul_comm]; exact Nat.div_add_mod j sz
      obtain ⟨_, cs1, f1, f2⟩ := hR _ hj
      obtain ⟨_, f3, f4⟩ := World.cells?_some f2
      have f5 := f4 _ hjm
      rw [add_plain, add_plain, Nat.add_assoc, hdm] at f5
      rw [← hdm, aflat_at cf sz hcf us _ _ hj hjm, ← f1, ← f5] at hu
      exact hu
    · obtain ⟨i, hi, rfl⟩ := List.mem_iff_getElem.1 hr
      exact (hR i hi).1
    · simp only [Rows.uptoBulk]; omega

end Go.Proofs.YtphglnenafdkaaaGreatDoor

namespace Go.Proofs.YtphglnenafdkaaaGreatDoor
open Go.RowKit Go.Deep Go.ChangeShapes
set_option linter.unusedVariables false
set_option linter.unusedSimpArgs false

theorem cof_int : Tryz.prog.cellsOf 3 = 1 := by kernel_rfl
theorem cof_i64 : Tryz.prog.cellsOf 2 = 1 := by kernel_rfl
theorem cof_bool : Tryz.prog.cellsOf 4 = 1 := by kernel_rfl
theorem cof_str : Tryz.prog.cellsOf 9 = 1 := by kernel_rfl
theorem cof_strs : Tryz.prog.cellsOf 25 = 1 := by kernel_rfl
theorem cof_val : Tryz.prog.cellsOf 38 = 3 := by kernel_rfl
theorem cof_wr : Tryz.prog.cellsOf 40 = 5 := by kernel_rfl
theorem cof_wrs : Tryz.prog.cellsOf 26 = 1 := by kernel_rfl
theorem cof_act : Tryz.prog.cellsOf 51 = 3 := by kernel_rfl
theorem cof_acts : Tryz.prog.cellsOf 22 = 1 := by kernel_rfl
theorem cof_story : Tryz.prog.cellsOf 24 = 3 := by kernel_rfl
/-- an int64's range -/
def rng64 (n : Int) : Prop := -9223372036854775808 ≤ n ∧ n ≤ 9223372036854775807
theorem rng_wf {n : Int} (h : (Lit.int IntKind.i64 n).wf = true) : rng64 n := by
  unfold Lit.wf at h
  simp at h
  obtain ⟨h1, h2⟩ := h
  simp only [IntKind.min, IntKind.max] at h1 h2
  exact ⟨h1, h2⟩
def muK (k : ByteArray) : Nat := k.size + 1
def muW (x : Wr) : Nat := x.key.size + x.v.s.size + 2
def muA (a : SA) : Nat := (a.ks.map muK).sum + (a.ws.map muW).sum + 3
section
variable {α : Type}
theorem sum_mem {f : α → Nat} : ∀ {l : List α} {a : α}, a ∈ l → f a ≤ (l.map f).sum
  | b :: l, a, h => by
    rw [List.map_cons, List.sum_cons]
    rcases List.mem_cons.1 h with rfl | h
    · omega
    · have := sum_mem (f := f) h; omega
theorem sum_mono {f h : α → Nat} (hf : ∀ a, f a ≤ h a) : ∀ l : List α, (l.map f).sum ≤ (l.map h).sum
  | [] => Nat.le_refl _
  | b :: l => by
    rw [List.map_cons, List.sum_cons, List.map_cons, List.sum_cons]
    have := sum_mono hf l; have := hf b; omega
theorem sum_len {f : α → Nat} (hf : ∀ a, 1 ≤ f a) : ∀ l : List α, l.length ≤ (l.map f).sum
  | [] => Nat.le_refl _
  | b :: l => by
    rw [List.map_cons, List.sum_cons, List.length_cons]
    have := sum_len hf l; have := hf b; omega
end
theorem muK_one (k : ByteArray) : 1 ≤ muK k := by unfold muK; omega
theorem muW_one (x : Wr) : 1 ≤ muW x := by unfold muW; omega
theorem muA_part (a : SA) : partA a + 3 ≤ muA a := by
  have h1 := sum_len muK_one a.ks
  have h2 := sum_len muW_one a.ws
  unfold partA muA
  omega
theorem muA_ok {a : SA} (h : muA a ≤ 1048576) : okKs a.ks ∧ okWs a.ws := by
  unfold muA at h
  refine ⟨fun k hk => ?_, fun x hx => ?_⟩
  · have := sum_mem (f := muK) hk
    unfold muK at this h
    omega
  · have := sum_mem (f := muW) hx
    have : muW x ≤ 1048576 := by omega
    unfold muW at this
    constructor <;> omega
theorem story_fits {us : List SA} (h : (us.map muA).sum ≤ 1048576) : us.length ≤ 1048576 ∧ partsA us ≤ 1048576 ∧ ∀ a ∈ us, okKs a.ks ∧ okWs a.ws := by
  have h1 := sum_len (f := muA) (fun a => by have := muA_part a; omega) us
  have h2 := sum_mono (f := partA) (h := muA) (fun a => by have := muA_part a; omega) us
  refine ⟨by omega, by unfold partsA; omega, fun a ha => muA_ok ?_⟩
  have := sum_mem (f := muA) ha
  omega
section
variable {H : Type} {enc : TypeId × Value → H} {w : World} {base : Nat} {spare : Nat → Bool} {held : Bool} {fuel : Nat} {cs : List Value} {x : DataW H × List MemPlace}

theorem fieldAt {fs : Array Field} {xs : List (DataW H × List MemPlace)} {n : Nat} (hf : ∀ (i : Nat) (f : Field), fs[i]? = some f → DataW.trod enc Tryz.prog w base spare held n f.type ((cs.drop f.offset).take (Tryz.prog.cellsOf f.type)) = xs[i]?) (i : Nat) {f : Field} (T : TypeId) (o k : Nat) {y : DataW H × List MemPlace}
    (hi : fs[i]? = some f) (hT : f.type = T) (ho : f.offset = o) (hc : Tryz.prog.cellsOf T = k) (hx : xs[i]? = some y) : DataW.trod enc Tryz.prog w base spare held n T ((cs.drop o).take k) = some y := by
  have := hf i f hi
  rw [hT, ho, hc, hx] at this
  exact this
set_option maxRecDepth 100000 in
theorem open_vl (h : DataW.trod enc Tryz.prog w base spare held fuel 38 cs = some x) : ∃ v : Vl, cs = [.int .i64 v.k, .int .i64 v.n, .string v.s] ∧ v.s.size + 1 ≤ Rows.uptoBulk x.1 ∧ rng64 v.n := by
  obtain ⟨xs, n, _, rfl, hl, hlen, hf⟩ := DataW.trod_struct Tryz.underlying38 h
  rw [cof_val] at hl
  match cs, hl, xs, hlen with
  | [c0, c1, c2], _, [y0, y1, y2], _ =>
    have h0 := fieldAt hf 0 3 0 1 (y := y0) rfl rfl rfl cof_int rfl
    have h1 := fieldAt hf 1 2 1 1 (y := y1) rfl rfl rfl cof_i64 rfl
    have h2 := fieldAt hf 2 9 2 1 (y := y2) rfl rfl rfl cof_str rfl
    obtain ⟨k, e0, r0, _⟩ := DataW.trod_int Tryz.underlying3 (x := y0) h0
    obtain ⟨i, e1, r1, w1⟩ := DataW.trod_int Tryz.underlying2 (x := y1) h1
    obtain ⟨s, e2, r2, _⟩ := DataW.trod_string Tryz.underlying9 (x := y2) h2
    simp at e0 e1 e2
    subst e0 e1 e2
    refine ⟨⟨k, i, s⟩, rfl, ?_, rng_wf w1⟩
    rw [r2]
    simp only [Rows.uptoBulk, Rows.uptoBulkAll, List.map_cons, List.map_nil]
    have : s.data.toList.length = s.size := Array.length_toList
    omega
set_option maxRecDepth 100000 in
theorem open_texts (h : DataW.trod enc Tryz.prog w base spare held fuel 25 cs = some x) :
    ∃ (A : Option Addr) (l : List ByteArray) (c : Nat), cs = [.slice A l.length c] ∧ Rd (fun b => b < w.heap.size) w 1 A l.length (strs l) ∧ (l.map muK).sum + 1 ≤ Rows.uptoBulk x.1 := by
  obtain ⟨A, l, c, e, hr, ho, hb⟩ := open_rows (α := ByteArray) (fun s => [Value.string s]) muK (fun _ => True) 1 (by omega) (fun _ => rfl) Tryz.underlying25 cof_str (fun n cs' y hy => by
    obtain ⟨s, e, r, _⟩ := DataW.trod_string Tryz.underlying9 hy
    refine ⟨s, e, trivial, ?_⟩
    rw [r]
    simp only [Rows.uptoBulk, muK]
    have : s.data.toList.length = s.size := Array.length_toList
    omega) h
  refine ⟨A, l, c, e, ?_, by omega⟩
  have : l.flatMap (fun s => [Value.string s]) = strs l := by
    clear hr hb e ho
    induction l with
    | nil => rfl
    | cons a l ih => rw [List.flatMap_cons, ih]; rfl
  rw [← this]; exact hr
set_option maxRecDepth 100000 in
theorem open_write (h : DataW.trod enc Tryz.prog w base spare held fuel 40 cs = some x) : ∃ y : Wr, cs = [.string y.key, .bool y.gone, .int .i64 y.v.k, .int .i64 y.v.n, .string y.v.s] ∧ muW y ≤ Rows.uptoBulk x.1 ∧ rng64 y.v.n := by
  obtain ⟨xs, n, _, rfl, hl, hlen, hf⟩ := DataW.trod_struct Tryz.underlying40 h
  rw [cof_wr] at hl
  match cs, hl, xs, hlen with
  | [c0, c1, c2, c3, c4], _, [y0, y1, y2], _ =>
    have h0 := fieldAt hf 0 9 0 1 (y := y0) rfl rfl rfl cof_str rfl
    have h1 := fieldAt hf 1 4 1 1 (y := y1) rfl rfl rfl cof_bool rfl
    have h2 := fieldAt hf 2 38 2 3 (y := y2) rfl rfl rfl cof_val rfl
    obtain ⟨k, e0, r0, _⟩ := DataW.trod_string Tryz.underlying9 (x := y0) h0
    obtain ⟨gn, e1, r1, _⟩ := DataW.trod_bool Tryz.underlying4 (x := y1) h1
    obtain ⟨v, e2, r2, hv⟩ := open_vl (x := y2) h2
    simp at e0 e1 e2
    obtain ⟨f1, f2, f3⟩ := e2
    subst e0 e1 f1 f2 f3
    refine ⟨⟨k, gn, v⟩, rfl, ?_, hv⟩
    simp only [Rows.uptoBulk, Rows.uptoBulkAll, List.map_cons, List.map_nil, muW]
    rw [r0]
    simp only [Rows.uptoBulk]
    have : k.data.toList.length = k.size := Array.length_toList
    omega
set_option maxRecDepth 100000 in
theorem open_writes (h : DataW.trod enc Tryz.prog w base spare held fuel 26 cs = some x) :
    ∃ (A : Option Addr) (l : List Wr) (c : Nat), cs = [.slice A l.length c] ∧ Rd (fun b => b < w.heap.size) w 5 A l.length (wrCells l) ∧ (l.map muW).sum + 1 ≤ Rows.uptoBulk x.1 ∧ ∀ x ∈ l, rng64 x.v.n := by
  obtain ⟨A, l, c, e, hr, ho, hb⟩ := open_rows (α := Wr) (fun x => [.string x.key, .bool x.gone, .int .i64 x.v.k, .int .i64 x.v.n, .string x.v.s]) muW (fun x => rng64 x.v.n) 5 (by omega) (fun _ => rfl) Tryz.underlying26 cof_wr (fun n cs' y hy => by
    obtain ⟨s, e, r, hv⟩ := open_write hy
    exact ⟨s, e, hv, r⟩) h
  exact ⟨A, l, c, e, hr, hb, ho⟩
set_option maxRecDepth 100000 in
theorem open_act (h : DataW.trod enc Tryz.prog w base spare held fuel 51 cs = some x) : ∃ a : SA, cs = scells a ∧ (a.ok (fun b => b < w.heap.size) w ∧ ∀ x ∈ a.ws, rng64 x.v.n) ∧ muA a ≤ Rows.uptoBulk x.1 := by
  obtain ⟨xs, n, _, rfl, hl, hlen, hf⟩ := DataW.trod_struct Tryz.underlying51 h
  rw [cof_act] at hl
  match cs, hl, xs, hlen with
  | [c0, c1, c2], _, [y0, y1, y2], _ =>
    have h0 := fieldAt hf 0 3 0 1 (y := y0) rfl rfl rfl cof_int rfl
    have h1 := fieldAt hf 1 25 1 1 (y := y1) rfl rfl rfl cof_strs rfl
    have h2 := fieldAt hf 2 26 2 1 (y := y2) rfl rfl rfl cof_wrs rfl
    obtain ⟨kind, e0, r0, _⟩ := DataW.trod_int Tryz.underlying3 (x := y0) h0
    obtain ⟨A1, ks, d1, e1, q1, b1⟩ := open_texts (x := y1) h1
    obtain ⟨A2, ws, d2, e2, q2, b2, v2⟩ := open_writes (x := y2) h2
    simp at e0 e1 e2
    subst e0 e1 e2
    refine ⟨⟨kind, ks, ws, A1, d1, A2, d2⟩, rfl, ⟨⟨q1, q2⟩, v2⟩, ?_⟩
    simp only [Rows.uptoBulk, Rows.uptoBulkAll, List.map_cons, List.map_nil, muA]
    rw [r0]
    simp only [Rows.uptoBulk]
    omega
set_option maxRecDepth 100000 in
theorem open_acts (h : DataW.trod enc Tryz.prog w base spare held fuel 22 cs = some x) :
    ∃ (A : Option Addr) (us : List SA) (c : Nat), cs = [.slice A us.length c] ∧ SActs (fun b => b < w.heap.size) w A us ∧ (us.map muA).sum + 1 ≤ Rows.uptoBulk x.1 ∧ ∀ a ∈ us, ∀ x ∈ a.ws, rng64 x.v.n := by
  obtain ⟨A, l, c, e, hr, ho, hb⟩ := open_rows scells muA (fun a => a.ok (fun b => b < w.heap.size) w ∧ ∀ x ∈ a.ws, rng64 x.v.n) 3 (by omega) (fun _ => rfl) Tryz.underlying22 cof_act (fun n cs' y hy => open_act hy) h
  exact ⟨A, l, c, e, ⟨hr, fun a ha => (ho a ha).1⟩, hb, fun a ha => (ho a ha).2⟩
set_option maxRecDepth 100000 in
theorem open_story (h : DataW.trod enc Tryz.prog w base spare held fuel 24 cs = some x) :
    ∃ (p r : Int) (A : Option Addr) (us : List SA) (c : Nat), cs = [.int .i64 p, .int .i64 r, .slice A us.length c] ∧ SActs (fun b => b < w.heap.size) w A us ∧ (us.map muA).sum ≤ Rows.uptoBulk x.1 ∧ ∀ a ∈ us, ∀ x ∈ a.ws, rng64 x.v.n := by
  obtain ⟨xs, k, _, rfl, hl, hlen, hf⟩ := DataW.trod_struct Tryz.underlying24 h
  rw [cof_story] at hl
  match cs, hl, xs, hlen with
  | [c0, c1, c2], _, [y0, y1, y2], _ =>
    have h0 := fieldAt hf 0 3 0 1 (y := y0) rfl rfl rfl cof_int rfl
    have h1 := fieldAt hf 1 3 1 1 (y := y1) rfl rfl rfl cof_int rfl
    have h2 := fieldAt hf 2 22 2 1 (y := y2) rfl rfl rfl cof_acts rfl
    obtain ⟨p, e0, r0, _⟩ := DataW.trod_int Tryz.underlying3 (x := y0) h0
    obtain ⟨r, e1, r1, _⟩ := DataW.trod_int Tryz.underlying3 (x := y1) h1
    obtain ⟨A, us, c, e2, ho, hb, hv⟩ := open_acts (x := y2) h2
    simp at e0 e1 e2
    subst e0 e1 e2
    exact ⟨p, r, A, us, c, rfl, ho, by simp only [Rows.uptoBulk, Rows.uptoBulkAll, List.map_cons, List.map_nil]; omega, hv⟩
end
end Go.Proofs.YtphglnenafdkaaaGreatDoor

namespace Go.Proofs.YtphglnenafdkaaaGreatDoor
open Go.ChangeShapes Go.WideShapes Go.ChangeAt Go.RowKit

theorem trodAll_below {H : Type} {enc : TypeId × Value → H} {P : Program} (hl : laidOutB P = true) {W W' : World} (hb : Below W.heap.size W W') :
    ∀ {ts : List TypeId} {vs : List Value} {ds : List (DataW H)} {ps : List MemPlace}, ts.all (fun t => P.readableRec t && decide (t < P.types.size)) = true → (∀ x ∈ ps, x.block < W.heap.size) →
      DataW.TrodAll enc P W 0 (fun _ => true) true ts vs ds ps → DataW.TrodAll enc P W' 0 (fun b => decide (b < W.heap.size)) true ts vs ds ps := by
  intro ts
  induction ts with
  | nil =>
    intro vs ds ps _ _ h
    obtain ⟨rfl, rfl, rfl⟩ := trodAll_nil h
    exact trodAll_mk0
  | cons t ts ih =>
    intro vs ds ps hr hlt h
    obtain ⟨v, vs', d, ds', p, q, rfl, rfl, rfl, h0, h1⟩ := trodAll_cons h
    simp only [List.all_cons, Bool.and_eq_true, decide_eq_true_eq] at hr
    exact trodAll_cons_mk (Below.trod hl hr.1.1 hr.1.2 h0 hb fun x hx => hlt x (List.mem_append_left _ hx)) (ih hr.2 (fun x hx => hlt x (List.mem_append_right _ hx)) h1)

theorem law_post {H : Type} {enc : TypeId × Value → H} {P : Program} {f : Func} {s : ChangeSpec} {W W' : World} {args : Array Value} {ds gs : List (DataW H)} {before : List MemPlace} {tb : TypeId}
    (hl : laidOutB P = true) (hrow : f.params.toList.all (fun t => P.readableRec t && decide (t < P.types.size)) = true) (hres : f.resultTypes = #[tb]) (htb : P.underlying tb = some .bool)
    (hv : s.vars = []) (hW : DataW.Whole enc P f.params.toList s.vars false W args.toList ds gs before)
    (hs : (s.fn H (ds ++ gs)).results = [.lit (.bool true)]) (ha : (s.fn H (ds ++ gs)).args = ds) (hvs : (s.fn H (ds ++ gs)).vars = []) (hb : Below W.heap.size W W') :
    s.post enc P f false true false false W args (.bool true) W' := by
  have hlt : ∀ p ∈ before, p.block < W.heap.size := fun p hp => hW.lt p hp
  have hW' := hW
  obtain ⟨p, q, hA, hV, rfl, _, _⟩ := hW
  rw [hv] at hV
  obtain ⟨rfl, rfl⟩ := trodVars_none hV
  refine ⟨ds, [], _, [], p, [], hW', ?_, ?_, ?_, World.keptBut_mono (fun x hx => ?_) (hb.frame (· ∈ p)), fun h => by cases h⟩
  · rw [hs, hres]
    exact trodAll_cons_mk (shut_bool htb _) trodAll_mk0
  · rw [ha]
    exact trodAll_below hl hb hrow (fun x hx => hlt x (List.mem_append_left _ hx)) hA
  · rw [hv, hvs]; rfl
  · exact ⟨by simpa using hx, .inr (.inl hx)⟩

end Go.Proofs.YtphglnenafdkaaaGreatDoor

namespace Go.Proofs.YtphglnenafdkaaaGreatDoor
open Go.RowKit Go.ChangeShapes
set_option linter.unusedVariables false
set_option linter.unusedSimpArgs false
set_option maxRecDepth 100000

def lst : List (String × DataW Unit) := [("math/bits.deBruijn32tab", Rows.laid_math_bits_deBruijn32tab), ("math/bits.deBruijn64tab", Rows.laid_math_bits_deBruijn64tab), ("internal/strconv.uint64pow10", Rows.laid_internal_strconv_uint64pow10), ("bytes.ErrTooLarge", Rows.laid_bytes_ErrTooLarge)]
/-- so many blocks has the settled world -/
noncomputable def low : Nat := (World.holding Tryz.prog default ⟨#[], #[], []⟩).heap.size
def u8s (l : List Int) : Array Value := (l.map fun n => Value.int .u8 n).toArray
noncomputable def laidWorld (os : Os) : World :=
  let w0 := World.holding Tryz.prog os ⟨#[.cells #[.string ⟨#[98, 121, 116, 101, 115, 46, 66, 117, 102, 102, 101, 114, 58, 32, 116, 111, 111, 32, 108, 97, 114, 103, 101]⟩] 208], #[], []⟩
  { w0 with heap := (((w0.heap.modify 0 fun
      | .cells _ t frozen => .cells #[.iface 206 (.pointer (some ⟨low, 0, none⟩))] t frozen
      | o => o).modify 2 fun
      | .cells _ t frozen => .cells (Lib.pow10Tab.map fun z => Value.int .u64 z).toArray t frozen
      | o => o).modify 7 fun
      | .cells _ t frozen => .cells (u8s [0, 1, 28, 2, 29, 14, 24, 3, 30, 22, 20, 15, 25, 17, 4, 8, 31, 27, 13, 23, 21, 19, 16, 7, 26, 12, 18, 6, 11, 5, 10, 9]) t frozen
      | o => o).modify 8 fun
      | .cells _ t frozen => .cells (u8s [0, 1, 56, 2, 57, 49, 28, 3, 61, 58, 42, 50, 38, 29, 17, 4, 62, 47, 59, 36, 45, 43, 51, 22, 53, 39, 33, 30, 24, 18, 12, 5, 63, 55, 48, 27, 60, 41, 37, 16, 46, 35, 44, 21, 52, 32, 23, 11, 54, 26, 40, 15, 34, 20, 31, 10, 25, 14, 19, 9, 13, 8, 7, 6]) t frozen
      | o => o }
theorem laid_met (os : Os) (args : Array Value) : laidMet Tryz.prog lst ((laidWorld os).forCall (fun _ _ => 0) ⟨#[], args, []⟩).memory :=
  laidMet_of_run' 8 (by kernel_rfl) (by kernel_rfl)
end Go.Proofs.YtphglnenafdkaaaGreatDoor

namespace Go.Proofs.YtphglnenafdkaaaGreatDoor
open Go.RowKit Go.ChangeShapes
set_option linter.unusedVariables false
set_option linter.unusedSimpArgs false
set_option maxRecDepth 100000

theorem ty_pow : (Tryz.prog.globals[2]?).map (·.type) = some 171 := by kernel_rfl
theorem co_pow : Tryz.prog.cellsOf 171 = 20 := by kernel_rfl
theorem co_u64 : Tryz.prog.cellsOf 118 = 1 := by kernel_rfl
theorem pow_data : (Rows.laid_internal_strconv_uint64pow10 : DataW Unit) = Lib.tabData .u64 Lib.pow10Tab := by kernel_rfl
theorem env_of_laid {W : World} (h : laidMet Tryz.prog lst W) : Env W := by
  have h3 : laidMet Tryz.prog (("internal/strconv.uint64pow10", Lib.tabData .u64 Lib.pow10Tab) :: [("bytes.ErrTooLarge", Rows.laid_bytes_ErrTooLarge)]) W := by
    have := h.tail.tail
    rw [pow_data] at this
    exact this
  refine ⟨Lib.tabIs_of_head gPow ty_pow Tryz.underlying171 Tryz.underlying118 co_u64 co_pow h3, ?_⟩
  obtain ⟨ps, ⟨g', t', cs, fuel, p, q, hg', ht', hvar, _⟩, _⟩ := h.tail
  have e : Tryz.prog.globalNamed "math/bits.deBruijn64tab" = some 8 := by kernel_rfl
  unfold World.var? at hvar
  rw [e] at hvar
  simp only [Option.bind_some] at hvar
  have : ∃ o, W.heap[8]? = some o := by
    cases ho : W.heap[8]? with
    | none => rw [ho] at hvar; cases hvar
    | some o => exact ⟨o, rfl⟩
  obtain ⟨o, ho⟩ := this
  have := (Array.getElem?_eq_some_iff.1 ho).1
  omega
end Go.Proofs.YtphglnenafdkaaaGreatDoor

