/- Texts of the proof, joined: GRCho, GEntry, GChosW, GHas, GTexts. -/
import Derived.Test.YtbgopicpdpkccaaJ12
import Derived.Test.YtbgopicpdpkccaaJ14
import Derived.Test.YtbgopicpdpkccaaJ25
import Derived.Test.YtbgopicpdpkccaaJ21
import Derived.Test.YtbgopicpdpkccaaJ01
import Derived.Test.YtbgopicpdpkccaaJ19
import Derived.Test.YtbgopicpdpkccaaJ11
namespace Go.Proofs.Ytbgopicpdpkccaa
open Go.RowKit
set_option linter.unusedVariables false
set_option linter.unusedSimpArgs false

theorem rfd3 (k : Int) (x : Sl) (z : Rj) (w : World) : (Instr.field 103 (rval k x z) 3).run Try.prog w = .ok (.agg #[.int .i64 x.accd.bal.rd, .int .i64 x.accd.bal.nd]) w := by kernel_rfl
theorem rfd4 (k : Int) (x : Sl) (z : Rj) (w : World) : (Instr.field 103 (rval k x z) 4).run Try.prog w = .ok (.string x.accd.text) w := by kernel_rfl
section
variable {S : Nat → Prop} {w w' : World} {r : Nat} {G : Gr}
set_option maxRecDepth 100000 in
set_option maxHeartbeats 4000000 in
theorem rchosen_any (s : Int) (h : RAt S w r G) (hr : SRange G) (hl : SFew G) (hN : G.nds.length ≤ 9) : Calls Try.prog 52 #[.pointer (some ⟨r, 0, none⟩), .int .i64 s] w fun e w' => e = .returned (.tuple #[.string (G.rch s G.nds.length).text, .bool (decide (0 < (G.rch s G.nds.length).bal.rd))]) ∧ Below w.heap.size w w' := by
  have hst : ∀ k : Nat, k < G.nds.length → G.st (k : Int) s = G.at_ k s := fun k hk => by unfold Gr.st; rw [if_pos (by omega), Int.toNat_natCast]
  have hof0 : ∀ (k : Nat), k < G.nds.length → ∀ (w1 : World), Below w.heap.size w w1 → Calls Try.prog 53 #[.pointer (some ⟨r, 0, none⟩), .int .i64 k, .int .i64 s] w1 fun e w' => IsR (G.at_ k s) e ∧ Below w1.heap.size w1 w' := fun k hk w1 hb => by
    have := rof_any (k : Int) s (h.below hb) (hr k s) hl
    rwa [hst k hk] at this
  have hof := hid hof0
  have hmj : Hid (∀ w1, Below w.heap.size w w1 → Calls Try.prog 72 #[.pointer (some ⟨r, 0, none⟩)] w1 fun e w' => e = .returned (.int .i64 ((G.nds.length : Int) / 2 + 1)) ∧ w' = w1) := hid fun w1 hb => by
    obtain ⟨_, _, _, _, _, q⟩ := h.below hb
    exact majority_any q hN
  obtain ⟨An, cn, Am, cm, a, q⟩ := h
  obtain ⟨c00, _⟩ := q.cells
  have hc0 : Hid (∀ w1, Below w.heap.size w w1 → w1.cell? ⟨r, 0, none⟩ = some (.slice An G.nds.length cn)) := hid fun w1 hb => (q.below hb).cells.1
  have hn9 : (G.nds.length : Int) ≤ 9 := by omega
  have hgd := guardBal
  have kz0 := Blk.new w 35 #[.int .i64 0, .int .i64 0]
  have hB0 : Below w.heap.size w (w.alloc (.cells #[.int .i64 0, .int .i64 0] 35)) := (Below.refl _ _).alloc (Nat.le_refl _) _
  have hstep0 : ∀ k, G.rch s (k + 1) = if 0 < (G.at_ k s).accd.bal.rd ∧ G.nds.length / 2 + 1 ≤ (G.have_ s G.nds.length (G.at_ k s).accd.bal).length ∧ Bal.lt (G.rch s k).bal (G.at_ k s).accd.bal then (G.at_ k s).accd else G.rch s k := fun k => rfl
  have hsteps := hid hstep0
  have hcnt : Hid (∀ b k, (G.have_ s (k + 1) b).length = (G.have_ s k b).length + if (G.at_ k s).accd.bal = b then 1 else 0) := hid (have_succ G s)
  have hcle : Hid (∀ b k, k ≤ G.nds.length → (G.have_ s k b).length ≤ G.nds.length) := hid fun b k hk => by
    have := List.length_filter_le (fun j => decide ((G.at_ j s).accd.bal = b)) (List.range k)
    rw [List.length_range] at this
    unfold Gr.have_
    omega
  have hzlt : Hid (r < w.heap.size) := hid (q.lt _ q.inS)
  have kz := hid kz0
  have hB := hid hB0
  clear q hr hl hof0 hst hstep0 kz0 hB0
  go_enter Try.func52, Try.ntmps52
  go_upto_region 2 with fail
  generalize w.alloc (.cells #[.int .i64 0, .int .i64 0] 35) = W0 at *
  have hz0 : Hid (w.heap.size < W0.heap.size) := hid kz.out.lt
  obtain ⟨z, hz⟩ : ∃ z, z = w.heap.size := ⟨_, rfl⟩
  have hzz := hid hz
  rw [← hz]
  clear c00 hz
  go_wp2_with fail
  go_loopw [7, 8] (fun t v wr => ∃ k : Nat, v = .int .i64 k ∧ t = .string (G.rch s k).text ∧ k ≤ G.nds.length ∧ Blk wr z 35 #[.int .i64 (G.rch s k).bal.rd, .int .i64 (G.rch s k).bal.nd] ∧ Below w.heap.size w wr) (fun _ v _ => G.nds.length - (intOf v).toNat)
  case atStart => exact ⟨0, rfl, rfl, Nat.zero_le _, by rw [hzz.out]; exact kz.out, hB.out⟩
  case round =>
    clear kz hB hz0
    obtain ⟨k, rfl, rfl, hk, kz0, hB0⟩ := hrel
    have kz := hid kz0; have hB := hid hB0
    clear kz0 hB0
    have c0 := hc0.out wr hB.out
    have hstep := hid (hsteps.out k)
    by_cases hlt : k < G.nds.length
    · have hlt' : (k : Int) < (G.nds.length : Int) := by omega
      have hofk := hid (hof.out k hlt)
      have f3 := rfd3 (x := G.at_ k s)
      have f4 := rfd4 (x := G.at_ k s)
      generalize G.at_ k s = x at *
      obtain ⟨v, hv⟩ : ∃ v, v = x.accd := ⟨_, rfl⟩
      obtain ⟨ρ, hρ⟩ : ∃ ρ, ρ = G.rch s k := ⟨_, rfl⟩
      rw [← hv] at f3 f4 hstep
      rw [← hρ] at hstep kz ⊢
      have HV := hid hv; have HR := hid hρ
      clear hv hρ
      go_wp2_with fail
      refine (hofk.out wr hB.out).mono ?_
      rintro e w1 ⟨⟨k1, z1, rfl⟩, hb10⟩
      have hb1 := hid (hB.out.trans (hb10.mono hB.out.size))
      have kz1 := hid (kz.out.below_all hb10)
      clear hb10 c0
      have hzb : Hid (z < w1.heap.size) := hid kz1.out.lt
      have kb0 := Blk.new w1 35 #[.int .i64 v.bal.rd, .int .i64 v.bal.nd]
      have hbb : Below w1.heap.size w1 (w1.alloc (.cells #[.int .i64 v.bal.rd, .int .i64 v.bal.nd] 35)) := (Below.refl _ _).alloc (Nat.le_refl _) _
      have kb := hid kb0
      have kz2 := hid (kz1.out.below_all hbb)
      have hb2 := hid (hb1.out.trans (hbb.mono hb1.out.size))
      clear kb0 hbb
      go_upto_region 7 with fail
      generalize hW : w1.alloc (.cells #[.int .i64 v.bal.rd, .int .i64 v.bal.nd] 35) = w2 at *
      clear hW
      obtain ⟨b, hb⟩ : ∃ b, b = w1.heap.size := ⟨_, rfl⟩
      rw [← hb] at kb hzb ⊢
      clear hb hb1 kz1
      go_wp2_with fail
      go_loopw [10, 11] (fun n u wx => ∃ j : Nat, u = .int .i64 j ∧ n = .int .i64 ((G.have_ s j v.bal).length : Nat) ∧ j ≤ G.nds.length ∧ Blk wx b 35 #[.int .i64 v.bal.rd, .int .i64 v.bal.nd] ∧ Blk wx z 35 #[.int .i64 ρ.bal.rd, .int .i64 ρ.bal.nd] ∧ Below w.heap.size w wx) (fun _ u _ => G.nds.length - (intOf u).toNat)
      case atStart => exact ⟨0, rfl, rfl, Nat.zero_le _, kb.out, kz2.out, hb2.out⟩
      case round =>
        clear kb kz2 hb2 kz hB
        obtain ⟨j, rfl, rfl, hj, kb0, kz0, hB0⟩ := hrel
        have kb := hid kb0; have kz := hid kz0; have hB := hid hB0
        clear kb0 kz0 hB0
        have c0 := hc0.out wr hB.out
        have b0 : wr.cell? ⟨b, 0, none⟩ = some (.int .i64 v.bal.rd) := kb.out.cell 0
        have b1 : wr.cell? ⟨b, 1, none⟩ = some (.int .i64 v.bal.nd) := kb.out.cell 1
        by_cases hjl : j < G.nds.length
        · have hjl' : (j : Int) < (G.nds.length : Int) := by omega
          have hofj := hid (hof.out j hjl)
          have hcj := hid (hcnt.out v.bal j)
          have hcl := hcle.out v.bal j hj
          obtain ⟨c, hc⟩ : ∃ c, c = (G.have_ s j v.bal).length := ⟨_, rfl⟩
          rw [← hc] at hcj hcl ⊢
          have hw1 : IntKind.i64.wrap ((c : Int) + 1) = (c : Int) + 1 := IntWalk.i64_in _ (by omega)
          have f3j := fun k z w => rfd3 k (G.at_ j s) z w
          generalize G.at_ j s = y at *
          have hkeep : Hid (∀ w' : World, Below wr.heap.size wr w' → w'.cell? ⟨b, 0, none⟩ = some (.int .i64 v.bal.rd) ∧ w'.cell? ⟨b, 1, none⟩ = some (.int .i64 v.bal.nd)) := hid fun w' h => ⟨(kb.out.below_all h).cell 0, (kb.out.below_all h).cell 1⟩
          have hbX : Hid (Below wr.heap.size wr wr.drew) := hid (Below.refl _ _).drew
          clear hc hcl
          by_cases he : y.accd.bal = v.bal
          · have heq : ∀ W', (binOp .eql 35 (.agg #[.int .i64 y.accd.bal.rd, .int .i64 y.accd.bal.nd]) (.agg #[.int .i64 v.bal.rd, .int .i64 v.bal.nd])).run Try.prog W' = .ok (.bool true) W' := fun W' => by rw [run_eql_struct, run_eqBal, decide_eq_true he]; rfl
            rw [if_pos he] at hcj
            clear he
            go_wp2_with fail
            go_region_held3 (fun w' => w'.cell? ⟨b, 0, none⟩ = some (.int .i64 v.bal.rd) ∧ w'.cell? ⟨b, 1, none⟩ = some (.int .i64 v.bal.nd)) (first | exact hkeep.out _ hbX.out | exact hkeep.out _ (Below.refl _ _) | exact hkeep.out _ (Below.refl _ _).drew) ((go_at_call 53; refine (hofj.out _ (hB.out.trans (hbX.out.mono hB.out.size))).mono ?_; rintro e wb ⟨⟨k2, z2, rfl⟩, hbb⟩; have hbX := hid (hbX.out.trans (hbb.mono hbX.out.size)); clear hbb))
            have hnew : Hid (Blk wb b 35 #[.int .i64 v.bal.rd, .int .i64 v.bal.nd] ∧ Blk wb z 35 #[.int .i64 ρ.bal.rd, .int .i64 ρ.bal.nd] ∧ Below w.heap.size w wb) := hid ⟨kb.out.below_all hbX.out, kz.out.below_all hbX.out, hB.out.trans (hbX.out.mono hB.out.size)⟩
            clear b0 b1 c0
            go_wp2_with fail
            go_roundw
            case rel => exact ⟨j + 1, by go_num, by rw [hcj.out]; go_num, hjl, hnew.out⟩
            case measure => simp [intOf]; omega
          · have heq : ∀ W', (binOp .eql 35 (.agg #[.int .i64 y.accd.bal.rd, .int .i64 y.accd.bal.nd]) (.agg #[.int .i64 v.bal.rd, .int .i64 v.bal.nd])).run Try.prog W' = .ok (.bool false) W' := fun W' => by rw [run_eql_struct, run_eqBal, decide_eq_false he]; rfl
            rw [if_neg he, Nat.add_zero c] at hcj
            clear he
            go_wp2_with fail
            go_region_held3 (fun w' => w'.cell? ⟨b, 0, none⟩ = some (.int .i64 v.bal.rd) ∧ w'.cell? ⟨b, 1, none⟩ = some (.int .i64 v.bal.nd)) (first | exact hkeep.out _ hbX.out | exact hkeep.out _ (Below.refl _ _) | exact hkeep.out _ (Below.refl _ _).drew) ((go_at_call 53; refine (hofj.out _ (hB.out.trans (hbX.out.mono hB.out.size))).mono ?_; rintro e wb ⟨⟨k2, z2, rfl⟩, hbb⟩; have hbX := hid (hbX.out.trans (hbb.mono hbX.out.size)); clear hbb))
            have hnew : Hid (Blk wb b 35 #[.int .i64 v.bal.rd, .int .i64 v.bal.nd] ∧ Blk wb z 35 #[.int .i64 ρ.bal.rd, .int .i64 ρ.bal.nd] ∧ Below w.heap.size w wb) := hid ⟨kb.out.below_all hbX.out, kz.out.below_all hbX.out, hB.out.trans (hbX.out.mono hB.out.size)⟩
            clear b0 b1 c0
            go_wp2_with fail
            go_roundw
            case rel => exact ⟨j + 1, by go_num, by rw [hcj.out], hjl, hnew.out⟩
            case measure => simp [intOf]; omega
        · obtain rfl : j = G.nds.length := by omega
          have hcl := hcle.out v.bal _ hj
          generalize (G.have_ s G.nds.length v.bal).length = c at *
          have z0 : wr.cell? ⟨z, 0, none⟩ = some (.int .i64 ρ.bal.rd) := kz.out.cell 0
          have z1 : wr.cell? ⟨z, 1, none⟩ = some (.int .i64 ρ.bal.nd) := kz.out.cell 1
          have hBx := hB
          have hmjx := hid (hmj.out wr hB.out)
          by_cases hp : 0 < v.bal.rd
          · have t1 : decide (0 < v.bal.rd) = true := decide_eq_true hp
            by_cases hm : G.nds.length / 2 + 1 ≤ c
            · have t2 : decide ((G.nds.length : Int) / 2 + 1 ≤ (c : Int)) = true := decide_eq_true (by omega)
              by_cases hg : Bal.lt ρ.bal v.bal
              · have hE : Hid (G.rch s (k + 1) = v) := hid (by rw [hstep.out]; exact if_pos ⟨hp, hm, hg⟩)
                have t3 : decide (Bal.lt ρ.bal v.bal) = true := decide_eq_true hg
                clear hp hm hg hstep
                go_wp2_with fail
                refine hmjx.out.mono ?_
                rintro e w4 ⟨rfl, rfl⟩
                go_wp2_with fail
                refine (below_any ρ.bal v.bal _).mono ?_
                rintro e w5 ⟨rfl, hb50⟩
                have kz5 := hid (kz.out.below_all hb50)
                have kb5 := hid (kb.out.below_all hb50)
                have hb5 := hid (hB.out.trans (hb50.mono hB.out.size))
                clear hb50 b0 b1 z0 z1 c0
                have b0 : w5.cell? ⟨b, 0, none⟩ = some (.int .i64 v.bal.rd) := kb5.out.cell 0
                have b1 : w5.cell? ⟨b, 1, none⟩ = some (.int .i64 v.bal.nd) := kb5.out.cell 1
                have z0 : w5.cell? ⟨z, 0, none⟩ = some (.int .i64 ρ.bal.rd) := kz5.out.cell 0
                have z1 : w5.cell? ⟨z, 1, none⟩ = some (.int .i64 ρ.bal.nd) := kz5.out.cell 1
                have fz : ∀ q, w5.frozen? ⟨z, q, none⟩ = false := fun q => kz5.out.frozen q
                have kz6 := hid ((kz5.out.set_ 0 (.int .i64 v.bal.rd)).set_ 1 (.int .i64 v.bal.nd))
                have hb6 : Hid (Below w.heap.size w ((w5.setCell ⟨z, 0, none⟩ (.int .i64 v.bal.rd)).setCell ⟨z, 1, none⟩ (.int .i64 v.bal.nd))) := hid ((hb5.out.setCell (p := ⟨z, 0, none⟩) (by show w.heap.size ≤ z; rw [hzz.out]; exact Nat.le_refl _) _).setCell (p := ⟨z, 1, none⟩) (by show w.heap.size ≤ z; rw [hzz.out]; exact Nat.le_refl _) _)
                go_upto_region 15 with fail
                generalize (w5.setCell ⟨z, 0, none⟩ (.int .i64 v.bal.rd)).setCell ⟨z, 1, none⟩ (.int .i64 v.bal.nd) = w6 at *
                clear b0 b1 z0 z1 fz
                go_wp2_with fail
                refine (hofk.out w6 hb6.out).mono ?_
                rintro e w7 ⟨⟨k2, z2, rfl⟩, hb70⟩
                have hnew : Hid (Blk w7 z 35 #[.int .i64 (G.rch s (k + 1)).bal.rd, .int .i64 (G.rch s (k + 1)).bal.nd] ∧ Below w.heap.size w w7) := hid ⟨by rw [hE.out]; exact kz6.out.below_all hb70, hb6.out.trans (hb70.mono hb6.out.size)⟩
                clear hb70
                go_wp2_with fail
                go_roundw
                case rel => exact ⟨k + 1, by go_num, by rw [hE.out], hlt, hnew.out⟩
                case measure => simp [intOf]; omega
              · have hE : Hid (G.rch s (k + 1) = ρ) := hid (by rw [hstep.out]; exact if_neg fun h => hg h.2.2)
                have t3 : decide (Bal.lt ρ.bal v.bal) = false := decide_eq_false hg
                clear hp hm hg hstep
                go_wp2_with fail
                refine hmjx.out.mono ?_
                rintro e w4 ⟨rfl, rfl⟩
                go_wp2_with fail
                refine (below_any ρ.bal v.bal _).mono ?_
                rintro e w5 ⟨rfl, hb50⟩
                have hnew : Hid (Blk w5 z 35 #[.int .i64 (G.rch s (k + 1)).bal.rd, .int .i64 (G.rch s (k + 1)).bal.nd] ∧ Below w.heap.size w w5) := hid ⟨by rw [hE.out]; exact kz.out.below_all hb50, hB.out.trans (hb50.mono hB.out.size)⟩
                clear hb50 b0 b1 z0 z1 c0
                go_wp2_with fail
                go_roundw
                case rel => exact ⟨k + 1, by go_num, by rw [hE.out], hlt, hnew.out⟩
                case measure => simp [intOf]; omega
            · have hE : Hid (G.rch s (k + 1) = ρ) := hid (by rw [hstep.out]; exact if_neg fun h => hm h.2.1)
              have t2 : decide ((G.nds.length : Int) / 2 + 1 ≤ (c : Int)) = false := decide_eq_false (by omega)
              have hnew : Hid (Blk wr z 35 #[.int .i64 (G.rch s (k + 1)).bal.rd, .int .i64 (G.rch s (k + 1)).bal.nd] ∧ Below w.heap.size w wr) := hid ⟨by rw [hE.out]; exact kz.out, hB.out⟩
              clear hp hm hstep
              go_wp2_with fail
              refine hmjx.out.mono ?_
              rintro e w4 ⟨rfl, rfl⟩
              go_wp2_with fail
              go_roundw
              case rel => exact ⟨k + 1, by go_num, by rw [hE.out], hlt, hnew.out⟩
              case measure => simp [intOf]; omega
          · have hE : Hid (G.rch s (k + 1) = ρ) := hid (by rw [hstep.out]; exact if_neg fun h => hp h.1)
            have t1 : decide (0 < v.bal.rd) = false := decide_eq_false hp
            have hnew : Hid (Blk wr z 35 #[.int .i64 (G.rch s (k + 1)).bal.rd, .int .i64 (G.rch s (k + 1)).bal.nd] ∧ Below w.heap.size w wr) := hid ⟨by rw [hE.out]; exact kz.out, hB.out⟩
            clear hp hstep
            go_wp2_with fail
            go_roundw
            case rel => exact ⟨k + 1, by go_num, by rw [hE.out], hlt, hnew.out⟩
            case measure => simp [intOf]; omega
    · obtain rfl : k = G.nds.length := by omega
      generalize hch0 : G.rch s G.nds.length = ρ at *
      have hch := hid hch0
      clear hch0
      have z0 : wr.cell? ⟨z, 0, none⟩ = some (.int .i64 ρ.bal.rd) := kz.out.cell 0
      clear hstep hsteps hcnt hcle
      go_wp2_with fail
      go_quiet (fail)
      go_wp2_with fail
      go_ret2
      exact ⟨by rw [hch.out]; rfl, below_drewN hB.out _⟩
end

end Go.Proofs.Ytbgopicpdpkccaa

namespace Go.Proofs.Ytbgopicpdpkccaa
open Go.RowKit
set_option linter.unusedVariables false
set_option linter.unusedSimpArgs false

section
variable {P : Program} {k : TypeId} {κ : Type} [DecidableEq κ] {E : KeyEnc P k κ}
/-- where an entry stands -/
def EntryAt (E : KeyEnc P k κ) (w : World) (b : Nat) (st : Int) (x : κ) (l : List (κ × Value)) : Prop :=
  ∃ es clock i l', w.heap[b]? = some (.map es clock) ∧ pairs es.toList = encs E l' ∧ MapKept.Stamped es clock ∧ (∃ e, es[i]? = some e ∧ (e.born : Int) = st) ∧ ∀ v, l'.modify i (fun p => (p.1, v)) = setK x v l
theorem EntryAt.keep {w w' : World} {b : Nat} {st : Int} {x : κ} {l : List (κ × Value)} (h : EntryAt E w b st x l) (hb : w'.heap[b]? = w.heap[b]?) : EntryAt E w' b st x l := by
  obtain ⟨es, c, i, l', h, h2⟩ := h
  exact ⟨es, c, i, l', hb.trans h, h2⟩
theorem MapIs.entry {w : World} {b : Nat} {l : List (κ × Value)} {t e : TypeId} (h : MapIs E w b l) (ht : P.underlying t = some (.map k e)) {z : Value} (hz : ∀ w, (zeroValue e).run P w = .ok z w) (x : κ) :
    ∃ v0 st w', (Instr.mapEntry t (.map (some b)) (E.enc x)).run P w = .ok (.tuple #[v0, .int .i64 st]) w' ∧ EntryAt E w' b st x l ∧ MapIs E w' b (setK x v0 l) ∧ v0 = (getK x l).getD z ∧ w.grownBy w' (some b) ∧ w'.heap.size = w.heap.size := by
  have hlt := h.lt
  obtain ⟨es, c, h, h2, hst⟩ := h
  have hlen : es.size = l.length := by
    have := congrArg List.length h2
    simpa [pairs, encs] using this
  simp only [Instr.mapEntry, Sem.run_bind, run_underlying ht, Result.andThen_ok, MapKept.run_getObj_map h, E.check, findKey_ok E x w es.toList l h2]
  cases hl : look x l 0 with
  | none =>
    have hg : z = (getK x l).getD z := by unfold getK; rw [hl]; rfl
    have hmid : MapIs E { w with heap := w.heap.setIfInBounds b (.map (es.push { key := E.enc x, val := z, born := c }) (c + 1)) } b (setK x z l) := by
      rw [(look_none (v := z) hl).1]
      refine ⟨_, _, heap_set_eq w b _ hlt, ?_, MapKept.stamped_push hst fun y hy e => ?_⟩
      · simp [pairs, encs] at h2 ⊢
        exact h2
      · have hy2 : (y.key, y.val) ∈ encs E l := by rw [← h2]; exact List.mem_map.2 ⟨y, hy, rfl⟩
        obtain ⟨p, hp, e2⟩ := List.mem_map.1 hy2
        have e3 : E.enc p.1 = y.key := by injection e2
        exact look_none_key hl p hp (E.inj w (e3.trans e))
    refine ⟨z, (c : Int), _, ?_, ⟨es.push { key := E.enc x, val := z, born := c }, c + 1, es.size, l ++ [(x, z)], heap_set_eq w b _ hlt, ?_, MapKept.stamped_push hst fun y hy e => ?_, ⟨{ key := E.enc x, val := z, born := c }, by simp, rfl⟩, fun v => ?_⟩, hmid, hg, grown_set w b _, by simp⟩
    · simp only [Sem.run_bind, hz, Result.andThen_ok, MapKept.run_setObj_map _ h, Sem.run_pure, goInt]
    · simp [pairs, encs] at h2 ⊢
      exact h2
    · have hy2 : (y.key, y.val) ∈ encs E l := by rw [← h2]; exact List.mem_map.2 ⟨y, hy, rfl⟩
      obtain ⟨p, hp, e2⟩ := List.mem_map.1 hy2
      have e3 : E.enc p.1 = y.key := by injection e2
      exact look_none_key hl p hp (E.inj w (e3.trans e))
    · rw [(look_none (v := v) hl).1, hlen]
      apply List.ext_getElem?
      intro i
      simp only [List.getElem?_modify, List.getElem?_append]
      by_cases hi : l.length = i
      · subst hi
        simp
      · by_cases hi2 : i < l.length
        · simp [hi, hi2]
        · have : ¬ i - l.length = 0 := by omega
          cases hd : i - l.length with
          | zero => omega
          | succ m => simp [hi, hi2]
  | some r =>
    obtain ⟨j, v0⟩ := r
    have hls := fun v => look_some (v := v) hl
    obtain ⟨_, h1, _, _⟩ := look_some (v := z) hl
    simp only [Nat.sub_zero] at h1 hls
    have hk : (((es[j]?).map (·.key)).getD (E.enc x)) = E.enc x := by
      have := congrArg (fun q => (q[j]?).map (·.1)) h2
      simp [pairs, encs, h1] at this
      cases hj : es[j]? with
      | none => simp
      | some y => simp [hj] at this; simp [this]
    obtain ⟨y, hj⟩ : ∃ y, es[j]? = some y := by
      have h3 : j < l.length := (List.getElem?_eq_some_iff.1 h1).1
      exact ⟨es[j]'(by omega), Array.getElem?_eq_getElem (by omega)⟩
    have hky : y.key = E.enc x := by rw [hj] at hk; exact hk
    have hpm : pairs (es.modify j fun e => { e with key := E.enc x }).toList = encs E l := by
      rw [← h2]
      simp only [pairs, Array.toList_modify]
      apply List.ext_getElem?
      intro i
      simp only [List.getElem?_map, List.getElem?_modify]
      by_cases hi : j = i
      · subst hi
        have hj2 : es.toList[j]? = some y := by simpa using hj
        simp [hj2, hky]
      · simp [hi]
    have hsl : setK x v0 l = l := by
      rw [(hls v0).2.2.1]
      apply List.ext_getElem?
      intro i
      simp only [List.getElem?_modify]
      by_cases hi : j = i
      · subst hi
        simp [h1]
      · simp [hi]
    have hsm : MapKept.Stamped (es.modify j fun e => { e with key := E.enc x }) c := MapKept.stamped_modify hst _ _ (fun _ _ => rfl) fun y' hy hj' => by
      rw [hj] at hj'
      injection hj' with hj'
      rw [← hj', hky]
    have hmid : MapIs E { w with heap := w.heap.setIfInBounds b (.map (es.modify j fun e => { e with key := E.enc x }) c) } b (setK x v0 l) := by
      rw [hsl]
      exact ⟨_, _, heap_set_eq w b _ hlt, hpm, hsm⟩
    have hg : v0 = (getK x l).getD z := by unfold getK; rw [hl]; rfl
    refine ⟨v0, (y.born : Int), _, ?_, ⟨es.modify j fun e => { e with key := E.enc x }, c, j, l, heap_set_eq w b _ hlt, hpm, hsm, ⟨{ y with key := E.enc x }, (by rw [Array.getElem?_modify, if_pos rfl, hj]; rfl), rfl⟩, fun v => ?_⟩, hmid, hg, grown_set w b _, Array.size_setIfInBounds ..⟩
    · simp only [hk, Instr.keyThatStays, E.bits, if_true, Sem.run_pure, Sem.run_bind, Result.andThen_ok, MapKept.run_setObj_map _ h]
      simp only [hj, Option.map_some, Option.getD_some, goInt]
    · rw [(hls v).2.2.1]
      apply List.ext_getElem?
      intro i
      simp only [List.getElem?_modify]
      by_cases hi : j = i
      · subst hi
        simp [h1]
      · simp [hi]
theorem EntryAt.store {w : World} {b : Nat} {st : Int} {x : κ} {l : List (κ × Value)} (h : EntryAt E w b st x l) (t : TypeId) (v : Value) :
    ∃ w', (Instr.entryStore t (.map (some b)) (.int .i64 st) v).run P w = .ok () w' ∧ MapIs E w' b (setK x v l) ∧ w.grownBy w' (some b) ∧ w'.heap.size = w.heap.size := by
  obtain ⟨es, c, i, l', h, h2, hst, ⟨e, he, heb⟩, hv⟩ := h
  have hlt : b < w.heap.size := (Array.getElem?_eq_some_iff.1 h).1
  obtain ⟨hi, he2⟩ := Array.getElem?_eq_some_iff.1 he
  have hf : es.findIdx? (fun e => (e.born : Int) == st) = some i := by
    rw [Array.findIdx?_eq_some_iff_getElem]
    refine ⟨hi, by simp [he2, heb], fun j hj => ?_⟩
    intro hp
    have hp : (es[j].born : Int) = st := by simpa using hp
    have hnd := ((MapKept.stamped_iff es c).1 hst).2.1
    unfold List.Nodup at hnd
    rw [List.pairwise_map, List.pairwise_iff_getElem] at hnd
    have := hnd j i (by simpa using Nat.lt_trans hj hi) (by simpa using hi) hj
    simp only [Array.getElem_toList] at this
    rw [he2] at this
    exact this (by omega)
  simp only [Instr.entryStore, Sem.run_bind, MapKept.run_getObj_map h, Result.andThen_ok]
  rw [show (asInt (.int .i64 st)).run P w = .ok st w from by simp [asInt, asIntOf]]
  simp only [Result.andThen_ok, hf]
  refine ⟨_, MapKept.run_setObj_map _ h, ⟨_, _, heap_set_eq w b _ hlt, ?_, MapKept.stamped_modify hst _ _ (fun _ _ => rfl) fun _ _ _ => rfl⟩, grown_set w b _, by simp⟩
  rw [← hv v]
  simp only [pairs, encs, Array.toList_modify] at h2 ⊢
  apply List.ext_getElem?
  intro q
  have h2i := congrArg (fun r => r[q]?) h2
  simp only [List.getElem?_map, List.getElem?_modify] at h2i ⊢
  by_cases hq : i = q
  · subst hq
    simp only [if_true] at *
    cases hj : es.toList[i]? <;> cases hj2 : l'[i]? <;> simp_all
  · simp only [if_neg hq] at *
    simpa using h2i
end

end Go.Proofs.Ytbgopicpdpkccaa

namespace Go.Proofs.Ytbgopicpdpkccaa
open Go.RowKit
set_option linter.unusedVariables false
set_option linter.unusedSimpArgs false

def balV (x : Bal) : Value := .agg #[.int .i64 x.rd, .int .i64 x.nd]
theorem bal_eq (a b : Bal) (w : World) : (Op.equal 35 (balV a) (balV b)).run Try.prog w = .ok (decide (a = b)) w := run_eqBal a b w
theorem bal_check (em : Bool) (a : Bal) (w : World) : (Instr.checkKey em 10000 35 (balV a)).run Try.prog w = .ok () w := by
  kernel_rfl
def balE : KeyEnc Try.prog 35 Bal where
  enc := balV
  desc := _
  under := Try.underlying35
  eq := bal_eq
  check := bal_check
  now := fun a b => .inl rfl
  bits := fun a => by
    unfold balV
    rw [show (10000 : Nat) = 9998 + 1 + 1 from rfl]
    simp [Instr.sameBits]
section
variable {S : Nat → Prop} {w : World} {g : Nat} {G : Gr}
set_option maxRecDepth 100000 in
set_option maxHeartbeats 4000000 in
theorem chosen_any (s : Int) (h : GAt S w g G) (hn : G.nds.length ≤ 9) : Calls Try.prog 23 #[.pointer (some ⟨g, 0, none⟩), .int .i64 s] w fun e w' => e = .returned (.tuple #[.string (G.chosen s).text, .bool (decide (0 < (G.chosen s).bal.rd))]) ∧ Below w.heap.size w w' := by
  have hfd : ∀ (x : Sl) (bp : Option Addr) w', (Instr.field 74 (.agg #[.int .i64 x.rd, .int .i64 x.prom.rd, .int .i64 x.prom.nd, .int .i64 x.accd.bal.rd, .int .i64 x.accd.bal.nd, .string x.accd.text, .bool x.is, .string x.text, .pointer bp]) 2).run Try.prog w' = .ok (.agg #[.int .i64 x.accd.bal.rd, .int .i64 x.accd.bal.nd, .string x.accd.text]) w' := fun _ _ _ => by kernel_rfl
  have hmm := @run_makeMap Try.prog
  have hn9 := hid hn
  have hq := hid h
  clear h hn
  go_enter Try.func23, Try.ntmps23
  go_upto_region 5 with fail
  have hb0 : Below w.heap.size w ((w.alloc (.map #[] 0)).alloc (.cells #[.int .i64 0, .int .i64 0, .string ⟨#[]⟩] 71)) := below_two _ _
  have hm0 : MapIs balE ((w.alloc (.map #[] 0)).alloc (.cells #[.int .i64 0, .int .i64 0, .string ⟨#[]⟩] 71)) w.heap.size [] := (MapIs.new w).alloc _
  have kv0 : Blk ((w.alloc (.map #[] 0)).alloc (.cells #[.int .i64 0, .int .i64 0, .string ⟨#[]⟩] 71)) (w.heap.size + 1) 71 #[.int .i64 0, .int .i64 0, .string ⟨#[]⟩] := Blk.new' _ _ _ (by simp)
  generalize (w.alloc (.map #[] 0)).alloc (.cells #[.int .i64 0, .int .i64 0, .string ⟨#[]⟩] 71) = w1 at *
  obtain ⟨An, cn, Am, cm, a, q1⟩ := hq.out.below hb0
  have d0 : w1.cell? ⟨g, 0, none⟩ = some (.slice An G.nds.length cn) := q1.cells.1
  have HB0 := hid hb0
  have HM0 := hid hm0
  have KV0 := hid kv0
  clear q1 hb0 hm0 kv0 hmm
  go_wp2_with fail
  go_loopw [19] (fun v wr => ∃ k : Nat, v = .int .i64 k ∧ k ≤ G.nds.length ∧ MapIs balE wr w.heap.size ((G.tally s k).1.map fun p => (p.1, Value.int .i64 p.2)) ∧ Blk wr (w.heap.size + 1) 71 #[.int .i64 (G.tally s k).2.bal.rd, .int .i64 (G.tally s k).2.bal.nd, .string (G.tally s k).2.text] ∧ Below w.heap.size w wr) (fun v _ => G.nds.length - (intOf v).toNat)
  case atStart => exact ⟨0, rfl, Nat.zero_le _, HM0.out, KV0.out, HB0.out⟩
  case round =>
    clear HM0 KV0 HB0 d0
    obtain ⟨k, rfl, hk, hm0, kv0, hb0⟩ := hrel
    have hm := hid hm0
    have kv := hid kv0
    have hB := hid hb0
    clear hm0 kv0 hb0
    by_cases hlt : k < G.nds.length
    · have i1 : (k : Int) < (G.nds.length : Int) := by omega
      have hst0 := state_any (k : Int) s (hq.out.below hB.out)
      have e0 : G.st k s = G.at_ k s := by unfold Gr.st; rw [if_pos (by omega), Int.toNat_natCast]
      rw [e0] at hst0
      have hst := hid hst0
      have htb := hid (tally_bound G s (G.at_ k s).accd.bal k)
      have htl : Hid (G.tally s (k + 1) = (setA (G.at_ k s).accd.bal ((getA (G.at_ k s).accd.bal (G.tally s k).1).getD 0 + 1) (G.tally s k).1, if 0 < (G.at_ k s).accd.bal.rd ∧ (getA (G.at_ k s).accd.bal (G.tally s k).1).getD 0 + 1 = ((G.nds.length / 2 + 1 : Nat) : Int) ∧ 0 < cmpB (G.at_ k s).accd.bal (G.tally s k).2.bal then (G.at_ k s).accd else (G.tally s k).2)) := hid rfl
      generalize G.at_ k s = x at *
      generalize hT : G.tally s k = T at *
      clear e0 hst0
      go_wp2_with fail
      refine hst.out.mono ?_
      rintro e w2 ⟨bp, rfl, hb2⟩
      go_upto_region 9 with fail
      have kx := Blk.new w2 71 #[.int .i64 x.accd.bal.rd, .int .i64 x.accd.bal.nd, .string x.accd.text]
      have hb3 : Below wr.heap.size wr (w2.alloc (.cells #[.int .i64 x.accd.bal.rd, .int .i64 x.accd.bal.nd, .string x.accd.text] 71)) := hb2.alloc hb2.size _
      have hz2 := hb2.size
      generalize w2.alloc (.cells #[.int .i64 x.accd.bal.rd, .int .i64 x.accd.bal.nd, .string x.accd.text] 71) = w3 at *
      have hm3 := hm.out.below hb3
      have kv3 := kv.out.below_all hb3
      have hB3 := hB.out.trans (hb3.mono hB.out.size)
      have y0 : w3.cell? ⟨w2.heap.size, 0, none⟩ = some (.int .i64 x.accd.bal.rd) := kx.cell 0
      have y1 : w3.cell? ⟨w2.heap.size, 1, none⟩ = some (.int .i64 x.accd.bal.nd) := kx.cell 1
      obtain ⟨cc, hcc⟩ : ∃ cc, (getA x.accd.bal T.1).getD 0 = cc := ⟨_, rfl⟩
      rw [hcc] at htb htl
      have look : ∀ (W' : World) (l : List (Bal × Int)), MapIs balE W' w.heap.size (l.map fun p => (p.1, Value.int .i64 p.2)) → (Instr.lookup 88 (.map (some w.heap.size)) (.agg #[.int .i64 x.accd.bal.rd, .int .i64 x.accd.bal.nd]) false).run Try.prog W' = .ok (.int .i64 ((getA x.accd.bal l).getD 0)) W' := fun W' l h => by
        have := h.lookup Try.underlying88 zero_int x.accd.bal
        rw [getK_map] at this
        rw [show ((getA x.accd.bal l).map (Value.int .i64)).getD (.int .i64 0) = .int .i64 ((getA x.accd.bal l).getD 0) from by cases getA x.accd.bal l <;> rfl] at this
        exact this
      have Look := hid look
      have hlk := look w3.drew T.1 (hm3.keep rfl)
      rw [hcc] at hlk
      have hzero : ∀ w, (zeroValue 3).run Try.prog w = .ok (.int .i64 0) w := zero_int
      obtain ⟨v0, st, W4, hent0, hea, hm4, hv00, hg4, hz4⟩ := (hm3.keep (w' := w3.drew) rfl).entry Try.underlying88 hzero x.accd.bal
      have hent : (Instr.mapEntry 88 (.map (some w.heap.size)) (.agg #[.int .i64 x.accd.bal.rd, .int .i64 x.accd.bal.nd])).run Try.prog w3.drew = .ok (.tuple #[v0, .int .i64 st]) W4 := hent0
      obtain ⟨W5, hsto, hm5, hg5, hz5⟩ := hea.store 88 (.int .i64 (cc + 1))
      have hc1 : 0 ≤ cc := htb.out.1
      have hc2 : cc ≤ 9 := by have := htb.out.2; have := hn9.out; omega
      have y0d : w3.drew.cell? ⟨w2.heap.size, 0, none⟩ = some (.int .i64 x.accd.bal.rd) := y0
      have y1d : w3.drew.cell? ⟨w2.heap.size, 1, none⟩ = some (.int .i64 x.accd.bal.nd) := y1
      have hv0 : v0 = .int .i64 cc := by
        rw [hv00, getK_map, ← hcc]
        cases getA x.accd.bal T.1 <;> rfl
      clear hv00
      subst hv0
      rw [setK_map] at hm4
      have hlk4 := look W4 _ hm4
      rw [getA_set, if_pos rfl] at hlk4
      have hlk4 : (Instr.lookup 88 (.map (some w.heap.size)) (.agg #[.int .i64 x.accd.bal.rd, .int .i64 x.accd.bal.nd]) false).run Try.prog W4 = .ok (.int .i64 cc) W4 := hlk4
      have hwr : IntKind.i64.wrap (cc + 1) = cc + 1 := by rw [IntKind.wrap_i64]; omega
      clear look
      go_region
      have hu5 : Upd (fun k => k = w.heap.size) w3 W5 := (((Upd.of_below' (Below.refl _ w3).drew (fun k => k = w.heap.size))).grown hg4 fun k hk _ => by injection hk with hk; exact hk.symm).grown hg5 fun k hk _ => by injection hk with hk; exact hk.symm
      have hmlt := hm3.lt
      have kx5 := kx.upd hu5 (by have := hB.out.size; have := kv.out.lt; omega)
      have kv5 := kv3.upd hu5 (by omega)
      have hB5 := hB3.trans (hu5.below hB3.size fun k hk e => by omega)
      rw [setK_map] at hm5
      have hq5 := hq.out.below hB5
      obtain ⟨An5, cn5, Am5, cm5, a5, q5⟩ := hq5
      have d5 : W5.cell? ⟨g, 0, none⟩ = some (.slice An5 G.nds.length cn5) := q5.cells.1
      have z0 : W5.cell? ⟨w2.heap.size, 0, none⟩ = some (.int .i64 x.accd.bal.rd) := kx5.cell 0
      have z1 : W5.cell? ⟨w2.heap.size, 1, none⟩ = some (.int .i64 x.accd.bal.nd) := kx5.cell 1
      have b0 : W5.cell? ⟨w.heap.size + 1, 0, none⟩ = some (.int .i64 T.2.bal.rd) := kv5.cell 0
      have b1 : W5.cell? ⟨w.heap.size + 1, 1, none⟩ = some (.int .i64 T.2.bal.nd) := kv5.cell 1
      have look5 : ∀ W', W'.heap[w.heap.size]? = W5.heap[w.heap.size]? → (Instr.lookup 88 (.map (some w.heap.size)) (.agg #[.int .i64 x.accd.bal.rd, .int .i64 x.accd.bal.nd]) false).run Try.prog W' = .ok (.int .i64 (cc + 1)) W' := fun W' h => by
        have := Look.out W' _ (hm5.keep h)
        rw [getA_set, if_pos rfl] at this
        exact this
      have stay : Hid (∀ W', Below W5.heap.size W5 W' → ¬ (0 < x.accd.bal.rd ∧ cc + 1 = ((G.nds.length / 2 + 1 : Nat) : Int) ∧ 0 < cmpB x.accd.bal T.2.bal) → MapIs balE W' w.heap.size ((G.tally s (k + 1)).1.map fun p => (p.1, Value.int .i64 p.2)) ∧ Blk W' (w.heap.size + 1) 71 #[.int .i64 (G.tally s (k + 1)).2.bal.rd, .int .i64 (G.tally s (k + 1)).2.bal.nd, .string (G.tally s (k + 1)).2.text] ∧ Below w.heap.size w W') := hid fun W' hb hno => by
        rw [htl.out]
        simp only
        rw [if_neg hno]
        exact ⟨hm5.below hb, kv5.below_all hb, hB5.trans (hb.mono hB5.size)⟩
      have KX := hid kx5
      have KV := hid kv5
      have HM := hid hm5
      have HB5 := hid hB5
      have Look5 := hid look5
      have hne1 : w2.heap.size ≠ w.heap.size + 1 := by have := kv.out.lt; omega
      have hne2 : w.heap.size + 1 < W5.heap.size := kv5.lt
      clear hu5 kx5 kv5 kx kv3 hm5 hB5 q5 hm3 hm4 hlk hlk4 hent0 hent hea hsto hg4 hg5 hz4 hz5 y0 y1 y0d y1d look5 hB3 hb2 hb3 hzero
      have hk9 : (k : Int) < 9 := by have := hn9.out; omega
      have hnn : (G.nds.length : Int) ≤ 9 := by have := hn9.out; omega
      have hw1 : IntKind.i64.wrap ((G.nds.length : Int) / 2) = (G.nds.length : Int) / 2 := by rw [IntKind.wrap_i64]; omega
      have hw2 : IntKind.i64.wrap ((G.nds.length : Int) / 2 + 1) = (G.nds.length : Int) / 2 + 1 := by rw [IntKind.wrap_i64]; omega
      by_cases hp : 0 < x.accd.bal.rd
      · have t1 : decide (0 < x.accd.bal.rd) = true := decide_eq_true hp
        by_cases hmaj : cc + 1 = (G.nds.length : Int) / 2 + 1
        · have t2 : (cc + 1 == (G.nds.length : Int) / 2 + 1) = true := by simp [hmaj]
          have t2a : (cc == (G.nds.length : Int) / 2) = true := by
            have : cc = (G.nds.length : Int) / 2 := by omega
            simpa using this
          have t2b : decide (cc = (G.nds.length : Int) / 2) = true := decide_eq_true (by omega)
          have t2c : decide (cc + 1 = (G.nds.length : Int) / 2 + 1) = true := decide_eq_true hmaj
          have hmaj2 : Hid (cc + 1 = ((G.nds.length / 2 + 1 : Nat) : Int)) := hid (by omega)
          have keepS : Hid (∀ w' : World, Below W5.heap.size W5 w' → w'.cell? ⟨w2.heap.size, 0, none⟩ = some (.int .i64 x.accd.bal.rd) ∧ w'.cell? ⟨w2.heap.size, 1, none⟩ = some (.int .i64 x.accd.bal.nd) ∧ w'.cell? ⟨w.heap.size + 1, 0, none⟩ = some (.int .i64 T.2.bal.rd) ∧ w'.cell? ⟨w.heap.size + 1, 1, none⟩ = some (.int .i64 T.2.bal.nd) ∧ w'.cell? ⟨g, 0, none⟩ = some (.slice An5 G.nds.length cn5) ∧ (Instr.lookup 88 (.map (some w.heap.size)) (.agg #[.int .i64 x.accd.bal.rd, .int .i64 x.accd.bal.nd]) false).run Try.prog w' = .ok (.int .i64 (cc + 1)) w') := hid fun w' h => by
            have hk := KX.out.below_all h
            have hv := KV.out.below_all h
            have hgl : g < W5.heap.size := by
              have := (hq.out.below HB5.out).lt
              exact this.1 _ this.2
            exact ⟨hk.cell 0, hk.cell 1, hv.cell 0, hv.cell 1, (World.cell?_of_block (w := W5) (a := ⟨g, 0, none⟩) (h.block g hgl)).trans d5, Look5.out w' (h.block _ HM.out.lt)⟩
          have hbX : Hid (Below W5.heap.size W5 W5.drew) := hid (Below.refl _ _).drew
          clear hmaj
          by_cases hgt : 0 < cmpB x.accd.bal T.2.bal
          · have t3 : decide (0 < cmpB x.accd.bal T.2.bal) = true := decide_eq_true hgt
            have htk : Hid ((G.tally s (k + 1)).1 = setA x.accd.bal (cc + 1) T.1 ∧ (G.tally s (k + 1)).2 = x.accd) := hid ⟨by rw [htl.out], by rw [htl.out]; exact if_pos ⟨hp, hmaj2.out, hgt⟩⟩
            clear hgt
            go_upto_region 10 with fail
            go_region_held3 (fun w' => w'.cell? ⟨w2.heap.size, 0, none⟩ = some (.int .i64 x.accd.bal.rd) ∧ w'.cell? ⟨w2.heap.size, 1, none⟩ = some (.int .i64 x.accd.bal.nd) ∧ w'.cell? ⟨w.heap.size + 1, 0, none⟩ = some (.int .i64 T.2.bal.rd) ∧ w'.cell? ⟨w.heap.size + 1, 1, none⟩ = some (.int .i64 T.2.bal.nd) ∧ w'.cell? ⟨g, 0, none⟩ = some (.slice An5 G.nds.length cn5) ∧ (Instr.lookup 88 (.map (some w.heap.size)) (.agg #[.int .i64 x.accd.bal.rd, .int .i64 x.accd.bal.nd]) false).run Try.prog w' = .ok (.int .i64 (cc + 1)) w')
              (first | exact keepS.out _ hbX.out | exact keepS.out _ (Below.refl _ _) | exact keepS.out _ (Below.refl _ _).drew)
              ((go_at_call 41; refine (compare_any x.accd.bal T.2.bal _).mono ?_; rintro e wb ⟨rfl, hbb⟩
                have hbX := hid (hbX.out.trans (hbb.mono hbX.out.size))
                clear hbb))
            have kxb := KX.out.below_all hbX.out
            have kvb := KV.out.below_all hbX.out
            have hmb := HM.out.below hbX.out
            have hBb := HB5.out.trans (hbX.out.mono HB5.out.size)
            have x0 : wb.cell? ⟨w2.heap.size, 0, none⟩ = some (.int .i64 x.accd.bal.rd) := kxb.cell 0
            have x1 : wb.cell? ⟨w2.heap.size, 1, none⟩ = some (.int .i64 x.accd.bal.nd) := kxb.cell 1
            have x2 : wb.cell? ⟨w2.heap.size, 2, none⟩ = some (.string x.accd.text) := kxb.cell 2
            have qz := fun j => kvb.frozen j
            have y0 : wb.cell? ⟨w.heap.size + 1, 0, none⟩ = some (.int .i64 T.2.bal.rd) := kvb.cell 0
            have y1 : wb.cell? ⟨w.heap.size + 1, 1, none⟩ = some (.int .i64 T.2.bal.nd) := kvb.cell 1
            have y2 : wb.cell? ⟨w.heap.size + 1, 2, none⟩ = some (.string T.2.text) := kvb.cell 2
            have hfin : Hid (MapIs balE (((wb.setCell ⟨w.heap.size + 1, 0, none⟩ (.int .i64 x.accd.bal.rd)).setCell ⟨w.heap.size + 1, 1, none⟩ (.int .i64 x.accd.bal.nd)).setCell ⟨w.heap.size + 1, 2, none⟩ (.string x.accd.text)) w.heap.size ((G.tally s (k + 1)).1.map fun p => (p.1, Value.int .i64 p.2)) ∧ Blk (((wb.setCell ⟨w.heap.size + 1, 0, none⟩ (.int .i64 x.accd.bal.rd)).setCell ⟨w.heap.size + 1, 1, none⟩ (.int .i64 x.accd.bal.nd)).setCell ⟨w.heap.size + 1, 2, none⟩ (.string x.accd.text)) (w.heap.size + 1) 71 #[.int .i64 (G.tally s (k + 1)).2.bal.rd, .int .i64 (G.tally s (k + 1)).2.bal.nd, .string (G.tally s (k + 1)).2.text] ∧ Below w.heap.size w (((wb.setCell ⟨w.heap.size + 1, 0, none⟩ (.int .i64 x.accd.bal.rd)).setCell ⟨w.heap.size + 1, 1, none⟩ (.int .i64 x.accd.bal.nd)).setCell ⟨w.heap.size + 1, 2, none⟩ (.string x.accd.text))) := hid (by
              rw [htk.out.1, htk.out.2]
              have hmn : w.heap.size ≠ w.heap.size + 1 := by omega
              refine ⟨((hmb.setCell ⟨w.heap.size + 1, 0, none⟩ _ hmn).setCell ⟨w.heap.size + 1, 1, none⟩ _ hmn).setCell ⟨w.heap.size + 1, 2, none⟩ _ hmn, ((kvb.set_ 0 _).set_ 1 _).set_ 2 _, ?_⟩
              exact ((hBb.setCell (p := ⟨w.heap.size + 1, 0, none⟩) (Nat.le_succ _) _).setCell (p := ⟨w.heap.size + 1, 1, none⟩) (Nat.le_succ _) _).setCell (p := ⟨w.heap.size + 1, 2, none⟩) (Nat.le_succ _) _)
            clear kxb kvb hmb hBb
            go_wp2_with fail
            go_roundw
            case rel => exact ⟨k + 1, by go_num, by omega, hfin.out⟩
            case measure => simp [intOf]; omega
          · have t3 : decide (0 < cmpB x.accd.bal T.2.bal) = false := decide_eq_false hgt
            have hno : Hid (∀ W', Below W5.heap.size W5 W' → MapIs balE W' w.heap.size ((G.tally s (k + 1)).1.map fun p => (p.1, Value.int .i64 p.2)) ∧ Blk W' (w.heap.size + 1) 71 #[.int .i64 (G.tally s (k + 1)).2.bal.rd, .int .i64 (G.tally s (k + 1)).2.bal.nd, .string (G.tally s (k + 1)).2.text] ∧ Below w.heap.size w W') := hid fun W' hb => stay.out W' hb fun h => hgt h.2.2
            clear hgt
            go_upto_region 10 with fail
            go_region_held3 (fun w' => w'.cell? ⟨w2.heap.size, 0, none⟩ = some (.int .i64 x.accd.bal.rd) ∧ w'.cell? ⟨w2.heap.size, 1, none⟩ = some (.int .i64 x.accd.bal.nd) ∧ w'.cell? ⟨w.heap.size + 1, 0, none⟩ = some (.int .i64 T.2.bal.rd) ∧ w'.cell? ⟨w.heap.size + 1, 1, none⟩ = some (.int .i64 T.2.bal.nd) ∧ w'.cell? ⟨g, 0, none⟩ = some (.slice An5 G.nds.length cn5) ∧ (Instr.lookup 88 (.map (some w.heap.size)) (.agg #[.int .i64 x.accd.bal.rd, .int .i64 x.accd.bal.nd]) false).run Try.prog w' = .ok (.int .i64 (cc + 1)) w')
              (first | exact keepS.out _ hbX.out | exact keepS.out _ (Below.refl _ _) | exact keepS.out _ (Below.refl _ _).drew)
              ((go_at_call 41; refine (compare_any x.accd.bal T.2.bal _).mono ?_; rintro e wb ⟨rfl, hbb⟩
                have hbX := hid (hbX.out.trans (hbb.mono hbX.out.size))
                clear hbb))
            go_wp2_with fail
            go_roundw
            case rel => exact ⟨k + 1, by go_num, by omega, hno.out _ hbX.out⟩
            case measure => simp [intOf]; omega
        · have t2 : (cc + 1 == (G.nds.length : Int) / 2 + 1) = false := by simpa using hmaj
          have t2a : (cc == (G.nds.length : Int) / 2) = false := by
            have : ¬ cc = (G.nds.length : Int) / 2 := by omega
            simpa using this
          have t2b : decide (cc = (G.nds.length : Int) / 2) = false := decide_eq_false (by omega)
          have t2c : decide (cc + 1 = (G.nds.length : Int) / 2 + 1) = false := decide_eq_false hmaj
          have hno : Hid (∀ W', Below W5.heap.size W5 W' → MapIs balE W' w.heap.size ((G.tally s (k + 1)).1.map fun p => (p.1, Value.int .i64 p.2)) ∧ Blk W' (w.heap.size + 1) 71 #[.int .i64 (G.tally s (k + 1)).2.bal.rd, .int .i64 (G.tally s (k + 1)).2.bal.nd, .string (G.tally s (k + 1)).2.text] ∧ Below w.heap.size w W') := hid fun W' hb => stay.out W' hb fun h => hmaj (by have := h.2.1; omega)
          have hl0 := fun n => Look5.out (W5.drewN n) rfl
          clear hmaj
          go_upto_region 10 with fail
          go_quiet (fail)
          go_wp2_with fail
          go_roundw
          case rel => exact ⟨k + 1, by go_num, by omega, hno.out _ (below_drewN (Below.refl _ _) _)⟩
          case measure => simp [intOf]; omega
      · have t1 : decide (0 < x.accd.bal.rd) = false := decide_eq_false hp
        have hno : Hid (∀ W', Below W5.heap.size W5 W' → MapIs balE W' w.heap.size ((G.tally s (k + 1)).1.map fun p => (p.1, Value.int .i64 p.2)) ∧ Blk W' (w.heap.size + 1) 71 #[.int .i64 (G.tally s (k + 1)).2.bal.rd, .int .i64 (G.tally s (k + 1)).2.bal.nd, .string (G.tally s (k + 1)).2.text] ∧ Below w.heap.size w W') := hid fun W' hb => stay.out W' hb fun h => hp h.1
        clear hp
        go_upto_region 10 with fail
        go_quiet (fail)
        go_wp2_with fail
        go_roundw
        case rel => exact ⟨k + 1, by go_num, by omega, hno.out _ (below_drewN (Below.refl _ _) _)⟩
        case measure => simp [intOf]; omega
    · obtain rfl : k = G.nds.length := by omega
      have kf := kv.out
      have b0 : wr.cell? ⟨w.heap.size + 1, 0, none⟩ = some (.int .i64 (G.tally s G.nds.length).2.bal.rd) := kf.cell 0
      have b2 : wr.cell? ⟨w.heap.size + 1, 2, none⟩ = some (.string (G.tally s G.nds.length).2.text) := kf.cell 2
      have hch : Hid ((G.tally s G.nds.length).2 = G.chosen s) := hid rfl
      clear kf
      generalize (G.tally s G.nds.length).2 = V at *
      go_upto_region 13 with fail
      go_quiet (fail)
      go_wp2_with fail
      go_ret2
      exact ⟨by rw [hch.out]; rfl, below_drewN hB.out _⟩
end

end Go.Proofs.Ytbgopicpdpkccaa

namespace Go.Proofs.Ytbgopicpdpkccaa
open Go.RowKit
set_option linter.unusedVariables false
set_option linter.unusedSimpArgs false

theorem bytes_eq (a b : ByteArray) : (a.toList == b.toList) = decide (a = b) := by
  rw [Bool.eq_iff_iff]
  simp only [beq_iff_eq, decide_eq_true_eq]
  exact ⟨fun h => ba_inj h, fun h => by rw [h]⟩
def hasB (l : List ByteArray) (t : ByteArray) : Bool := l.any fun u => decide (u = t)
theorem hasB_mem {l : List ByteArray} {t : ByteArray} : hasB l t = true ↔ t ∈ l := by
  unfold hasB
  rw [List.any_eq_true]
  exact ⟨fun ⟨u, h1, h2⟩ => of_decide_eq_true h2 ▸ h1, fun h => ⟨t, h, decide_eq_true rfl⟩⟩
theorem strs_at {S : Nat → Prop} {w : World} {A : Option Addr} {l : List ByteArray} {k : Nat} (h : Rd S w 1 A l.length (l.map .string)) (hk : k < l.length) : ∃ b o, A = some ⟨b, o, none⟩ ∧ b < w.heap.size ∧ w.cell? ⟨b, o + k, none⟩ = some (.string l[k]) := by
  obtain ⟨b, o, e, hS, hl, hc⟩ := h.at_ hk
  exact ⟨b, o, e, hl, hc k _ (by simp [hk])⟩
set_option maxRecDepth 100000 in
set_option maxHeartbeats 1000000 in
theorem has_any (S : Nat → Prop) (A : Option Addr) (c : Nat) (l : List ByteArray) (t : ByteArray) (w : World) (ha : Rd S w 1 A l.length (l.map .string)) (hl : l.length ≤ 1048577) : Calls Try.prog 24 #[.slice A l.length c, .string t] w fun e w' => e = .returned (.bool (hasB l t)) ∧ w' = w := by
  have hll : (l.length : Int) ≤ 1048577 := by omega
  clear hl
  go_enter Try.func24, Try.ntmps24
  go_wp2_with fail
  go_loopw [5] (fun i wr => ∃ k : Nat, k ≤ l.length ∧ i = .int .i64 k ∧ wr = w ∧ ∀ j (h : j < l.length), j < k → l[j] ≠ t) (fun i _ => l.length - (intOf i).toNat)
  case atStart => exact ⟨0, Nat.zero_le _, rfl, rfl, fun j _ h => by omega⟩
  case round =>
    obtain ⟨k, hk, rfl, rfl, hno0⟩ := hrel
    have hno := hid hno0
    clear hno0
    by_cases hlt : k < l.length
    · have i1 : (k : Int) < (l.length : Int) := by omega
      obtain ⟨b, o, rfl, hbl, a0⟩ := strs_at ha hlt
      by_cases he : l[k] = t
      · have hfin : Hid (hasB l t = true) := hid (hasB_mem.2 (he ▸ List.getElem_mem hlt))
        have t1 : (l[k].toList == t.toList) = true := by rw [bytes_eq]; exact decide_eq_true he
        clear ha he
        go_wp2_with fail
        go_ret
        exact ⟨by rw [hfin.out]; rfl, by first | rfl | trivial⟩
      · have t1 : (l[k].toList == t.toList) = false := by rw [bytes_eq]; exact decide_eq_false he
        have hne := hid he
        clear ha he
        go_wp2_with fail
        go_roundw
        case rel =>
          refine ⟨k + 1, by omega, by go_num, by first | rfl | trivial, fun j h hj => ?_⟩
          rcases Nat.lt_succ_iff_lt_or_eq.1 hj with hj | rfl
          · exact hno.out j h hj
          · exact hne.out
        case measure => simp [intOf]; omega
    · obtain rfl : k = l.length := by omega
      have hfin : Hid (hasB l t = false) := hid (Bool.eq_false_iff.2 fun hm => by
        have hm := hasB_mem.1 hm
        obtain ⟨j, hj, e⟩ := List.mem_iff_getElem.1 hm
        exact hno.out j hj hj e)
      clear ha
      go_wp2_with fail
      go_ret
      exact ⟨by rw [hfin.out]; rfl, by first | rfl | trivial⟩

end Go.Proofs.Ytbgopicpdpkccaa

namespace Go.Proofs.Ytbgopicpdpkccaa
open Go.RowKit
set_option linter.unusedVariables false
set_option linter.unusedSimpArgs false

set_option maxRecDepth 100000 in
set_option maxHeartbeats 1000000 in
theorem texts_same (S S' : Nat → Prop) (A A' : Option Addr) (c c' : Nat) (l : List ByteArray) (w : World) (ha : Rd S w 1 A l.length (l.map .string)) (hb : Rd S' w 1 A' l.length (l.map .string)) (hl : l.length ≤ 1000) : Calls Try.prog 27 #[.slice A l.length c, .slice A' l.length c'] w fun e w' => e = .returned (.bool true) ∧ Below w.heap.size w w' := by
  go_enter Try.func27, Try.ntmps27
  go_wp2_with fail
  go_loopw [5] (fun i wr => ∃ k : Nat, k ≤ l.length ∧ i = .int .i64 k ∧ Below w.heap.size w wr) (fun i _ => l.length - (intOf i).toNat)
  case atStart => exact ⟨0, Nat.zero_le _, rfl, Below.refl _ _⟩
  case round =>
    obtain ⟨k, hk, rfl, hB0⟩ := hrel
    have hB := hid hB0
    by_cases hlt : k < l.length
    · have i1 : (k : Int) < (l.length : Int) := by omega
      obtain ⟨b, o, e1, hbl, a0⟩ := strs_at ha hlt
      obtain ⟨b', o', e2, hbl', a0'⟩ := strs_at hb hlt
      have a1 : wr.cell? ⟨b, o + k, none⟩ = some (.string l[k]) := (World.cell?_of_block (w := w) (a := ⟨b, o + k, none⟩) (hB0.block b hbl)).trans a0
      have a1' : wr.cell? ⟨b', o' + k, none⟩ = some (.string l[k]) := (World.cell?_of_block (w := w) (a := ⟨b', o' + k, none⟩) (hB0.block b' hbl')).trans a0'
      subst e1 e2
      clear ha hb a0 a0' hB0
      go_upto_region 6 with fail
      go_quiet (fail)
      go_wp2_with fail
      go_roundw
      case rel => exact ⟨k + 1, by omega, by go_num, below_drewN hB.out _⟩
      case measure => simp [intOf]; omega
    · obtain rfl : k = l.length := by omega
      clear ha hb hB0
      go_wp2_with fail
      go_ret
      exact ⟨rfl, hB.out⟩
theorem rd_take {S : Nat → Prop} {w : World} {A : Option Addr} {l : List ByteArray} {k : Nat} (h : Rd S w 1 A l.length (l.map .string)) (hk : k ≤ l.length) : Rd S w 1 A k ((l.take k).map .string) := by
  refine ⟨by simp; omega, fun h0 => ?_⟩
  obtain ⟨b, o, e, hS, hl, hc⟩ := h.2 (by omega)
  refine ⟨b, o, e, hS, hl, fun j u hu => hc j u ?_⟩
  rw [List.map_take] at hu
  by_cases hj : j < k
  · rwa [List.getElem?_take_of_lt hj] at hu
  · rw [List.getElem?_take_eq_none (by omega)] at hu
    cases hu
/-- a list of texts, in a row of its own -/
def WRow (w : World) (v : Value) (l : List ByteArray) : Prop := ∃ A c, v = .slice A l.length c ∧ w.ownsRow 0 9 1 (.slice A l.length c) l.length (l.map .string)
theorem WRow.upd {M : Nat → Prop} {w w' : World} {v : Value} {l : List ByteArray} (h : WRow w v l) (hu : Upd M w w') (hM : ∀ b, v.ownBlock = some b → ¬ M b) : WRow w' v l := by
  obtain ⟨A, c, rfl, h⟩ := h
  refine ⟨A, c, rfl, h.1, ?_⟩
  rcases h.2 with hn | ⟨g, cap, cur, hv, hg, hh, rest⟩
  · exact .inl hn
  · refine .inr ⟨g, cap, cur, hv, hg, ?_, rest⟩
    have hl : g < w.heap.size := (Array.getElem?_eq_some_iff.1 hh).1
    exact (hu.block g hl (hM g (by rw [hv]; rfl))).trans hh
theorem WRow.lt {w : World} {v : Value} {l : List ByteArray} (h : WRow w v l) {b : Nat} (hb : v.ownBlock = some b) : b < w.heap.size := by
  obtain ⟨A, c, rfl, h⟩ := h
  exact (World.ownsRow.lt h b hb).2
theorem WRow.of_own {w : World} {base : Nat} {v : Value} {l : List ByteArray} (h : w.ownsRow base 9 1 v l.length (l.map .string)) : WRow w v l ∧ ∀ b, v.ownBlock = some b → base ≤ b := by
  obtain ⟨A, c, rfl, _, _⟩ := own_form h
  exact ⟨⟨A, c, rfl, own_base (Nat.zero_le _) h⟩, fun b hb => (World.ownsRow.lt h b hb).1⟩

end Go.Proofs.Ytbgopicpdpkccaa

