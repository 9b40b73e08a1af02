/- Texts of the proof, joined: GAsks. -/
import Derived.Test.YtbgopicpdpkccaaJ25
import Derived.Test.YtbgopicpdpkccaaJ26
import Derived.Test.YtbgopicpdpkccaaJ07
import Derived.Test.YtbgopicpdpkccaaJ27
namespace Go.Proofs.Ytbgopicpdpkccaa
open Go.RowKit
set_option linter.unusedVariables false
set_option linter.unusedSimpArgs false

theorem guardMail : Try.prog.eqGuardType Try.prog.depth 78 = false := by kernel_rfl
theorem run_eqMail (m : Ml) (w : World) :
    (Op.equalIn 10000 78 (.agg #[.int .i64 m.kind, .int .i64 m.fr, .int .i64 m.dst, .int .i64 m.slot, .int .i64 m.bal.rd, .int .i64 m.bal.nd, .int .i64 m.had.rd, .int .i64 m.had.nd, .string m.text]) (.agg #[.int .i64 m.kind, .int .i64 m.fr, .int .i64 m.dst, .int .i64 m.slot, .int .i64 m.bal.rd, .int .i64 m.bal.nd, .int .i64 m.had.rd, .int .i64 m.had.nd, .string m.text])).run Try.prog w = .ok true w := by
  have ht : Try.prog.underlying 78 = some (.struct (Try.prog.fieldsOf 78)) := by kernel_rfl
  have hp : Try.prog.stoodInHeld 78 = false := by kernel_rfl
  have ht2 : Try.prog.underlying 35 = some (.struct (Try.prog.fieldsOf 35)) := by kernel_rfl
  have hp2 : Try.prog.stoodInHeld 35 = false := by kernel_rfl
  have hb : ∀ (a b : Int) (w : World), (Op.equalIn 9999 35 (.agg #[.int .i64 a, .int .i64 b]) (.agg #[.int .i64 a, .int .i64 b])).run Try.prog w = .ok true w := fun a b w => by
    rw [run_equalIn_agg w 9998 _ _ _ ht2 hp2]
    clear ht hp ht2 hp2
    simp only [Program.fieldsOf, Try.underlying35]
    go_simp
  rw [run_equalIn_agg w 9999 _ _ _ ht hp]
  clear ht hp ht2 hp2
  simp only [Program.fieldsOf, Try.underlying78]
  go_simp
theorem Rd.mail_at {S : Nat → Prop} {w : World} {A : Option Addr} {l : List Ml} {k : Nat} (h : Rd S w 9 A l.length (mcells l)) (hk : k < l.length) : ∃ b o, A = some ⟨b, o, none⟩ ∧ b < w.heap.size ∧ w.cell? ⟨b, o + k * 9, none⟩ = some (.int .i64 l[k].kind) ∧ w.cell? ⟨b, o + k * 9 + 1, none⟩ = some (.int .i64 l[k].fr) ∧ w.cell? ⟨b, o + k * 9 + 2, none⟩ = some (.int .i64 l[k].dst) ∧ w.cell? ⟨b, o + k * 9 + 3, none⟩ = some (.int .i64 l[k].slot) ∧ w.cell? ⟨b, o + k * 9 + 4, none⟩ = some (.int .i64 l[k].bal.rd) ∧ w.cell? ⟨b, o + k * 9 + 5, none⟩ = some (.int .i64 l[k].bal.nd) ∧ w.cell? ⟨b, o + k * 9 + 6, none⟩ = some (.int .i64 l[k].had.rd) ∧ w.cell? ⟨b, o + k * 9 + 7, none⟩ = some (.int .i64 l[k].had.nd) ∧ w.cell? ⟨b, o + k * 9 + 8, none⟩ = some (.string l[k].text) := by
  obtain ⟨b, o, e, hS, hl, hc⟩ := Rd.at_ h hk
  have g := fun j (hj : j < 9) u (hu : (Ml.cells l[k])[j]? = some u) => hc (k * 9 + j) u (by rw [mcells_at l k j hk hj]; exact hu)
  simp only [← Nat.add_assoc] at g
  exact ⟨b, o, e, hl, g 0 (by omega) _ rfl, g 1 (by omega) _ rfl, g 2 (by omega) _ rfl, g 3 (by omega) _ rfl, g 4 (by omega) _ rfl, g 5 (by omega) _ rfl, g 6 (by omega) _ rfl, g 7 (by omega) _ rfl, g 8 (by omega) _ rfl⟩
set_option maxRecDepth 100000 in
set_option maxHeartbeats 2000000 in
theorem mail_same (S S' : Nat → Prop) (A A' : Option Addr) (c c' : Nat) (l : List Ml) (w : World) (ha : Rd S w 9 A l.length (mcells l)) (hb : Rd S' w 9 A' l.length (mcells l)) (hl : l.length ≤ 100000) : Calls Try.prog 51 #[.slice A l.length c, .slice A' l.length c'] w fun e w' => e = .returned (.bool true) ∧ Below w.heap.size w w' := by
  have hgm := guardMail
  go_enter Try.func51, Try.ntmps51
  go_wp2_with fail
  go_loopw [5] (fun i wr => ∃ k : Nat, k ≤ l.length ∧ i = .int .i64 k ∧ Below w.heap.size w wr) (fun i _ => l.length - (intOf i).toNat)
  case atStart => exact ⟨0, Nat.zero_le _, rfl, Below.refl _ _⟩
  case round =>
    obtain ⟨k, hk, rfl, hB0⟩ := hrel
    have hB := hid hB0
    by_cases hlt : k < l.length
    · have i1 : (k : Int) < (l.length : Int) := by omega
      obtain ⟨b, o, e1, hbl, x0, x1, x2, x3, x4, x5, x6, x7, x8⟩ := (ha.keep (w' := wr) fun b _ h => hB.out.block b h).mail_at hlt
      obtain ⟨b', o', e2, hbl', y0, y1, y2, y3, y4, y5, y6, y7, y8⟩ := (hb.keep (w' := wr) fun b _ h => hB.out.block b h).mail_at hlt
      subst e1 e2
      have hq := run_eqMail l[k]
      have hneq : ∀ W', (binOp .neq 78 (.agg #[.int .i64 l[k].kind, .int .i64 l[k].fr, .int .i64 l[k].dst, .int .i64 l[k].slot, .int .i64 l[k].bal.rd, .int .i64 l[k].bal.nd, .int .i64 l[k].had.rd, .int .i64 l[k].had.nd, .string l[k].text]) (.agg #[.int .i64 l[k].kind, .int .i64 l[k].fr, .int .i64 l[k].dst, .int .i64 l[k].slot, .int .i64 l[k].bal.rd, .int .i64 l[k].bal.nd, .int .i64 l[k].had.rd, .int .i64 l[k].had.nd, .string l[k].text])).run Try.prog W' = .ok (.bool false) W' := fun W' => by rw [run_neq_struct, hq]; rfl
      clear ha hb hB0 hq
      generalize l[k] = m at *
      go_upto_region 6 with fail
      go_quiet (fail)
      go_wp2_with fail
      go_roundw
      case rel => exact ⟨k + 1, by omega, by go_num, below_drewN hB.out _⟩
      case measure => simp [intOf]; omega
    · obtain rfl : k = l.length := by omega
      clear ha hb hB0
      go_wp2_with fail
      go_ret
      exact ⟨rfl, hB.out⟩
theorem BlkN.set {w : World} {b m j : Nat} {t : TypeId} {v : Value} (h : ∃ cs, Blk w b t cs ∧ m ≤ cs.size) : ∃ cs, Blk (w.setCell ⟨b, j, none⟩ v) b t cs ∧ m ≤ cs.size := by
  obtain ⟨cs, h1, h2⟩ := h
  exact ⟨_, h1.set_ j v, by simpa using h2⟩
theorem OwnR.blk {w : World} {base n c : Nat} {A : Option Addr} {xs : List Value} (h : w.ownsRow base 78 9 (.slice A n c) n xs) (hn : 0 < n) : ∃ b, A = some ⟨b, 0, none⟩ ∧ base ≤ b ∧ ∃ cs, Blk w b 78 cs ∧ n * 9 ≤ cs.size := by
  rcases h.2 with ⟨hv, rfl⟩ | ⟨g, cap, cur, hv, hg, hh, h1, h2, h3, _⟩
  · exact absurd (by simpa using h.1) (by omega)
  · injection hv with e1 _ e2
    exact ⟨g, e1, hg, cur, hh, by rw [h3]; exact Nat.mul_le_mul_right 9 h1⟩
section
variable {B g r N : Nat} {K : Int} {Sg Sr : Nat → Prop} {G : Gr} {w : World}
set_option maxRecDepth 100000 in
set_option maxHeartbeats 8000000 in
theorem asks_any (s : Int) (P : Duo B g r Sg Sr G G w) (hi : Inv N K G) (hN : N ≤ 9) (hK : K ≤ 100000) : Calls Try.prog 30 #[.pointer (some ⟨g, 0, none⟩), .pointer (some ⟨r, 0, none⟩), .int .i64 s] w fun e w' => e = .returned (.bool true) ∧ Below w.heap.size w w' := by
  have hch := (hi.one s).chosen
  have hN9 : G.nds.length ≤ 9 := by have := hi.fit.len; omega
  have hml : G.mail.length ≤ 100000 := by have := hi.fit.room; omega
  have hfw : ∀ i, (G.nd i).sl.length ≤ 1000 := fun i => by have := hi.few P.t i; omega
  have cMail := hid (mail_any P.q (by omega))
  have cCho := hid (fun w1 (hb : Below w.heap.size w w1) => chosen_any s (P.q.below hb) hN9)
  have cRch := hid (fun w1 (hb : Below w.heap.size w w1) => by
    have := rchosen_any s (P.t.below hb) hi.key.range hfw hN9
    rwa [← hch] at this)
  have cOf := hid (fun (k : Int) w1 (hb : Below w.heap.size w w1) => rof_any k s (P.t.below hb) (hi.key.range k s) hfw)
  have cLe := hid (fun (k : Int) w1 (hb : Below w.heap.size w w1) => learned_any k s (P.q.below hb))
  have cAc := hid (fun (k : Int) w1 (hb : Below w.heap.size w w1) => accepted_any k s (P.q.below hb))
  have cPr := hid (fun (k : Int) w1 (hb : Below w.heap.size w w1) => promised_any k s (P.q.below hb))
  have cUp := hid (fun (k : Int) w1 (hb : Below w.heap.size w w1) => up_any k (P.q.below hb))
  have cLog := hid (fun (k : Int) w1 (hb : Below w.heap.size w w1) => log_any k (P.q.below hb))
  have cRl := hid (fun (k : Int) w1 (hb : Below w.heap.size w w1) => rlog_any k (P.t.below hb) hi.key.range hfw)
  have hml9 : (G.mail.length : Int) ≤ 100000 := by omega
  have hn9 : (G.nds.length : Int) ≤ 9 := by omega
  have hHN := hid hN9; have hHM := hid hml
  clear hch hfw hN9 hml
  have P := hid P
  have hBr := hid (show Below w.heap.size w w from Below.refl _ _)
  go_enter Try.func30, Try.ntmps30
  go_wp2_with fail
  refine cMail.out.mono ?_
  rintro e w1 ⟨v, rfl, hcl⟩
  obtain ⟨A, c, rfl, _⟩ := own_form hcl.1
  have hB1 := hid hcl.2
  have hown := hid hcl.1
  obtain ⟨An, cn, Am, cm, a, q⟩ := P.out.t.below hB1.out
  have d1 := q.cells.2
  have hms := hid (mail_same _ _ A Am c cm G.mail w1 (Rd.of_own hown.out) q.mrow.rd hHM.out)
  clear q hcl
  go_wp2_with fail
  refine hms.out.mono ?_
  rintro e w2 ⟨rfl, hb20⟩
  have hB2 := hid (hB1.out.trans (hb20.mono hB1.out.size))
  have hrow : Hid (0 < G.mail.length → ∃ b, A = some ⟨b, 0, none⟩ ∧ w.heap.size ≤ b ∧ ∃ cs, Blk w2 b 78 cs ∧ G.mail.length * 9 ≤ cs.size) := hid fun hn => by
    obtain ⟨b, h1, h2, cs, h3, h4⟩ := OwnR.blk hown.out hn
    exact ⟨b, h1, h2, cs, h3.below_all hb20, h4⟩
  clear hb20 d1 hms hown
  go_wp2_with fail
  go_loopw [8] (fun v wr => ∃ k : Nat, v = .int .i64 k ∧ k ≤ G.mail.length ∧ (0 < G.mail.length → ∃ b, A = some ⟨b, 0, none⟩ ∧ w.heap.size ≤ b ∧ ∃ cs, Blk wr b 78 cs ∧ G.mail.length * 9 ≤ cs.size) ∧ Below w.heap.size w wr) (fun v _ => G.mail.length - (intOf v).toNat)
  case atStart => exact ⟨0, rfl, Nat.zero_le _, hrow.out, hB2.out⟩
  case round =>
    clear hrow hB2
    obtain ⟨k, rfl, hk, hrow0, hB0⟩ := hrel
    by_cases hlt : k < G.mail.length
    · have i1 : (k : Int) < (G.mail.length : Int) := by omega
      obtain ⟨b, rfl, hb, cs, kb0, hcs⟩ := hrow0 (by omega)
      have kb := hid kb0
      obtain ⟨v0, x0⟩ : ∃ v, wr.cell? ⟨b, k * 9, none⟩ = some v := ⟨_, by rw [kb.out.cell]; exact Array.getElem?_eq_getElem (show k * 9 < cs.size by omega)⟩
      obtain ⟨v1, x1⟩ : ∃ v, wr.cell? ⟨b, k * 9 + 1, none⟩ = some v := ⟨_, by rw [kb.out.cell]; exact Array.getElem?_eq_getElem (show k * 9 + 1 < cs.size by omega)⟩
      obtain ⟨v2, x2⟩ : ∃ v, wr.cell? ⟨b, k * 9 + 2, none⟩ = some v := ⟨_, by rw [kb.out.cell]; exact Array.getElem?_eq_getElem (show k * 9 + 2 < cs.size by omega)⟩
      obtain ⟨v3, x3⟩ : ∃ v, wr.cell? ⟨b, k * 9 + 3, none⟩ = some v := ⟨_, by rw [kb.out.cell]; exact Array.getElem?_eq_getElem (show k * 9 + 3 < cs.size by omega)⟩
      obtain ⟨v4, x4⟩ : ∃ v, wr.cell? ⟨b, k * 9 + 4, none⟩ = some v := ⟨_, by rw [kb.out.cell]; exact Array.getElem?_eq_getElem (show k * 9 + 4 < cs.size by omega)⟩
      obtain ⟨v5, x5⟩ : ∃ v, wr.cell? ⟨b, k * 9 + 5, none⟩ = some v := ⟨_, by rw [kb.out.cell]; exact Array.getElem?_eq_getElem (show k * 9 + 5 < cs.size by omega)⟩
      obtain ⟨v6, x6⟩ : ∃ v, wr.cell? ⟨b, k * 9 + 6, none⟩ = some v := ⟨_, by rw [kb.out.cell]; exact Array.getElem?_eq_getElem (show k * 9 + 6 < cs.size by omega)⟩
      obtain ⟨v7, x7⟩ : ∃ v, wr.cell? ⟨b, k * 9 + 7, none⟩ = some v := ⟨_, by rw [kb.out.cell]; exact Array.getElem?_eq_getElem (show k * 9 + 7 < cs.size by omega)⟩
      obtain ⟨v8, x8⟩ : ∃ v, wr.cell? ⟨b, k * 9 + 8, none⟩ = some v := ⟨_, by rw [kb.out.cell]; exact Array.getElem?_eq_getElem (show k * 9 + 8 < cs.size by omega)⟩
      have fz : ∀ j, wr.frozen? ⟨b, j, none⟩ = false := fun j => kb.out.frozen j
      have hbl : b < wr.heap.size := kb.out.lt
      have hB := hid hB0
      have hBB : Hid (w.heap.size ≤ b) := hid hb
      have hCS := hid hcs
      clear kb0 hB0 hrow0 hb hcs
      go_wp2_with fail
      refine ⟨⟨k + 1, by go_num, hlt, fun _ => ⟨b, rfl, hBB.out, ?_⟩, ?_⟩, ?_⟩
      · iterate 9 (refine BlkN.set ?_)
        exact ⟨cs, kb.out, hCS.out⟩
      · iterate 9 (refine Below.setCell ?_ (by exact hBB.out) _)
        exact hB.out
      · simp [intOf]; omega
    · obtain rfl : k = G.mail.length := by omega
      have hB := hid hB0
      clear hB0 hrow0
      go_wp2_with fail
      refine (cCho.out wr hB.out).mono ?_
      rintro e w3 ⟨rfl, hb30⟩
      have hB3 := hid (hB.out.trans (hb30.mono hB.out.size))
      clear hb30
      go_wp2_with fail
      refine (cRch.out w3 hB3.out).mono ?_
      rintro e w4 ⟨rfl, hb40⟩
      have hB4 := hid (hB3.out.trans (hb40.mono hB3.out.size))
      clear hb40
      generalize G.chosen s = ch at *
      go_wp2_with fail
      go_loopw [13] (fun v wr => ∃ n : Int, v = .int .i64 n ∧ -1 ≤ n ∧ n ≤ G.nds.length + 1 ∧ Below w.heap.size w wr) (fun v _ => ((G.nds.length : Int) + 1 - intOf v).toNat)
      case atStart => exact ⟨-1, rfl, by omega, by omega, hB4.out⟩
      case round =>
        clear hB hB3 hB4
        obtain ⟨n, rfl, hn1, hn2, hB0⟩ := hrel
        have hB := hid hB0
        clear hB0
        obtain ⟨An, cn, Am, cm, a, q⟩ := P.out.t.below hB.out
        have d0 := q.cells.1
        clear q
        by_cases hlt : n ≤ (G.nds.length : Int)
        · have t1 : decide (n ≤ (G.nds.length : Int)) = true := decide_eq_true hlt
          have hx0 : ∃ x, x = G.st n s := ⟨_, rfl⟩
          obtain ⟨x, hx⟩ := hx0
          have cOfx := hid (fun w1 (hb : Below w.heap.size w w1) => by have := cOf.out n w1 hb; rwa [← hx] at this)
          have cLex := hid (fun w1 (hb : Below w.heap.size w w1) => by have := cLe.out n w1 hb; rwa [← hx] at this)
          have cAcx := hid (fun w1 (hb : Below w.heap.size w w1) => by have := cAc.out n w1 hb; rwa [← hx] at this)
          have cPrx := hid (fun w1 (hb : Below w.heap.size w w1) => by have := cPr.out n w1 hb; rwa [← hx] at this)
          clear hx
          go_wp2_with fail
          refine (cOfx.out _ hB.out).mono ?_
          rintro e w2 ⟨⟨k2, z, rfl⟩, hb20⟩
          unfold rval
          have hB2 := hid (hB.out.trans (hb20.mono hB.out.size))
          have hY : Below w2.heap.size w2 (w2.alloc (.cells #[.int .i64 k2, .int .i64 x.rd, .int .i64 x.prom.rd, .int .i64 x.prom.nd, .int .i64 x.accd.bal.rd, .int .i64 x.accd.bal.nd, .string x.accd.text, .bool x.is, .string x.text, .bool x.bid.isSome, .bool z.asks, .int .i64 z.bal.rd, .int .i64 z.bal.nd, .string z.own, .slice z.A z.n z.c] 103)) := (Below.refl _ _).alloc (Nat.le_refl _) _
          have ks3 := hid (Blk.new w2 103 #[.int .i64 k2, .int .i64 x.rd, .int .i64 x.prom.rd, .int .i64 x.prom.nd, .int .i64 x.accd.bal.rd, .int .i64 x.accd.bal.nd, .string x.accd.text, .bool x.is, .string x.text, .bool x.bid.isSome, .bool z.asks, .int .i64 z.bal.rd, .int .i64 z.bal.nd, .string z.own, .slice z.A z.n z.c])
          have hB3 := hid (hB2.out.trans (hY.mono hB2.out.size))
          clear hb20 hY d0
          go_upto_region 16 with fail
          generalize w2.alloc (.cells #[.int .i64 k2, .int .i64 x.rd, .int .i64 x.prom.rd, .int .i64 x.prom.nd, .int .i64 x.accd.bal.rd, .int .i64 x.accd.bal.nd, .string x.accd.text, .bool x.is, .string x.text, .bool x.bid.isSome, .bool z.asks, .int .i64 z.bal.rd, .int .i64 z.bal.nd, .string z.own, .slice z.A z.n z.c] 103) = w3 at *
          go_wp2_with fail
          refine (cLex.out w3 hB3.out).mono ?_
          rintro e w4 ⟨rfl, hb40⟩
          have hB4 := hid (hB3.out.trans (hb40.mono hB3.out.size))
          have ks4 := hid (ks3.out.below_all hb40)
          clear hb40
          go_wp2_with fail
          refine (cAcx.out w4 hB4.out).mono ?_
          rintro e w5 ⟨rfl, hb50⟩
          have hB5 := hid (hB4.out.trans (hb50.mono hB4.out.size))
          have ks5 := hid (ks4.out.below_all hb50)
          have hZ : Below w5.heap.size w5 (w5.alloc (.cells #[.int .i64 x.accd.bal.rd, .int .i64 x.accd.bal.nd] 35)) := (Below.refl _ _).alloc (Nat.le_refl _) _
          have ka6 := hid (Blk.new w5 35 #[.int .i64 x.accd.bal.rd, .int .i64 x.accd.bal.nd])
          have ks6 := hid (ks5.out.below_all hZ)
          have hB6 := hid (hB5.out.trans (hZ.mono hB5.out.size))
          clear hb50 hZ
          go_upto_region 18 with fail
          generalize w5.alloc (.cells #[.int .i64 x.accd.bal.rd, .int .i64 x.accd.bal.nd] 35) = w6 at *
          generalize w5.heap.size = ab at *
          generalize w2.heap.size = sb at *
          have hkeep : Hid (∀ w' : World, Below w6.heap.size w6 w' → w'.cell? ⟨sb, 2, none⟩ = some (.int .i64 x.prom.rd) ∧ w'.cell? ⟨sb, 3, none⟩ = some (.int .i64 x.prom.nd) ∧ w'.cell? ⟨sb, 4, none⟩ = some (.int .i64 x.accd.bal.rd) ∧ w'.cell? ⟨sb, 5, none⟩ = some (.int .i64 x.accd.bal.nd) ∧ w'.cell? ⟨sb, 6, none⟩ = some (.string x.accd.text) ∧ w'.cell? ⟨sb, 7, none⟩ = some (.bool x.is) ∧ w'.cell? ⟨sb, 8, none⟩ = some (.string x.text) ∧ w'.cell? ⟨ab, 0, none⟩ = some (.int .i64 x.accd.bal.rd) ∧ w'.cell? ⟨ab, 1, none⟩ = some (.int .i64 x.accd.bal.nd)) := hid fun w' h => ⟨(ks6.out.below_all h).cell 2, (ks6.out.below_all h).cell 3, (ks6.out.below_all h).cell 4, (ks6.out.below_all h).cell 5, (ks6.out.below_all h).cell 6, (ks6.out.below_all h).cell 7, (ks6.out.below_all h).cell 8, (ka6.out.below_all h).cell 0, (ka6.out.below_all h).cell 1⟩
          have hbX : Hid (Below w6.heap.size w6 w6.drew) := hid (Below.refl _ _).drew
          have hneq : ∀ (a b : Int) W', (binOp .neq 35 (.agg #[.int .i64 a, .int .i64 b]) (.agg #[.int .i64 a, .int .i64 b])).run Try.prog W' = .ok (.bool false) W' := fun a b W' => by rw [run_neq_struct, run_eqBal ⟨a, b⟩ ⟨a, b⟩]; simp [Result.andThen]
          go_region_held3 (fun w' => w'.cell? ⟨sb, 2, none⟩ = some (.int .i64 x.prom.rd) ∧ w'.cell? ⟨sb, 3, none⟩ = some (.int .i64 x.prom.nd) ∧ w'.cell? ⟨sb, 4, none⟩ = some (.int .i64 x.accd.bal.rd) ∧ w'.cell? ⟨sb, 5, none⟩ = some (.int .i64 x.accd.bal.nd) ∧ w'.cell? ⟨sb, 6, none⟩ = some (.string x.accd.text) ∧ w'.cell? ⟨sb, 7, none⟩ = some (.bool x.is) ∧ w'.cell? ⟨sb, 8, none⟩ = some (.string x.text) ∧ w'.cell? ⟨ab, 0, none⟩ = some (.int .i64 x.accd.bal.rd) ∧ w'.cell? ⟨ab, 1, none⟩ = some (.int .i64 x.accd.bal.nd)) (first | exact hkeep.out _ hbX.out | exact hkeep.out _ (Below.refl _ _) | exact hkeep.out _ (Below.refl _ _).drew)
            ((go_at_call 16; refine (cPrx.out _ (hB6.out.trans (hbX.out.mono hB6.out.size))).mono ?_; rintro e wb ⟨rfl, hbb⟩; have hbX := hid (hbX.out.trans (hbb.mono hbX.out.size)); clear hbb))
          have hB7 := hid (hB6.out.trans (hbX.out.mono hB6.out.size))
          clear hneq
          obtain ⟨An, cn, Am, cm, a, q⟩ := P.out.t.below hB7.out
          have d0 := q.cells.1
          by_cases hin : 0 ≤ n ∧ n < (G.nds.length : Int)
          · obtain ⟨i, rfl⟩ := Int.eq_ofNat_of_zero_le hin.1
            have hi : i < G.nds.length := by omega
            obtain ⟨n1, _⟩ := q.nd i hi
            have xu : wb.cell? ⟨a.nb i, 0, none⟩ = some (.bool (G.nd i).up) := n1.cell 0
            obtain ⟨pb, po, rfl, hpl, p0⟩ := q.ptr hi
            have hup : Hid (G.isUp (i : Int) = (G.nd i).up) := hid (isUp_at rfl hi)
            have i1 : (i : Int) < (G.nds.length : Int) := by omega
            have i0 : (0 : Int) ≤ (i : Int) := by omega
            clear q n1 hin hpl hlt
            generalize (G.nd i).up = u at *
            have hup7 := hid (cUp.out (i : Int) wb hB7.out)
            go_upto_region 21 with fail
            go_wp2_with fail
            refine hup7.out.mono ?_
            rintro e w8 ⟨rfl, rfl⟩
            rw [hup.out]
            go_wp2_with fail
            refine (cLog.out (i : Int) _ hB7.out).mono ?_
            rintro e w9 ⟨v1, rfl, hcl1⟩
            obtain ⟨A1, c1, rfl, _⟩ := own_form hcl1.1
            have hB9 := hid (hB7.out.trans (hcl1.2.mono hB7.out.size))
            have hown1 := hid hcl1.1
            clear hcl1
            go_wp2_with fail
            refine (cRl.out (i : Int) _ hB9.out).mono ?_
            rintro e w10 ⟨v2, rfl, hcl2⟩
            obtain ⟨A2, c2, rfl, _⟩ := own_form hcl2.1
            have hB10 := hid (hB9.out.trans (hcl2.2.mono hB9.out.size))
            have hown2 := hid hcl2.1
            have hrd1 := hid ((Rd.of_own' hown1.out).keep fun b _ hl => hcl2.2.block b hl)
            have hll : (G.log (i : Int)).length ≤ 1000 := by obtain ⟨p, h1, h2, _⟩ := log_len G (i : Int); omega
            have htx := hid (texts_same _ _ A1 A2 c1 c2 (G.log (i : Int)) w10 hrd1.out (Rd.of_own' hown2.out) hll)
            clear hcl2 hll
            go_wp2_with fail
            refine htx.out.mono ?_
            rintro e w11 ⟨rfl, hb11⟩
            have hB11 := hid (hB10.out.trans (hb11.mono hB10.out.size))
            clear hb11
            go_wp2_with fail
            go_roundw
            case rel => exact ⟨(i : Int) + 1, by go_num, by omega, by omega, hB11.out⟩
            case measure => simp [intOf]; omega
          · have hup : Hid (G.isUp n = false) := hid (by unfold Gr.isUp; rw [decide_eq_false hin]; rfl)
            clear q
            by_cases h0 : 0 ≤ n
            · have i0 : decide (0 ≤ n) = true := decide_eq_true h0
              have i1 : decide (n < (G.nds.length : Int)) = false := decide_eq_false (by omega)
              have i2 : ¬ (n < (G.nds.length : Int)) := by omega
              have hup7 := hid (cUp.out n wb hB7.out)
              go_upto_region 21 with fail
              go_wp2_with fail
              refine hup7.out.mono ?_
              rintro e w8 ⟨rfl, rfl⟩
              rw [hup.out]
              go_wp2_with fail
              refine (cLog.out n _ hB7.out).mono ?_
              rintro e w9 ⟨v1, rfl, hcl1⟩
              obtain ⟨A1, c1, rfl, _⟩ := own_form hcl1.1
              have hB9 := hid (hB7.out.trans (hcl1.2.mono hB7.out.size))
              have hown1 := hid hcl1.1
              clear hcl1
              go_wp2_with fail
              refine (cRl.out n _ hB9.out).mono ?_
              rintro e w10 ⟨v2, rfl, hcl2⟩
              obtain ⟨A2, c2, rfl, _⟩ := own_form hcl2.1
              have hB10 := hid (hB9.out.trans (hcl2.2.mono hB9.out.size))
              have hown2 := hid hcl2.1
              have hrd1 := hid ((Rd.of_own' hown1.out).keep fun b _ hl => hcl2.2.block b hl)
              have hll : (G.log n).length ≤ 1000 := by obtain ⟨p, h1, h2, _⟩ := log_len G n; omega
              have htx := hid (texts_same _ _ A1 A2 c1 c2 (G.log n) w10 hrd1.out (Rd.of_own' hown2.out) hll)
              clear hcl2 hll
              go_wp2_with fail
              refine htx.out.mono ?_
              rintro e w11 ⟨rfl, hb11⟩
              have hB11 := hid (hB10.out.trans (hb11.mono hB10.out.size))
              clear hb11
              go_wp2_with fail
              go_roundw
              case rel => exact ⟨n + 1, by go_num, by omega, by omega, hB11.out⟩
              case measure => simp [intOf]; omega
            · have i0 : decide (0 ≤ n) = false := decide_eq_false h0
              have hup7 := hid (cUp.out n wb hB7.out)
              go_upto_region 21 with fail
              go_wp2_with fail
              refine hup7.out.mono ?_
              rintro e w8 ⟨rfl, rfl⟩
              rw [hup.out]
              go_wp2_with fail
              refine (cLog.out n _ hB7.out).mono ?_
              rintro e w9 ⟨v1, rfl, hcl1⟩
              obtain ⟨A1, c1, rfl, _⟩ := own_form hcl1.1
              have hB9 := hid (hB7.out.trans (hcl1.2.mono hB7.out.size))
              have hown1 := hid hcl1.1
              clear hcl1
              go_wp2_with fail
              refine (cRl.out n _ hB9.out).mono ?_
              rintro e w10 ⟨v2, rfl, hcl2⟩
              obtain ⟨A2, c2, rfl, _⟩ := own_form hcl2.1
              have hB10 := hid (hB9.out.trans (hcl2.2.mono hB9.out.size))
              have hown2 := hid hcl2.1
              have hrd1 := hid ((Rd.of_own' hown1.out).keep fun b _ hl => hcl2.2.block b hl)
              have hll : (G.log n).length ≤ 1000 := by obtain ⟨p, h1, h2, _⟩ := log_len G n; omega
              have htx := hid (texts_same _ _ A1 A2 c1 c2 (G.log n) w10 hrd1.out (Rd.of_own' hown2.out) hll)
              clear hcl2 hll
              go_wp2_with fail
              refine htx.out.mono ?_
              rintro e w11 ⟨rfl, hb11⟩
              have hB11 := hid (hB10.out.trans (hb11.mono hB10.out.size))
              clear hb11
              go_wp2_with fail
              go_roundw
              case rel => exact ⟨n + 1, by go_num, by omega, by omega, hB11.out⟩
              case measure => simp [intOf]; omega
        · have t1 : decide (n ≤ (G.nds.length : Int)) = false := decide_eq_false hlt
          go_wp2_with fail
          go_ret
          exact ⟨rfl, hB.out⟩
end

end Go.Proofs.Ytbgopicpdpkccaa

