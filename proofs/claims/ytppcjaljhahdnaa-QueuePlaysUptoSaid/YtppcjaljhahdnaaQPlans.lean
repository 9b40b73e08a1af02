/- The document's Plans: two plans that are one. -/
import Derived.Test.YtppcjaljhahdnaaQCancel
namespace Go.Proofs.Ytppcjaljhahdnaa
open Go.RowKit
set_option linter.unusedVariables false
set_option linter.unusedSimpArgs false

def eqV (a b : Val) : Bool := decide (a = b)
theorem eqV_no {a b : Val} (h : (!eqV a b) = true) : a ≠ b := by unfold eqV at h; simpa using h
theorem eqV_yes {a b : Val} (h : (!eqV a b) = false) : a = b := by unfold eqV at h; simpa using h
theorem eqV_mk (a b : Val) : eqV a b = (a.kind == b.kind && a.int == b.int && a.text.toList == b.text.toList) := by
  unfold eqV
  rw [Bool.eq_iff_iff]
  simp only [decide_eq_true_eq, Bool.and_eq_true, beq_iff_eq]
  exact ⟨fun e => by subst e; simp, fun ⟨⟨h1, h2⟩, h3⟩ => val_eq h1 h2 (ba_inj h3)⟩

theorem run_eqVal (a b : Val) (w : World) :
    (Op.equalIn 10000 86 (.agg #[.int .i64 a.kind, .int .i64 a.int, .string a.text]) (.agg #[.int .i64 b.kind, .int .i64 b.int, .string b.text])).run Try.prog w = .ok (eqV a b) w := by
  have ht : Try.prog.underlying 86 = some (.struct (Try.prog.fieldsOf 86)) := by kernel_rfl
  have hp : Try.prog.stoodInHeld 86 = false := by kernel_rfl
  rw [run_equalIn_agg w 9999 _ _ _ ht hp, eqV_mk]
  clear ht hp
  simp only [Program.fieldsOf, Try.underlying86]
  go_simp
  by_cases h1 : a.kind = b.kind <;> by_cases h2 : a.int = b.int <;> by_cases h3 : a.text.toList = b.text.toList <;> simp [h1, h2, h3]
theorem run_neqV (a b : Val) (w : World) :
    (binOp .neq 86 (.agg #[.int .i64 a.kind, .int .i64 a.int, .string a.text]) (.agg #[.int .i64 b.kind, .int .i64 b.int, .string b.text])).run Try.prog w = .ok (.bool (!eqV a b)) w := by
  rw [run_neq_struct, run_eqVal]; rfl
theorem guardV : Try.prog.eqGuardType Try.prog.depth 86 = false := by kernel_rfl

set_option maxHeartbeats 400000 in
theorem texts_same (S S' : Nat → Prop) (A B : Option Addr) (l : List ByteArray) (c d : Nat) (w : World) (ha : Rd S w 1 A l.length (l.map .string)) (hb : Rd S' w 1 B l.length (l.map .string)) (hl : l.length ≤ 1000000000) :
    Calls Try.prog 56 #[.slice A l.length c, .slice B l.length d] w fun e w' => e = .returned (.bool true) ∧ ∃ k, w' = w.drewN k := by
  go_enter Try.func56, Try.ntmps56
  go_wp2_with fail
  go_loopw [5] (fun i wr => ∃ k q : Nat, k ≤ l.length ∧ i = .int .i64 k ∧ wr = w.drewN q) (fun i _ => l.length - (intOf i).toNat)
  case atStart => exact ⟨0, 0, by omega, rfl, rfl⟩
  case round =>
    obtain ⟨k, q, hk, rfl, rfl⟩ := hrel
    by_cases hlt : k < l.length
    · obtain ⟨b1, o1, rfl, _, hb1, hc1⟩ := ha.at_ hlt
      obtain ⟨b2, o2, rfl, _, hb2, hc2⟩ := hb.at_ hlt
      have e1 := hc1 k (.string l[k]) (by simp [hlt])
      have e2 := hc2 k (.string l[k]) (by simp [hlt])
      have i1 : (k : Int) < (l.length : Int) := by omega
      clear hc1 hc2 ha hb
      go_wp2_with fail
      go_quiet (fail)
      go_wp2_with fail
      go_roundw
      case rel => exact ⟨k + 1, _, by omega, by go_num, rfl⟩
      case measure => simp [intOf]; omega
    · obtain rfl : k = l.length := by omega
      go_wp2_with fail
      go_ret
      exact ⟨rfl, q, rfl⟩

set_option maxRecDepth 100000 in
set_option maxHeartbeats 1000000 in
theorem requal_any (S S' : Nat → Prop) (r s : RP) (w : World) (hp : r.p = s.p) (ha : r.ok S w) (hb : s.ok S' w) (hf : r.p.fits) :
    Calls Try.prog 34 #[.agg #[.int .i64 r.p.cl, .int .u64 r.p.tok, .string r.p.nm, .slice r.A1 r.p.args.length r.c1], .agg #[.int .i64 s.p.cl, .int .u64 s.p.tok, .string s.p.nm, .slice s.A1 s.p.args.length s.c1]] w fun e w' => e = .returned (.bool true) ∧ Below w.heap.size w w' := by
  obtain ⟨p, A1, c1, A2, c2, A3, c3⟩ := r
  obtain ⟨p', B1, d1, B2, d2, B3, d3⟩ := s
  simp only at hp
  subst hp
  have ha1 := ha.args
  have hb1 := hb.args
  have hl := hf.args
  simp only at ha1 hb1 hl
  clear ha hb hf
  have hB := below_two (w := w) (.cells #[.int .i64 p.cl, .int .u64 p.tok, .string p.nm, .slice A1 p.args.length c1] 35) (.cells #[.int .i64 p.cl, .int .u64 p.tok, .string p.nm, .slice B1 p.args.length d1] 35)
  have k1 : Blk ((w.alloc (.cells #[.int .i64 p.cl, .int .u64 p.tok, .string p.nm, .slice A1 p.args.length c1] 35)).alloc (.cells #[.int .i64 p.cl, .int .u64 p.tok, .string p.nm, .slice B1 p.args.length d1] 35)) w.heap.size 35 #[.int .i64 p.cl, .int .u64 p.tok, .string p.nm, .slice A1 p.args.length c1] := (Blk.new _ _ _).alloc _
  have k2 : Blk ((w.alloc (.cells #[.int .i64 p.cl, .int .u64 p.tok, .string p.nm, .slice A1 p.args.length c1] 35)).alloc (.cells #[.int .i64 p.cl, .int .u64 p.tok, .string p.nm, .slice B1 p.args.length d1] 35)) (w.heap.size + 1) 35 #[.int .i64 p.cl, .int .u64 p.tok, .string p.nm, .slice B1 p.args.length d1] := Blk.new' _ _ _ (by simp)
  go_enter Try.func34, Try.ntmps34
  go_wp2_with fail
  generalize (w.alloc (.cells #[.int .i64 p.cl, .int .u64 p.tok, .string p.nm, .slice A1 p.args.length c1] 35)).alloc (.cells #[.int .i64 p.cl, .int .u64 p.tok, .string p.nm, .slice B1 p.args.length d1] 35) = W at *
  have ra := ha1.keep (w' := W) fun b _ hl => hB.block b hl
  have rb := hb1.keep (w' := W) fun b _ hl => hB.block b hl
  have hgd := guardV
  go_loopw [5] (fun i wr => ∃ k q : Nat, k ≤ p.args.length ∧ i = .int .i64 k ∧ wr = W.drewN q) (fun i _ => p.args.length - (intOf i).toNat)
  case atStart => exact ⟨0, 0, by omega, rfl, rfl⟩
  case round =>
    obtain ⟨k, q, hk, rfl, rfl⟩ := hrel
    have x3 : W.cell? ⟨w.heap.size, 3, none⟩ = some (.slice A1 p.args.length c1) := k1.cell 3
    have y3 : W.cell? ⟨w.heap.size + 1, 3, none⟩ = some (.slice B1 p.args.length d1) := k2.cell 3
    by_cases hlt : k < p.args.length
    · obtain ⟨b1, o1, rfl, _, hb1', hc1⟩ := ra.at_ hlt
      obtain ⟨b2, o2, rfl, _, hb2', hc2⟩ := rb.at_ hlt
      obtain ⟨v1, v2, v3⟩ := vcells_at p.args k hlt
      have e0 := hc1 _ _ v1
      have e1 := hc1 _ _ v2
      have e2 := hc1 _ _ v3
      have f0 := hc2 _ _ v1
      have f1 := hc2 _ _ v2
      have f2 := hc2 _ _ v3
      simp only [← Nat.add_assoc] at e1 e2 f1 f2
      have i1 : (k : Int) < (p.args.length : Int) := by omega
      have hnq := fun W' => run_neqV p.args[k] p.args[k] W'
      have hself : (!eqV p.args[k] p.args[k]) = false := by unfold eqV; simp
      rw [hself] at hnq
      clear hc1 hc2 ra rb v1 v2 v3 hself
      go_wp2_with fail
      go_quiet (fail)
      go_wp2_with fail
      go_roundw
      case rel => exact ⟨k + 1, _, by omega, by go_num, rfl⟩
      case measure => simp [intOf]; omega
    · obtain rfl : k = p.args.length := by omega
      go_wp2_with fail
      go_ret
      exact ⟨rfl, below_drewN hB _⟩

set_option maxHeartbeats 1000000 in
theorem rsame_any (S S' : Nat → Prop) (r s : RP) (w : World) (hp : r.p = s.p) (ha : r.ok S w) (hb : s.ok S' w) (hf : r.p.fits) :
    Calls Try.prog 35 #[.agg #[.slice r.A2 r.p.rd.length r.c2, .slice r.A3 r.p.wr.length r.c3], .agg #[.slice s.A2 s.p.rd.length s.c2, .slice s.A3 s.p.wr.length s.c3]] w fun e w' => e = .returned (.bool true) ∧ Below w.heap.size w w' := by
  obtain ⟨p, A1, c1, A2, c2, A3, c3⟩ := r
  obtain ⟨p', B1, d1, B2, d2, B3, d3⟩ := s
  simp only at hp
  subst hp
  have ha2 := ha.rd
  have ha3 := ha.wr
  have hb2 := hb.rd
  have hb3 := hb.wr
  have hl2 := hf.rd
  have hl3 := hf.wr
  simp only at ha2 ha3 hb2 hb3 hl2 hl3
  clear ha hb hf
  have hB := below_two (w := w) (.cells #[.slice A2 p.rd.length c2, .slice A3 p.wr.length c3] 38) (.cells #[.slice B2 p.rd.length d2, .slice B3 p.wr.length d3] 38)
  have k1 : Blk ((w.alloc (.cells #[.slice A2 p.rd.length c2, .slice A3 p.wr.length c3] 38)).alloc (.cells #[.slice B2 p.rd.length d2, .slice B3 p.wr.length d3] 38)) w.heap.size 38 #[.slice A2 p.rd.length c2, .slice A3 p.wr.length c3] := (Blk.new _ _ _).alloc _
  have k2 : Blk ((w.alloc (.cells #[.slice A2 p.rd.length c2, .slice A3 p.wr.length c3] 38)).alloc (.cells #[.slice B2 p.rd.length d2, .slice B3 p.wr.length d3] 38)) (w.heap.size + 1) 38 #[.slice B2 p.rd.length d2, .slice B3 p.wr.length d3] := Blk.new' _ _ _ (by simp)
  go_enter Try.func35, Try.ntmps35
  go_wp2_with fail
  generalize (w.alloc (.cells #[.slice A2 p.rd.length c2, .slice A3 p.wr.length c3] 38)).alloc (.cells #[.slice B2 p.rd.length d2, .slice B3 p.wr.length d3] 38) = W at *
  have ra2 := ha2.keep (w' := W) fun b _ hl => hB.block b hl
  have ra3 := ha3.keep (w' := W) fun b _ hl => hB.block b hl
  have rb2 := hb2.keep (w' := W) fun b _ hl => hB.block b hl
  have rb3 := hb3.keep (w' := W) fun b _ hl => hB.block b hl
  refine (texts_same _ _ _ _ p.rd _ _ W ra2 rb2 hl2).mono ?_
  rintro e w1 ⟨rfl, q, rfl⟩
  have x1 : W.cell? ⟨w.heap.size, 1, none⟩ = some (.slice A3 p.wr.length c3) := k1.cell 1
  have y1 : W.cell? ⟨w.heap.size + 1, 1, none⟩ = some (.slice B3 p.wr.length d3) := k2.cell 1
  go_wp2_with fail
  refine (texts_same _ _ _ _ p.wr _ _ _ (ra3.drewN q) (rb3.drewN q) hl3).mono ?_
  rintro e w2 ⟨rfl, q2, rfl⟩
  go_wp2_with fail
  go_ret
  exact ⟨rfl, below_drewN hB _⟩

set_option maxRecDepth 100000 in
set_option maxHeartbeats 1000000 in
theorem plans_any (S S' : Nat → Prop) (r s : RP) (w : World) (hp : r.p = s.p) (ha : r.ok S w) (hb : s.ok S' w) (hf : r.p.fits) :
    Calls Try.prog 19 #[.agg #[.int .i64 r.p.cl, .int .u64 r.p.tok, .string r.p.nm, .slice r.A1 r.p.args.length r.c1, .int .i64 r.p.how, .slice r.A2 r.p.rd.length r.c2, .slice r.A3 r.p.wr.length r.c3], .agg #[.int .i64 s.p.cl, .int .u64 s.p.tok, .string s.p.nm, .slice s.A1 s.p.args.length s.c1, .int .i64 s.p.how, .slice s.A2 s.p.rd.length s.c2, .slice s.A3 s.p.wr.length s.c3]] w fun e w' => e = .returned (.bool true) ∧ Below w.heap.size w w' := by
  obtain ⟨p, A1, c1, A2, c2, A3, c3⟩ := r
  obtain ⟨p', B1, d1, B2, d2, B3, d3⟩ := s
  simp only at hp
  subst hp
  have hf' : p.fits := hf
  have hB := below_two (w := w) (.cells #[.int .i64 p.cl, .int .u64 p.tok, .string p.nm, .slice A1 p.args.length c1, .int .i64 p.how, .slice A2 p.rd.length c2, .slice A3 p.wr.length c3] 40) (.cells #[.int .i64 p.cl, .int .u64 p.tok, .string p.nm, .slice B1 p.args.length d1, .int .i64 p.how, .slice B2 p.rd.length d2, .slice B3 p.wr.length d3] 40)
  have k1 : Blk ((w.alloc (.cells #[.int .i64 p.cl, .int .u64 p.tok, .string p.nm, .slice A1 p.args.length c1, .int .i64 p.how, .slice A2 p.rd.length c2, .slice A3 p.wr.length c3] 40)).alloc (.cells #[.int .i64 p.cl, .int .u64 p.tok, .string p.nm, .slice B1 p.args.length d1, .int .i64 p.how, .slice B2 p.rd.length d2, .slice B3 p.wr.length d3] 40)) w.heap.size 40 #[.int .i64 p.cl, .int .u64 p.tok, .string p.nm, .slice A1 p.args.length c1, .int .i64 p.how, .slice A2 p.rd.length c2, .slice A3 p.wr.length c3] := (Blk.new _ _ _).alloc _
  have k2 : Blk ((w.alloc (.cells #[.int .i64 p.cl, .int .u64 p.tok, .string p.nm, .slice A1 p.args.length c1, .int .i64 p.how, .slice A2 p.rd.length c2, .slice A3 p.wr.length c3] 40)).alloc (.cells #[.int .i64 p.cl, .int .u64 p.tok, .string p.nm, .slice B1 p.args.length d1, .int .i64 p.how, .slice B2 p.rd.length d2, .slice B3 p.wr.length d3] 40)) (w.heap.size + 1) 40 #[.int .i64 p.cl, .int .u64 p.tok, .string p.nm, .slice B1 p.args.length d1, .int .i64 p.how, .slice B2 p.rd.length d2, .slice B3 p.wr.length d3] := Blk.new' _ _ _ (by simp)
  go_enter Try.func19, Try.ntmps19
  go_wp2_with fail
  generalize (w.alloc (.cells #[.int .i64 p.cl, .int .u64 p.tok, .string p.nm, .slice A1 p.args.length c1, .int .i64 p.how, .slice A2 p.rd.length c2, .slice A3 p.wr.length c3] 40)).alloc (.cells #[.int .i64 p.cl, .int .u64 p.tok, .string p.nm, .slice B1 p.args.length d1, .int .i64 p.how, .slice B2 p.rd.length d2, .slice B3 p.wr.length d3] 40) = W at *
  have oa := ha.keep (w' := W) fun b _ hl => hB.block b hl
  have ob := hb.keep (w' := W) fun b _ hl => hB.block b hl
  refine (requal_any _ _ ⟨p, A1, c1, A2, c2, A3, c3⟩ ⟨p, B1, d1, B2, d2, B3, d3⟩ W rfl oa ob hf).mono ?_
  rintro e w1 ⟨rfl, hb1⟩
  have hB1 := hB.trans (hb1.mono (by have := k2.lt; omega))
  have k1' := k1.below_all hb1
  have k2' := k2.below_all hb1
  have x4 : w1.cell? ⟨w.heap.size, 4, none⟩ = some (.int .i64 p.how) := k1'.cell 4
  have x5 : w1.cell? ⟨w.heap.size, 5, none⟩ = some (.slice A2 p.rd.length c2) := k1'.cell 5
  have x6 : w1.cell? ⟨w.heap.size, 6, none⟩ = some (.slice A3 p.wr.length c3) := k1'.cell 6
  have y4 : w1.cell? ⟨w.heap.size + 1, 4, none⟩ = some (.int .i64 p.how) := k2'.cell 4
  have y5 : w1.cell? ⟨w.heap.size + 1, 5, none⟩ = some (.slice B2 p.rd.length d2) := k2'.cell 5
  have y6 : w1.cell? ⟨w.heap.size + 1, 6, none⟩ = some (.slice B3 p.wr.length d3) := k2'.cell 6
  have oa1 := oa.below hb1
  have ob1 := ob.below hb1
  clear k1 k2 k1' k2' oa ob hb1 hB
  go_wp2_with fail
  refine (rsame_any _ _ ⟨p, A1, c1, A2, c2, A3, c3⟩ ⟨p, B1, d1, B2, d2, B3, d3⟩ w1 rfl oa1 ob1 hf).mono ?_
  rintro e w2 ⟨rfl, hb2⟩
  go_wp2_with fail
  go_ret
  exact ⟨rfl, hB1.trans (hb2.mono hB1.size)⟩

end Go.Proofs.Ytppcjaljhahdnaa
