/- Two requests: are they one? The program's Equal, and the document's. -/
import Derived.Test.YtppcjaljhahdnaaQPlans
namespace Go.Proofs.Ytppcjaljhahdnaa
open Go.RowKit
set_option linter.unusedVariables false
set_option linter.unusedSimpArgs false

def reqEq (a b : Pl) : Bool := decide (a.cl = b.cl ∧ a.tok = b.tok ∧ a.nm = b.nm ∧ a.args = b.args)
theorem reqEq_no {a b : Pl} (h : a.cl ≠ b.cl ∨ a.tok ≠ b.tok ∨ a.nm ≠ b.nm ∨ a.args ≠ b.args) : reqEq a b = false := by
  unfold reqEq
  rw [decide_eq_false_iff_not]
  rintro ⟨h1, h2, h3, h4⟩
  rcases h with h | h | h | h <;> contradiction
theorem reqEq_args {a b : Pl} (h1 : a.cl = b.cl) (h2 : a.tok = b.tok) (h3 : a.nm = b.nm) : reqEq a b = eqL a.args b.args := by
  unfold reqEq eqL
  simp [h1, h2, h3]

set_option maxHeartbeats 400000 in
theorem eqV_any (S S' : Nat → Prop) (A B : Option Addr) (l m : List Val) (c d : Nat) (w : World) (ha : Rd S w 3 A l.length (vcells l)) (hb : Rd S' w 3 B m.length (vcells m))
    (hl : l.length ≤ maxLen) (hm : m.length ≤ maxLen) :
    Calls Try.prog 58 #[.slice A l.length c, .slice B m.length d] w fun e w' => e = .returned (.bool (eqL l m)) ∧ ∃ k, w' = w.drewN k := by
  unfold maxLen at hl hm
  go_enter Try.func58, Try.ntmps58
  go_wp2
  · have h : ((l.length : Int) != (m.length : Int)) = true := by assumption
    go_ret
    exact ⟨by rw [eqL_len (by intro e; rw [e] at h; simp at h)]; rfl, 0, rfl⟩
  · have h : ((l.length : Int) != (m.length : Int)) = false := by assumption
    have hlen : Hid (l.length = m.length) := by
      have : (l.length : Int) = m.length := by simpa using h
      exact hid (by omega)
    have hle : l.length ≤ m.length := by have := hlen.out; omega
    go_loopw [13] (fun i wr => ∃ k q : Nat, k ≤ l.length ∧ i = .int .i64 k ∧ wr = w.drewN q ∧ ∀ j (h1 : j < l.length) (h2 : j < m.length), j < k → l[j] = m[j]) (fun i _ => l.length - (intOf i).toNat)
    case atStart => exact ⟨0, 0, by omega, rfl, rfl, fun j _ _ hj => absurd hj (by omega)⟩
    case round =>
      obtain ⟨k, q, hk, rfl, rfl, hall0⟩ := hrel
      have hall := hid hall0
      clear hall0
      by_cases hlt : k < l.length
      · have hlt2 : k < m.length := by omega
        obtain ⟨b1, o1, rfl, _, hb1, hc1⟩ := ha.at_ hlt
        obtain ⟨b2, o2, rfl, _, hb2, hc2⟩ := hb.at_ hlt2
        obtain ⟨x0, x1, x2⟩ := vcells_at l k hlt
        obtain ⟨y0, y1, y2⟩ := vcells_at m k hlt2
        have e10 := hc1 _ _ x0
        have e11 := hc1 _ _ x1
        have e12 := hc1 _ _ x2
        have e20 := hc2 _ _ y0
        have e21 := hc2 _ _ y1
        have e22 := hc2 _ _ y2
        simp only [← Nat.add_assoc] at e11 e12 e21 e22
        clear x0 x1 x2 y0 y1 y2
        have i1 : (k : Int) < (l.length : Int) := by omega
        have i2 : (k : Int) < (m.length : Int) := by omega
        clear hc1 hc2 ha hb
        have hneq := fun w => run_neqV l[k] m[k] w
        have hgd := guardV
        go_wp2_with fail
        go_quiet (fail)
        go_wp2
        · have hne : l[k] ≠ m[k] := eqV_no (by assumption)
          go_ret
          exact ⟨by rw [eqL_at hlt hlt2 hne]; rfl, _, World.drewN_drewN _ _ _⟩
        · have he : l[k] = m[k] := eqV_yes (by assumption)
          go_roundw
          case rel => exact ⟨k + 1, _, by omega, by go_num, rfl, all_step hall.out hlt hlt2 he⟩
          case measure => simp [intOf]; omega
      · obtain rfl : k = l.length := by omega
        go_wp2
        go_ret
        exact ⟨by rw [eqL_all hlen.out hall.out]; rfl, q, rfl⟩

set_option maxRecDepth 100000 in
set_option maxHeartbeats 1000000 in
theorem oequal_any (S S' : Nat → Prop) (r s : RP) (w : World) (ha : r.ok S w) (hb : s.ok S' w) (hf : r.p.fits) (hf2 : s.p.fits) :
    Calls Try.prog 50 #[.agg #[.int .i64 r.p.cl, .int .u64 r.p.tok, .string r.p.nm, .slice r.A1 r.p.args.length r.c1], .agg #[.int .i64 s.p.cl, .int .u64 s.p.tok, .string s.p.nm, .slice s.A1 s.p.args.length s.c1]] w fun e w' => e = .returned (.bool (reqEq r.p s.p)) ∧ Below w.heap.size w w' := by
  obtain ⟨p, A1, c1, A2, c2, A3, c3⟩ := r
  obtain ⟨q, B1, d1, B2, d2, B3, d3⟩ := s
  have ha1 := ha.args
  have hb1 := hb.args
  have hl := hf.args
  have hl2 := hf2.args
  simp only at ha1 hb1 hl hl2
  clear ha hb hf hf2
  have hB := below_two (w := w) (.cells #[.int .i64 p.cl, .int .u64 p.tok, .string p.nm, .slice A1 p.args.length c1] 35) (.cells #[.int .i64 q.cl, .int .u64 q.tok, .string q.nm, .slice B1 q.args.length d1] 35)
  have k1 : Blk ((w.alloc (.cells #[.int .i64 p.cl, .int .u64 p.tok, .string p.nm, .slice A1 p.args.length c1] 35)).alloc (.cells #[.int .i64 q.cl, .int .u64 q.tok, .string q.nm, .slice B1 q.args.length d1] 35)) w.heap.size 35 #[.int .i64 p.cl, .int .u64 p.tok, .string p.nm, .slice A1 p.args.length c1] := (Blk.new _ _ _).alloc _
  have k2 : Blk ((w.alloc (.cells #[.int .i64 p.cl, .int .u64 p.tok, .string p.nm, .slice A1 p.args.length c1] 35)).alloc (.cells #[.int .i64 q.cl, .int .u64 q.tok, .string q.nm, .slice B1 q.args.length d1] 35)) (w.heap.size + 1) 35 #[.int .i64 q.cl, .int .u64 q.tok, .string q.nm, .slice B1 q.args.length d1] := Blk.new' _ _ _ (by simp)
  go_enter Try.func50, Try.ntmps50
  go_upto_region 1 with fail
  generalize (w.alloc (.cells #[.int .i64 p.cl, .int .u64 p.tok, .string p.nm, .slice A1 p.args.length c1] 35)).alloc (.cells #[.int .i64 q.cl, .int .u64 q.tok, .string q.nm, .slice B1 q.args.length d1] 35) = W at *
  have ra := ha1.keep (w' := W) fun b _ hl => hB.block b hl
  have rb := hb1.keep (w' := W) fun b _ hl => hB.block b hl
  have x0 : W.cell? ⟨w.heap.size, 0, none⟩ = some (.int .i64 p.cl) := k1.cell 0
  have y0 : W.cell? ⟨w.heap.size + 1, 0, none⟩ = some (.int .i64 q.cl) := k2.cell 0
  have x1 : W.cell? ⟨w.heap.size, 1, none⟩ = some (.int .u64 p.tok) := k1.cell 1
  have y1 : W.cell? ⟨w.heap.size + 1, 1, none⟩ = some (.int .u64 q.tok) := k2.cell 1
  have x2 : W.cell? ⟨w.heap.size, 2, none⟩ = some (.string p.nm) := k1.cell 2
  have y2 : W.cell? ⟨w.heap.size + 1, 2, none⟩ = some (.string q.nm) := k2.cell 2
  have x3 : W.cell? ⟨w.heap.size, 3, none⟩ = some (.slice A1 p.args.length c1) := k1.cell 3
  have y3 : W.cell? ⟨w.heap.size + 1, 3, none⟩ = some (.slice B1 q.args.length d1) := k2.cell 3
  by_cases e1 : p.cl = q.cl
  rotate_left
  · have tt1 : (p.cl == q.cl) = false := by simpa using e1
    have hno := hid (reqEq_no (a := p) (b := q) (.inl e1))
    clear e1
    go_wp2_with fail
    go_ret
    exact ⟨by rw [hno.out]; rfl, hB⟩
  have tt1 : (p.cl == q.cl) = true := by simp [e1]
  have g1 := hid e1
  clear e1
  by_cases e2 : p.tok = q.tok
  rotate_left
  · have tt2 : (p.tok == q.tok) = false := by simpa using e2
    have hno := hid (reqEq_no (a := p) (b := q) (.inr (.inl e2)))
    clear e2
    go_wp2_with fail
    go_ret
    exact ⟨by rw [hno.out]; rfl, hB⟩
  have tt2 : (p.tok == q.tok) = true := by simp [e2]
  have g2 := hid e2
  clear e2
  by_cases e3 : p.nm = q.nm
  rotate_left
  · have tt3 : (p.nm.toList == q.nm.toList) = false := beq_eq_false_iff_ne.2 fun h => e3 (ba_inj h)
    have hno := hid (reqEq_no (a := p) (b := q) (.inr (.inr (.inl e3))))
    clear e3
    go_wp2_with fail
    go_ret
    exact ⟨by rw [hno.out]; rfl, hB⟩
  have tt3 : (p.nm.toList == q.nm.toList) = true := by simp [e3]
  have g3 := hid e3
  clear e3
  go_wp2_with (go_loud (go_at_call 58; refine (eqV_any _ _ A1 B1 p.args q.args c1 d1 _ ra rb (by simp only [maxLen]; omega) (by simp only [maxLen]; omega)).mono ?_; rintro e w' ⟨rfl, k, rfl⟩))
  go_ret
  exact ⟨by rw [reqEq_args g1.out g2.out g3.out]; rfl, below_drewN hB _⟩

set_option maxRecDepth 100000 in
set_option maxHeartbeats 1000000 in
theorem requalG_any (S S' : Nat → Prop) (r s : RP) (w : World) (ha : r.ok S w) (hb : s.ok S' w) (hf : r.p.fits) (hf2 : s.p.fits) :
    Calls Try.prog 34 #[.agg #[.int .i64 r.p.cl, .int .u64 r.p.tok, .string r.p.nm, .slice r.A1 r.p.args.length r.c1], .agg #[.int .i64 s.p.cl, .int .u64 s.p.tok, .string s.p.nm, .slice s.A1 s.p.args.length s.c1]] w fun e w' => e = .returned (.bool (reqEq r.p s.p)) ∧ Below w.heap.size w w' := by
  obtain ⟨p, A1, c1, A2, c2, A3, c3⟩ := r
  obtain ⟨q, B1, d1, B2, d2, B3, d3⟩ := s
  have ha1 := ha.args
  have hb1 := hb.args
  have hl := hf.args
  have hl2 := hf2.args
  simp only at ha1 hb1 hl hl2
  clear ha hb hf hf2
  have hB := below_two (w := w) (.cells #[.int .i64 p.cl, .int .u64 p.tok, .string p.nm, .slice A1 p.args.length c1] 35) (.cells #[.int .i64 q.cl, .int .u64 q.tok, .string q.nm, .slice B1 q.args.length d1] 35)
  have k1 : Blk ((w.alloc (.cells #[.int .i64 p.cl, .int .u64 p.tok, .string p.nm, .slice A1 p.args.length c1] 35)).alloc (.cells #[.int .i64 q.cl, .int .u64 q.tok, .string q.nm, .slice B1 q.args.length d1] 35)) w.heap.size 35 #[.int .i64 p.cl, .int .u64 p.tok, .string p.nm, .slice A1 p.args.length c1] := (Blk.new _ _ _).alloc _
  have k2 : Blk ((w.alloc (.cells #[.int .i64 p.cl, .int .u64 p.tok, .string p.nm, .slice A1 p.args.length c1] 35)).alloc (.cells #[.int .i64 q.cl, .int .u64 q.tok, .string q.nm, .slice B1 q.args.length d1] 35)) (w.heap.size + 1) 35 #[.int .i64 q.cl, .int .u64 q.tok, .string q.nm, .slice B1 q.args.length d1] := Blk.new' _ _ _ (by simp)
  go_enter Try.func34, Try.ntmps34
  go_upto_region 1 with fail
  generalize (w.alloc (.cells #[.int .i64 p.cl, .int .u64 p.tok, .string p.nm, .slice A1 p.args.length c1] 35)).alloc (.cells #[.int .i64 q.cl, .int .u64 q.tok, .string q.nm, .slice B1 q.args.length d1] 35) = W at *
  have ra := ha1.keep (w' := W) fun b _ hl => hB.block b hl
  have rb := hb1.keep (w' := W) fun b _ hl => hB.block b hl
  have x0 : W.cell? ⟨w.heap.size, 0, none⟩ = some (.int .i64 p.cl) := k1.cell 0
  have y0 : W.cell? ⟨w.heap.size + 1, 0, none⟩ = some (.int .i64 q.cl) := k2.cell 0
  have x1 : W.cell? ⟨w.heap.size, 1, none⟩ = some (.int .u64 p.tok) := k1.cell 1
  have y1 : W.cell? ⟨w.heap.size + 1, 1, none⟩ = some (.int .u64 q.tok) := k2.cell 1
  have x2 : W.cell? ⟨w.heap.size, 2, none⟩ = some (.string p.nm) := k1.cell 2
  have y2 : W.cell? ⟨w.heap.size + 1, 2, none⟩ = some (.string q.nm) := k2.cell 2
  have x3 : W.cell? ⟨w.heap.size, 3, none⟩ = some (.slice A1 p.args.length c1) := k1.cell 3
  have y3 : W.cell? ⟨w.heap.size + 1, 3, none⟩ = some (.slice B1 q.args.length d1) := k2.cell 3
  by_cases e1 : p.cl = q.cl
  rotate_left
  · have tt1 : (p.cl != q.cl) = true := by simpa using e1
    have hno := hid (reqEq_no (a := p) (b := q) (.inl e1))
    clear e1
    go_wp2_with fail
    go_ret
    exact ⟨by rw [hno.out]; rfl, hB⟩
  have tt1 : (p.cl != q.cl) = false := by simp [e1]
  have g1 := hid e1
  clear e1
  by_cases e2 : p.tok = q.tok
  rotate_left
  · have tt2 : (p.tok != q.tok) = true := by simpa using e2
    have hno := hid (reqEq_no (a := p) (b := q) (.inr (.inl e2)))
    clear e2
    go_wp2_with fail
    go_ret
    exact ⟨by rw [hno.out]; rfl, hB⟩
  have tt2 : (p.tok != q.tok) = false := by simp [e2]
  have g2 := hid e2
  clear e2
  by_cases e3 : p.nm = q.nm
  rotate_left
  · have tt3 : (!(p.nm.toList == q.nm.toList)) = true := by simpa using fun h => e3 (ba_inj h)
    have hno := hid (reqEq_no (a := p) (b := q) (.inr (.inr (.inl e3))))
    clear e3
    go_wp2_with fail
    go_ret
    exact ⟨by rw [hno.out]; rfl, hB⟩
  have tt3 : (!(p.nm.toList == q.nm.toList)) = false := by simp [e3]
  have g3 := hid e3
  clear e3
  by_cases e4 : p.args.length = q.args.length
  rotate_left
  · have tt4 : ((p.args.length : Int) != (q.args.length : Int)) = true := by simp only [bne_iff_ne, ne_eq]; omega
    have hno := hid (reqEq_no (a := p) (b := q) (.inr (.inr (.inr fun h => e4 (by rw [h])))))
    clear e4
    go_wp2_with fail
    go_ret
    exact ⟨by rw [hno.out]; rfl, hB⟩
  have tt4 : ((p.args.length : Int) != (q.args.length : Int)) = false := by rw [e4]; simp
  have hlen := hid e4
  have hle : p.args.length ≤ q.args.length := by omega
  clear e4
  have hgd := guardV
  go_wp2_with fail
  go_loopw [5] (fun i wr => ∃ k n : Nat, k ≤ p.args.length ∧ i = .int .i64 k ∧ wr = W.drewN n ∧ ∀ j (h1 : j < p.args.length) (h2 : j < q.args.length), j < k → p.args[j] = q.args[j]) (fun i _ => p.args.length - (intOf i).toNat)
  case atStart => exact ⟨0, 0, by omega, rfl, rfl, fun j _ _ hj => absurd hj (by omega)⟩
  case round =>
    obtain ⟨k, n, hk, rfl, rfl, hall0⟩ := hrel
    have hall := hid hall0
    clear hall0
    by_cases hlt : k < p.args.length
    · have hlt2 : k < q.args.length := by omega
      obtain ⟨b1, o1, rfl, _, hb1', hc1⟩ := ra.at_ hlt
      obtain ⟨b2, o2, rfl, _, hb2', hc2⟩ := rb.at_ hlt2
      obtain ⟨v1, v2, v3⟩ := vcells_at p.args k hlt
      obtain ⟨u1, u2, u3⟩ := vcells_at q.args k hlt2
      have e0 := hc1 _ _ v1
      have e1 := hc1 _ _ v2
      have e2 := hc1 _ _ v3
      have f0 := hc2 _ _ u1
      have f1 := hc2 _ _ u2
      have f2 := hc2 _ _ u3
      simp only [← Nat.add_assoc] at e1 e2 f1 f2
      have i1 : (k : Int) < (p.args.length : Int) := by omega
      have i2 : (k : Int) < (q.args.length : Int) := by omega
      have hnq := fun W' => run_neqV p.args[k] q.args[k] W'
      clear hc1 hc2 ra rb v1 v2 v3 u1 u2 u3
      by_cases he : p.args[k] = q.args[k]
      · have hv : (!eqV p.args[k] q.args[k]) = false := by unfold eqV; simp [he]
        rw [hv] at hnq
        have he := hid he
        clear hv
        go_wp2_with fail
        go_quiet (fail)
        go_wp2_with fail
        go_roundw
        case rel => exact ⟨k + 1, _, by omega, by go_num, rfl, all_step hall.out hlt hlt2 he.out⟩
        case measure => simp [intOf]; omega
      · have hv : (!eqV p.args[k] q.args[k]) = true := by unfold eqV; simp [he]
        rw [hv] at hnq
        have hno := hid (reqEq_no (a := p) (b := q) (.inr (.inr (.inr fun h => he (by simp [h])))))
        clear hv he
        go_wp2_with fail
        go_quiet (fail)
        go_wp2_with fail
        go_ret
        exact ⟨by rw [hno.out]; rfl, below_drewN (below_drewN hB _) _⟩
    · obtain rfl : k = p.args.length := by omega
      go_wp2_with fail
      go_ret
      exact ⟨by rw [reqEq_args g1.out g2.out g3.out, eqL_all hlen.out hall.out]; rfl, below_drewN hB _⟩

end Go.Proofs.Ytppcjaljhahdnaa
