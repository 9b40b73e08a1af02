/- quorum: prepare, accept, learn. -/
import Derived.Test.YtbgopicpdpkccaaGCmp
namespace Go.Proofs.Ytbgopicpdpkccaa
open Go.RowKit
set_option linter.unusedVariables false
set_option linter.unusedSimpArgs false

def maxI (a b : Int) : Int := if a < b then b else a
def Gr.prepare (G : Gr) (i : Nat) (s : Int) (x : Sl) (m : Ml) : Gr :=
  if 0 ≤ cmpB m.bal x.prom then (G.setSl i s { x with rd := maxI x.rd m.bal.rd, prom := m.bal }).send ⟨2, m.dst, m.bal.nd, m.slot, m.bal, x.accd.bal, x.accd.text⟩
  else G.setSl i s { x with rd := maxI x.rd m.bal.rd }
def Gr.accept (G : Gr) (i : Nat) (s : Int) (x : Sl) (m : Ml) : Gr :=
  if 0 ≤ cmpB m.bal x.prom then (G.setSl i s { x with rd := maxI x.rd m.bal.rd, prom := m.bal, accd := ⟨m.bal, m.text⟩ }).send ⟨4, m.dst, m.bal.nd, m.slot, m.bal, bal0, ⟨#[]⟩⟩
  else G.setSl i s { x with rd := maxI x.rd m.bal.rd }
def Gr.learn (G : Gr) (i : Nat) (s : Int) (x : Sl) (m : Ml) : Gr := if x.is then G else G.setSl i s { x with is := true, text := m.text }
section
variable {S : Nat → Prop} {w w' : World} {g : Nat} {An Am : Option Addr} {cn cm : Nat} {G : Gr} {a : Ad}
theorem GIn.put {i : Nat} {s : Int} {x x' : Sl} (h : GIn S w g An cn Am cm G a) (hi : i < G.nds.length) (hx : getA s (G.nd i).sl = some x) (hb : x'.bid = x.bid) (hu : Upd (fun k => k = a.sb i s) w w') (hk : Blk w' (a.sb i s) 74 (x'.cells (a.bb i s))) : GAt S w' g (G.setSl i s x') := by
  obtain ⟨y1, y2, y3⟩ := h.sl i hi (s, x) (getA_mem hx)
  refine ⟨_, _, _, _, _, h.slot (x' := x') (bb' := a.bb i s) (ab' := a.ab i s) hi hx hu (fun k hk => .inl hk) (fun _ => id) (fun k hk => Nat.lt_of_lt_of_le (h.lt k hk) hu.size) ⟨hk, y2, fun d hd => ?_⟩ fun hs => .inl ⟨by rw [← hb]; exact hs, rfl, .inl rfl⟩⟩
  obtain ⟨y4, y5, y6, y7, y8⟩ := y3 d (hb ▸ hd)
  exact ⟨y4.upd hu fun e => y4.ne_ y1 (by decide) e, y5, y6, y7.upd hu fun e => y7.ne_blk y1 e, y8⟩
set_option maxRecDepth 100000 in
set_option maxHeartbeats 2000000 in
theorem prepare_any (m : Ml) (x : Sl) (i : Nat) (s : Int) (h : GIn S w g An cn Am cm G a) (hi : i < G.nds.length) (hx : getA s (G.nd i).sl = some x) : Calls Try.prog 56 #[.pointer (some ⟨g, 0, none⟩), .pointer (some ⟨a.sb i s, 0, none⟩), .agg #[.int .i64 m.kind, .int .i64 m.fr, .int .i64 m.dst, .int .i64 m.slot, .int .i64 m.bal.rd, .int .i64 m.bal.nd, .int .i64 m.had.rd, .int .i64 m.had.nd, .string m.text]] w fun e w' => e = .returned (.tuple #[]) ∧ GGo S w g (G.prepare i s x m) w' := by
  have hB : Below w.heap.size w (w.alloc (.cells #[.int .i64 m.kind, .int .i64 m.fr, .int .i64 m.dst, .int .i64 m.slot, .int .i64 m.bal.rd, .int .i64 m.bal.nd, .int .i64 m.had.rd, .int .i64 m.had.nd, .string m.text] 78)) := (Below.refl _ _).alloc (Nat.le_refl _) _
  have kb := Blk.new w 78 #[.int .i64 m.kind, .int .i64 m.fr, .int .i64 m.dst, .int .i64 m.slot, .int .i64 m.bal.rd, .int .i64 m.bal.nd, .int .i64 m.had.rd, .int .i64 m.had.nd, .string m.text]
  have hSlt := h.lt
  have q := h.below hB
  obtain ⟨kS, hSs, _⟩ := q.sl i hi (s, x) (getA_mem hx)
  have hsl := hSlt _ hSs
  have hh := hid q
  clear q h
  go_enter Try.func56, Try.ntmps56
  go_upto_region 1 with fail
  generalize w.alloc (.cells #[.int .i64 m.kind, .int .i64 m.fr, .int .i64 m.dst, .int .i64 m.slot, .int .i64 m.bal.rd, .int .i64 m.bal.nd, .int .i64 m.had.rd, .int .i64 m.had.nd, .string m.text] 78) = W1 at *
  have e0 : W1.cell? ⟨w.heap.size, 0, none⟩ = some (.int .i64 m.kind) := kb.cell 0
  have e1 : W1.cell? ⟨w.heap.size, 1, none⟩ = some (.int .i64 m.fr) := kb.cell 1
  have e2 : W1.cell? ⟨w.heap.size, 2, none⟩ = some (.int .i64 m.dst) := kb.cell 2
  have e3 : W1.cell? ⟨w.heap.size, 3, none⟩ = some (.int .i64 m.slot) := kb.cell 3
  have e4 : W1.cell? ⟨w.heap.size, 4, none⟩ = some (.int .i64 m.bal.rd) := kb.cell 4
  have e5 : W1.cell? ⟨w.heap.size, 5, none⟩ = some (.int .i64 m.bal.nd) := kb.cell 5
  have e6 : W1.cell? ⟨w.heap.size, 6, none⟩ = some (.int .i64 m.had.rd) := kb.cell 6
  have e7 : W1.cell? ⟨w.heap.size, 7, none⟩ = some (.int .i64 m.had.nd) := kb.cell 7
  have e8 : W1.cell? ⟨w.heap.size, 8, none⟩ = some (.string m.text) := kb.cell 8
  have s0 : W1.cell? ⟨a.sb i s, 0, none⟩ = some (.int .i64 x.rd) := kS.cell 0
  have qs := fun j => kS.frozen j
  have hne : a.sb i s ≠ w.heap.size := Nat.ne_of_lt hsl
  go_cut [] (fun wx => Blk wx (a.sb i s) 74 (({ x with rd := maxI x.rd m.bal.rd } : Sl).cells (a.bb i s)) ∧ Upd (fun k => k = a.sb i s) W1 wx)
  case first =>
    have hu00 : ∀ v, Upd (fun k => k = a.sb i s) W1 (W1.setCell ⟨a.sb i s, 0, none⟩ v) := fun v => (Upd.refl (fun k => k = a.sb i s) W1).setCell (p := ⟨a.sb i s, 0, none⟩) (fun _ => rfl) v
    have hk00 : ∀ v, Blk (W1.setCell ⟨a.sb i s, 0, none⟩ v) (a.sb i s) 74 ((x.cells (a.bb i s)).setIfInBounds 0 v) := fun v => kS.set_ 0 v
    have hu0 := hid hu00
    have hk0 := hid hk00
    clear hu00 hk00
    by_cases hr : x.rd < m.bal.rd
    · have hmx0 : maxI x.rd m.bal.rd = m.bal.rd := by unfold maxI; rw [if_pos hr]
      have hmx := hid hmx0
      clear hmx0
      go_region
      all_goals
        go_wp2_with fail
        go_meet
        exact ⟨by rw [hmx.out]; exact hk0.out _, (hu0.out _).drew⟩
    · have hmx0 : maxI x.rd m.bal.rd = x.rd := by unfold maxI; rw [if_neg hr]
      have hmx := hid hmx0
      clear hmx0
      go_region
      all_goals
        go_wp2_with fail
        go_meet
        exact ⟨by rw [hmx.out]; exact hk0.out _, (hu0.out _).drew⟩
  case rest =>
    obtain ⟨kS1, hu1⟩ := hcut
    have kb1 := kb.upd hu1 (Ne.symm hne)
    clear kS kb qs s0 e0 e1 e2 e3 e4 e5 e6 e7 e8
    obtain ⟨x1, hx10⟩ : ∃ x1 : Sl, x1 = { x with rd := maxI x.rd m.bal.rd } := ⟨_, rfl⟩
    rw [← hx10] at kS1
    have hp10 : x1.prom = x.prom := by rw [hx10]
    have hx1 := hid hx10
    have hp1 := hid hp10
    clear hx10 hp10
    have e0 : wc.cell? ⟨w.heap.size, 0, none⟩ = some (.int .i64 m.kind) := kb1.cell 0
    have e1 : wc.cell? ⟨w.heap.size, 1, none⟩ = some (.int .i64 m.fr) := kb1.cell 1
    have e2 : wc.cell? ⟨w.heap.size, 2, none⟩ = some (.int .i64 m.dst) := kb1.cell 2
    have e3 : wc.cell? ⟨w.heap.size, 3, none⟩ = some (.int .i64 m.slot) := kb1.cell 3
    have e4 : wc.cell? ⟨w.heap.size, 4, none⟩ = some (.int .i64 m.bal.rd) := kb1.cell 4
    have e5 : wc.cell? ⟨w.heap.size, 5, none⟩ = some (.int .i64 m.bal.nd) := kb1.cell 5
    have e6 : wc.cell? ⟨w.heap.size, 6, none⟩ = some (.int .i64 m.had.rd) := kb1.cell 6
    have e7 : wc.cell? ⟨w.heap.size, 7, none⟩ = some (.int .i64 m.had.nd) := kb1.cell 7
    have e8 : wc.cell? ⟨w.heap.size, 8, none⟩ = some (.string m.text) := kb1.cell 8
    have s0 : wc.cell? ⟨a.sb i s, 0, none⟩ = some (.int .i64 x1.rd) := kS1.cell 0
    have s1 : wc.cell? ⟨a.sb i s, 1, none⟩ = some (.int .i64 x1.prom.rd) := kS1.cell 1
    have s2 : wc.cell? ⟨a.sb i s, 2, none⟩ = some (.int .i64 x1.prom.nd) := kS1.cell 2
    have s3 : wc.cell? ⟨a.sb i s, 3, none⟩ = some (.int .i64 x1.accd.bal.rd) := kS1.cell 3
    have s4 : wc.cell? ⟨a.sb i s, 4, none⟩ = some (.int .i64 x1.accd.bal.nd) := kS1.cell 4
    have s5 : wc.cell? ⟨a.sb i s, 5, none⟩ = some (.string x1.accd.text) := kS1.cell 5
    have s6 : wc.cell? ⟨a.sb i s, 6, none⟩ = some (.bool x1.is) := kS1.cell 6
    have s7 : wc.cell? ⟨a.sb i s, 7, none⟩ = some (.string x1.text) := kS1.cell 7
    have hsz1 := hu1.size
    go_wp2_with fail
    go_still_tail 6, (by kernel_rfl)
    change wpList _ _ _ _ _ wc.drew
    go_wp2_with fail
    refine (compare_any m.bal x1.prom wc.drew).mono ?_
    rintro e w2 ⟨rfl, hbd⟩
    have hb2 : Below wc.heap.size wc w2 := ((Below.refl _ wc).drew).trans hbd
    have hu2 := hu1.trans (Upd.of_below' hb2 _) fun _ _ h => h
    have kS2 := kS1.below_all hb2
    have kb2 := kb1.below_all hb2
    clear hbd hb2 kS1 kb1 hu1 s0 s1 s2 s3 s4 s5 s6 s7 e0 e1 e2 e3 e4 e5 e6 e7 e8
    by_cases hc : 0 ≤ cmpB m.bal x1.prom
    rotate_left
    · have t1 : decide (0 ≤ cmpB m.bal x1.prom) = false := decide_eq_false hc
      have hfin : Hid (GGo S w g (G.setSl i s { x with rd := maxI x.rd m.bal.rd }) w2) := hid ⟨S, hh.out.put (x' := { x with rd := maxI x.rd m.bal.rd }) hi hx rfl hu2 (by rw [← hx1.out]; exact kS2), fun _ h => .inl h, (Upd.of_below' hB _).trans hu2 fun k _ h => h ▸ hSs⟩
      have hcn := hid hc
      clear kS2 kb2 hc
      go_wp2_with fail
      go_end0
      refine ⟨rfl, ?_⟩
      unfold Gr.prepare
      rw [if_neg (by rw [← hp1.out]; have := hcn.out; omega)]
      exact hfin.out
    have t1 : decide (0 ≤ cmpB m.bal x1.prom) = true := decide_eq_true hc
    have hcy := hid hc
    clear hc
    have e0 : w2.cell? ⟨w.heap.size, 0, none⟩ = some (.int .i64 m.kind) := kb2.cell 0
    have e1 : w2.cell? ⟨w.heap.size, 1, none⟩ = some (.int .i64 m.fr) := kb2.cell 1
    have e2 : w2.cell? ⟨w.heap.size, 2, none⟩ = some (.int .i64 m.dst) := kb2.cell 2
    have e3 : w2.cell? ⟨w.heap.size, 3, none⟩ = some (.int .i64 m.slot) := kb2.cell 3
    have e4 : w2.cell? ⟨w.heap.size, 4, none⟩ = some (.int .i64 m.bal.rd) := kb2.cell 4
    have e5 : w2.cell? ⟨w.heap.size, 5, none⟩ = some (.int .i64 m.bal.nd) := kb2.cell 5
    have e6 : w2.cell? ⟨w.heap.size, 6, none⟩ = some (.int .i64 m.had.rd) := kb2.cell 6
    have e7 : w2.cell? ⟨w.heap.size, 7, none⟩ = some (.int .i64 m.had.nd) := kb2.cell 7
    have e8 : w2.cell? ⟨w.heap.size, 8, none⟩ = some (.string m.text) := kb2.cell 8
    have s0 : w2.cell? ⟨a.sb i s, 0, none⟩ = some (.int .i64 x1.rd) := kS2.cell 0
    have s1 : w2.cell? ⟨a.sb i s, 1, none⟩ = some (.int .i64 x1.prom.rd) := kS2.cell 1
    have s2 : w2.cell? ⟨a.sb i s, 2, none⟩ = some (.int .i64 x1.prom.nd) := kS2.cell 2
    have s3 : w2.cell? ⟨a.sb i s, 3, none⟩ = some (.int .i64 x1.accd.bal.rd) := kS2.cell 3
    have s4 : w2.cell? ⟨a.sb i s, 4, none⟩ = some (.int .i64 x1.accd.bal.nd) := kS2.cell 4
    have s5 : w2.cell? ⟨a.sb i s, 5, none⟩ = some (.string x1.accd.text) := kS2.cell 5
    have s6 : w2.cell? ⟨a.sb i s, 6, none⟩ = some (.bool x1.is) := kS2.cell 6
    have s7 : w2.cell? ⟨a.sb i s, 7, none⟩ = some (.string x1.text) := kS2.cell 7
    have qs := fun j => kS2.frozen j
    have hu3 : Upd (fun k => k = a.sb i s) W1 ((w2.setCell ⟨a.sb i s, 1, none⟩ (.int .i64 m.bal.rd)).setCell ⟨a.sb i s, 2, none⟩ (.int .i64 m.bal.nd)) := (hu2.setCell (p := ⟨a.sb i s, 1, none⟩) (fun _ => rfl) _).setCell (p := ⟨a.sb i s, 2, none⟩) (fun _ => rfl) _
    have kS3 : Blk ((w2.setCell ⟨a.sb i s, 1, none⟩ (.int .i64 m.bal.rd)).setCell ⟨a.sb i s, 2, none⟩ (.int .i64 m.bal.nd)) (a.sb i s) 74 (({ x1 with prom := m.bal } : Sl).cells (a.bb i s)) := (kS2.set_ 1 (.int .i64 m.bal.rd)).set_ 2 (.int .i64 m.bal.nd)
    have kb3 := (kb2.far (p := ⟨a.sb i s, 1, none⟩) (Ne.symm hne) (.int .i64 m.bal.rd)).far (p := ⟨a.sb i s, 2, none⟩) (Ne.symm hne) (.int .i64 m.bal.nd)
    go_upto_region 4 with fail
    generalize (w2.setCell ⟨a.sb i s, 1, none⟩ (.int .i64 m.bal.rd)).setCell ⟨a.sb i s, 2, none⟩ (.int .i64 m.bal.nd) = w3 at *
    clear hu2 kS2 kb2 qs s0 s1 s2 s3 s4 s5 s6 s7 e0 e1 e2 e3 e4 e5 e6 e7 e8
    have e0 : w3.cell? ⟨w.heap.size, 0, none⟩ = some (.int .i64 m.kind) := kb3.cell 0
    have e1 : w3.cell? ⟨w.heap.size, 1, none⟩ = some (.int .i64 m.fr) := kb3.cell 1
    have e2 : w3.cell? ⟨w.heap.size, 2, none⟩ = some (.int .i64 m.dst) := kb3.cell 2
    have e3 : w3.cell? ⟨w.heap.size, 3, none⟩ = some (.int .i64 m.slot) := kb3.cell 3
    have e4 : w3.cell? ⟨w.heap.size, 4, none⟩ = some (.int .i64 m.bal.rd) := kb3.cell 4
    have e5 : w3.cell? ⟨w.heap.size, 5, none⟩ = some (.int .i64 m.bal.nd) := kb3.cell 5
    have e6 : w3.cell? ⟨w.heap.size, 6, none⟩ = some (.int .i64 m.had.rd) := kb3.cell 6
    have e7 : w3.cell? ⟨w.heap.size, 7, none⟩ = some (.int .i64 m.had.nd) := kb3.cell 7
    have e8 : w3.cell? ⟨w.heap.size, 8, none⟩ = some (.string m.text) := kb3.cell 8
    have s3 : w3.cell? ⟨a.sb i s, 3, none⟩ = some (.int .i64 x1.accd.bal.rd) := kS3.cell 3
    have s4 : w3.cell? ⟨a.sb i s, 4, none⟩ = some (.int .i64 x1.accd.bal.nd) := kS3.cell 4
    have s5 : w3.cell? ⟨a.sb i s, 5, none⟩ = some (.string x1.accd.text) := kS3.cell 5
    have q3 : GAt S w3 g (G.setSl i s { x1 with prom := m.bal }) := hh.out.put (x' := { x1 with prom := m.bal }) hi hx (by rw [hx1.out]) hu3 kS3
    go_still_tail 21, (by kernel_rfl)
    change wpList _ _ _ _ _ w3.drew
    go_wp2_with fail
    refine (send_any ⟨2, m.dst, m.bal.nd, m.slot, m.bal, x1.accd.bal, x1.accd.text⟩ (q3.below (Below.refl _ w3).drew)).mono ?_
    rintro e w4 ⟨rfl, S4, h4, hS4, hu4⟩
    have hS4 : ∀ k, S4 k → S k ∨ w3.heap.size ≤ k := hS4
    have hu4 : Upd S w3 w4 := (Upd.of_below' (Below.refl _ w3).drew S).trans hu4 fun _ _ h => h
    go_wp2_with fail
    go_end0
    refine ⟨rfl, ?_⟩
    unfold Gr.prepare
    rw [if_pos (by rw [← hp1.out]; exact hcy.out)]
    refine ⟨S4, ?_, fun k hk => ?_, ?_⟩
    · rw [hx1.out] at h4
      exact h4
    · rcases hS4 k hk with h | h
      · exact .inl h
      · have := hu3.size; have := hB.size; exact .inr (by omega)
    · exact ((Upd.of_below' hB S).trans (hu3.mono (M' := S) fun k _ h => h ▸ hSs) fun _ _ h => h).trans hu4 fun _ _ h => h
set_option maxRecDepth 100000 in
set_option maxHeartbeats 2000000 in
theorem accept_any (m : Ml) (x : Sl) (i : Nat) (s : Int) (h : GIn S w g An cn Am cm G a) (hi : i < G.nds.length) (hx : getA s (G.nd i).sl = some x) : Calls Try.prog 58 #[.pointer (some ⟨g, 0, none⟩), .pointer (some ⟨a.sb i s, 0, none⟩), .agg #[.int .i64 m.kind, .int .i64 m.fr, .int .i64 m.dst, .int .i64 m.slot, .int .i64 m.bal.rd, .int .i64 m.bal.nd, .int .i64 m.had.rd, .int .i64 m.had.nd, .string m.text]] w fun e w' => e = .returned (.tuple #[]) ∧ GGo S w g (G.accept i s x m) w' := by
  have hB : Below w.heap.size w (w.alloc (.cells #[.int .i64 m.kind, .int .i64 m.fr, .int .i64 m.dst, .int .i64 m.slot, .int .i64 m.bal.rd, .int .i64 m.bal.nd, .int .i64 m.had.rd, .int .i64 m.had.nd, .string m.text] 78)) := (Below.refl _ _).alloc (Nat.le_refl _) _
  have kb := Blk.new w 78 #[.int .i64 m.kind, .int .i64 m.fr, .int .i64 m.dst, .int .i64 m.slot, .int .i64 m.bal.rd, .int .i64 m.bal.nd, .int .i64 m.had.rd, .int .i64 m.had.nd, .string m.text]
  have hSlt := h.lt
  have q := h.below hB
  obtain ⟨kS, hSs, _⟩ := q.sl i hi (s, x) (getA_mem hx)
  have hsl := hSlt _ hSs
  have hh := hid q
  clear q h
  go_enter Try.func58, Try.ntmps58
  go_upto_region 1 with fail
  generalize w.alloc (.cells #[.int .i64 m.kind, .int .i64 m.fr, .int .i64 m.dst, .int .i64 m.slot, .int .i64 m.bal.rd, .int .i64 m.bal.nd, .int .i64 m.had.rd, .int .i64 m.had.nd, .string m.text] 78) = W1 at *
  have e0 : W1.cell? ⟨w.heap.size, 0, none⟩ = some (.int .i64 m.kind) := kb.cell 0
  have e1 : W1.cell? ⟨w.heap.size, 1, none⟩ = some (.int .i64 m.fr) := kb.cell 1
  have e2 : W1.cell? ⟨w.heap.size, 2, none⟩ = some (.int .i64 m.dst) := kb.cell 2
  have e3 : W1.cell? ⟨w.heap.size, 3, none⟩ = some (.int .i64 m.slot) := kb.cell 3
  have e4 : W1.cell? ⟨w.heap.size, 4, none⟩ = some (.int .i64 m.bal.rd) := kb.cell 4
  have e5 : W1.cell? ⟨w.heap.size, 5, none⟩ = some (.int .i64 m.bal.nd) := kb.cell 5
  have e6 : W1.cell? ⟨w.heap.size, 6, none⟩ = some (.int .i64 m.had.rd) := kb.cell 6
  have e7 : W1.cell? ⟨w.heap.size, 7, none⟩ = some (.int .i64 m.had.nd) := kb.cell 7
  have e8 : W1.cell? ⟨w.heap.size, 8, none⟩ = some (.string m.text) := kb.cell 8
  have s0 : W1.cell? ⟨a.sb i s, 0, none⟩ = some (.int .i64 x.rd) := kS.cell 0
  have qs := fun j => kS.frozen j
  have hne : a.sb i s ≠ w.heap.size := Nat.ne_of_lt hsl
  go_cut [] (fun wx => Blk wx (a.sb i s) 74 (({ x with rd := maxI x.rd m.bal.rd } : Sl).cells (a.bb i s)) ∧ Upd (fun k => k = a.sb i s) W1 wx)
  case first =>
    have hu00 : ∀ v, Upd (fun k => k = a.sb i s) W1 (W1.setCell ⟨a.sb i s, 0, none⟩ v) := fun v => (Upd.refl (fun k => k = a.sb i s) W1).setCell (p := ⟨a.sb i s, 0, none⟩) (fun _ => rfl) v
    have hk00 : ∀ v, Blk (W1.setCell ⟨a.sb i s, 0, none⟩ v) (a.sb i s) 74 ((x.cells (a.bb i s)).setIfInBounds 0 v) := fun v => kS.set_ 0 v
    have hu0 := hid hu00
    have hk0 := hid hk00
    clear hu00 hk00
    by_cases hr : x.rd < m.bal.rd
    · have hmx0 : maxI x.rd m.bal.rd = m.bal.rd := by unfold maxI; rw [if_pos hr]
      have hmx := hid hmx0
      clear hmx0
      go_region
      all_goals
        go_wp2_with fail
        go_meet
        exact ⟨by rw [hmx.out]; exact hk0.out _, (hu0.out _).drew⟩
    · have hmx0 : maxI x.rd m.bal.rd = x.rd := by unfold maxI; rw [if_neg hr]
      have hmx := hid hmx0
      clear hmx0
      go_region
      all_goals
        go_wp2_with fail
        go_meet
        exact ⟨by rw [hmx.out]; exact hk0.out _, (hu0.out _).drew⟩
  case rest =>
    obtain ⟨kS1, hu1⟩ := hcut
    have kb1 := kb.upd hu1 (Ne.symm hne)
    clear kS kb qs s0 e0 e1 e2 e3 e4 e5 e6 e7 e8
    obtain ⟨x1, hx10⟩ : ∃ x1 : Sl, x1 = { x with rd := maxI x.rd m.bal.rd } := ⟨_, rfl⟩
    rw [← hx10] at kS1
    have hp10 : x1.prom = x.prom := by rw [hx10]
    have hx1 := hid hx10
    have hp1 := hid hp10
    clear hx10 hp10
    have e0 : wc.cell? ⟨w.heap.size, 0, none⟩ = some (.int .i64 m.kind) := kb1.cell 0
    have e1 : wc.cell? ⟨w.heap.size, 1, none⟩ = some (.int .i64 m.fr) := kb1.cell 1
    have e2 : wc.cell? ⟨w.heap.size, 2, none⟩ = some (.int .i64 m.dst) := kb1.cell 2
    have e3 : wc.cell? ⟨w.heap.size, 3, none⟩ = some (.int .i64 m.slot) := kb1.cell 3
    have e4 : wc.cell? ⟨w.heap.size, 4, none⟩ = some (.int .i64 m.bal.rd) := kb1.cell 4
    have e5 : wc.cell? ⟨w.heap.size, 5, none⟩ = some (.int .i64 m.bal.nd) := kb1.cell 5
    have e6 : wc.cell? ⟨w.heap.size, 6, none⟩ = some (.int .i64 m.had.rd) := kb1.cell 6
    have e7 : wc.cell? ⟨w.heap.size, 7, none⟩ = some (.int .i64 m.had.nd) := kb1.cell 7
    have e8 : wc.cell? ⟨w.heap.size, 8, none⟩ = some (.string m.text) := kb1.cell 8
    have s0 : wc.cell? ⟨a.sb i s, 0, none⟩ = some (.int .i64 x1.rd) := kS1.cell 0
    have s1 : wc.cell? ⟨a.sb i s, 1, none⟩ = some (.int .i64 x1.prom.rd) := kS1.cell 1
    have s2 : wc.cell? ⟨a.sb i s, 2, none⟩ = some (.int .i64 x1.prom.nd) := kS1.cell 2
    have s3 : wc.cell? ⟨a.sb i s, 3, none⟩ = some (.int .i64 x1.accd.bal.rd) := kS1.cell 3
    have s4 : wc.cell? ⟨a.sb i s, 4, none⟩ = some (.int .i64 x1.accd.bal.nd) := kS1.cell 4
    have s5 : wc.cell? ⟨a.sb i s, 5, none⟩ = some (.string x1.accd.text) := kS1.cell 5
    have s6 : wc.cell? ⟨a.sb i s, 6, none⟩ = some (.bool x1.is) := kS1.cell 6
    have s7 : wc.cell? ⟨a.sb i s, 7, none⟩ = some (.string x1.text) := kS1.cell 7
    have hsz1 := hu1.size
    go_wp2_with fail
    go_still_tail 6, (by kernel_rfl)
    change wpList _ _ _ _ _ wc.drew
    go_wp2_with fail
    refine (compare_any m.bal x1.prom wc.drew).mono ?_
    rintro e w2 ⟨rfl, hbd⟩
    have hb2 : Below wc.heap.size wc w2 := ((Below.refl _ wc).drew).trans hbd
    have hu2 := hu1.trans (Upd.of_below' hb2 _) fun _ _ h => h
    have kS2 := kS1.below_all hb2
    have kb2 := kb1.below_all hb2
    clear hbd hb2 kS1 kb1 hu1 s0 s1 s2 s3 s4 s5 s6 s7 e0 e1 e2 e3 e4 e5 e6 e7 e8
    by_cases hc : 0 ≤ cmpB m.bal x1.prom
    rotate_left
    · have t1 : decide (0 ≤ cmpB m.bal x1.prom) = false := decide_eq_false hc
      have hfin : Hid (GGo S w g (G.setSl i s { x with rd := maxI x.rd m.bal.rd }) w2) := hid ⟨S, hh.out.put (x' := { x with rd := maxI x.rd m.bal.rd }) hi hx rfl hu2 (by rw [← hx1.out]; exact kS2), fun _ h => .inl h, (Upd.of_below' hB _).trans hu2 fun k _ h => h ▸ hSs⟩
      have hcn := hid hc
      clear kS2 kb2 hc
      go_wp2_with fail
      go_end0
      refine ⟨rfl, ?_⟩
      unfold Gr.accept
      rw [if_neg (by rw [← hp1.out]; have := hcn.out; omega)]
      exact hfin.out
    have t1 : decide (0 ≤ cmpB m.bal x1.prom) = true := decide_eq_true hc
    have hcy := hid hc
    clear hc
    have e0 : w2.cell? ⟨w.heap.size, 0, none⟩ = some (.int .i64 m.kind) := kb2.cell 0
    have e1 : w2.cell? ⟨w.heap.size, 1, none⟩ = some (.int .i64 m.fr) := kb2.cell 1
    have e2 : w2.cell? ⟨w.heap.size, 2, none⟩ = some (.int .i64 m.dst) := kb2.cell 2
    have e3 : w2.cell? ⟨w.heap.size, 3, none⟩ = some (.int .i64 m.slot) := kb2.cell 3
    have e4 : w2.cell? ⟨w.heap.size, 4, none⟩ = some (.int .i64 m.bal.rd) := kb2.cell 4
    have e5 : w2.cell? ⟨w.heap.size, 5, none⟩ = some (.int .i64 m.bal.nd) := kb2.cell 5
    have e6 : w2.cell? ⟨w.heap.size, 6, none⟩ = some (.int .i64 m.had.rd) := kb2.cell 6
    have e7 : w2.cell? ⟨w.heap.size, 7, none⟩ = some (.int .i64 m.had.nd) := kb2.cell 7
    have e8 : w2.cell? ⟨w.heap.size, 8, none⟩ = some (.string m.text) := kb2.cell 8
    have s0 : w2.cell? ⟨a.sb i s, 0, none⟩ = some (.int .i64 x1.rd) := kS2.cell 0
    have s1 : w2.cell? ⟨a.sb i s, 1, none⟩ = some (.int .i64 x1.prom.rd) := kS2.cell 1
    have s2 : w2.cell? ⟨a.sb i s, 2, none⟩ = some (.int .i64 x1.prom.nd) := kS2.cell 2
    have s3 : w2.cell? ⟨a.sb i s, 3, none⟩ = some (.int .i64 x1.accd.bal.rd) := kS2.cell 3
    have s4 : w2.cell? ⟨a.sb i s, 4, none⟩ = some (.int .i64 x1.accd.bal.nd) := kS2.cell 4
    have s5 : w2.cell? ⟨a.sb i s, 5, none⟩ = some (.string x1.accd.text) := kS2.cell 5
    have s6 : w2.cell? ⟨a.sb i s, 6, none⟩ = some (.bool x1.is) := kS2.cell 6
    have s7 : w2.cell? ⟨a.sb i s, 7, none⟩ = some (.string x1.text) := kS2.cell 7
    have qs := fun j => kS2.frozen j
    have hu3 : Upd (fun k => k = a.sb i s) W1 (((((w2.setCell ⟨a.sb i s, 1, none⟩ (.int .i64 m.bal.rd)).setCell ⟨a.sb i s, 2, none⟩ (.int .i64 m.bal.nd)).setCell ⟨a.sb i s, 3, none⟩ (.int .i64 m.bal.rd)).setCell ⟨a.sb i s, 4, none⟩ (.int .i64 m.bal.nd)).setCell ⟨a.sb i s, 5, none⟩ (.string m.text)) := (((((hu2.setCell (p := ⟨a.sb i s, 1, none⟩) (fun _ => rfl) _).setCell (p := ⟨a.sb i s, 2, none⟩) (fun _ => rfl) _).setCell (p := ⟨a.sb i s, 3, none⟩) (fun _ => rfl) _).setCell (p := ⟨a.sb i s, 4, none⟩) (fun _ => rfl) _).setCell (p := ⟨a.sb i s, 5, none⟩) (fun _ => rfl) _)
    have kS3 : Blk (((((w2.setCell ⟨a.sb i s, 1, none⟩ (.int .i64 m.bal.rd)).setCell ⟨a.sb i s, 2, none⟩ (.int .i64 m.bal.nd)).setCell ⟨a.sb i s, 3, none⟩ (.int .i64 m.bal.rd)).setCell ⟨a.sb i s, 4, none⟩ (.int .i64 m.bal.nd)).setCell ⟨a.sb i s, 5, none⟩ (.string m.text)) (a.sb i s) 74 (({ x1 with prom := m.bal, accd := ⟨m.bal, m.text⟩ } : Sl).cells (a.bb i s)) := (((((kS2.set_ 1 (.int .i64 m.bal.rd)).set_ 2 (.int .i64 m.bal.nd)).set_ 3 (.int .i64 m.bal.rd)).set_ 4 (.int .i64 m.bal.nd)).set_ 5 (.string m.text))
    have kb3 := (((((kb2.far (p := ⟨a.sb i s, 1, none⟩) (Ne.symm hne) (.int .i64 m.bal.rd)).far (p := ⟨a.sb i s, 2, none⟩) (Ne.symm hne) (.int .i64 m.bal.nd)).far (p := ⟨a.sb i s, 3, none⟩) (Ne.symm hne) (.int .i64 m.bal.rd)).far (p := ⟨a.sb i s, 4, none⟩) (Ne.symm hne) (.int .i64 m.bal.nd)).far (p := ⟨a.sb i s, 5, none⟩) (Ne.symm hne) (.string m.text))
    go_upto_region 5 with fail
    generalize (((((w2.setCell ⟨a.sb i s, 1, none⟩ (.int .i64 m.bal.rd)).setCell ⟨a.sb i s, 2, none⟩ (.int .i64 m.bal.nd)).setCell ⟨a.sb i s, 3, none⟩ (.int .i64 m.bal.rd)).setCell ⟨a.sb i s, 4, none⟩ (.int .i64 m.bal.nd)).setCell ⟨a.sb i s, 5, none⟩ (.string m.text)) = w3 at *
    clear hu2 kS2 kb2 qs s0 s1 s2 s3 s4 s5 s6 s7 e0 e1 e2 e3 e4 e5 e6 e7 e8
    have e0 : w3.cell? ⟨w.heap.size, 0, none⟩ = some (.int .i64 m.kind) := kb3.cell 0
    have e1 : w3.cell? ⟨w.heap.size, 1, none⟩ = some (.int .i64 m.fr) := kb3.cell 1
    have e2 : w3.cell? ⟨w.heap.size, 2, none⟩ = some (.int .i64 m.dst) := kb3.cell 2
    have e3 : w3.cell? ⟨w.heap.size, 3, none⟩ = some (.int .i64 m.slot) := kb3.cell 3
    have e4 : w3.cell? ⟨w.heap.size, 4, none⟩ = some (.int .i64 m.bal.rd) := kb3.cell 4
    have e5 : w3.cell? ⟨w.heap.size, 5, none⟩ = some (.int .i64 m.bal.nd) := kb3.cell 5
    have e6 : w3.cell? ⟨w.heap.size, 6, none⟩ = some (.int .i64 m.had.rd) := kb3.cell 6
    have e7 : w3.cell? ⟨w.heap.size, 7, none⟩ = some (.int .i64 m.had.nd) := kb3.cell 7
    have e8 : w3.cell? ⟨w.heap.size, 8, none⟩ = some (.string m.text) := kb3.cell 8
    have q3 : GAt S w3 g (G.setSl i s { x1 with prom := m.bal, accd := ⟨m.bal, m.text⟩ }) := hh.out.put (x' := { x1 with prom := m.bal, accd := ⟨m.bal, m.text⟩ }) hi hx (by rw [hx1.out]) hu3 kS3
    go_wp2_with fail
    refine (send_any ⟨4, m.dst, m.bal.nd, m.slot, m.bal, bal0, ⟨#[]⟩⟩ q3).mono ?_
    rintro e w4 ⟨rfl, S4, h4, hS4, hu4⟩
    go_wp2_with fail
    go_end0
    refine ⟨rfl, ?_⟩
    unfold Gr.accept
    rw [if_pos (by rw [← hp1.out]; exact hcy.out)]
    refine ⟨S4, ?_, fun k hk => ?_, ?_⟩
    · rw [hx1.out] at h4
      exact h4
    · rcases hS4 k hk with h | h
      · exact .inl h
      · have := hu3.size; have := hB.size; exact .inr (by omega)
    · exact ((Upd.of_below' hB S).trans (hu3.mono (M' := S) fun k _ h => h ▸ hSs) fun _ _ h => h).trans hu4 fun _ _ h => h
set_option maxRecDepth 100000 in
set_option maxHeartbeats 2000000 in
theorem learn_any (m : Ml) (x : Sl) (i : Nat) (s : Int) (h : GIn S w g An cn Am cm G a) (hi : i < G.nds.length) (hx : getA s (G.nd i).sl = some x) : Calls Try.prog 60 #[.pointer (some ⟨g, 0, none⟩), .pointer (some ⟨a.sb i s, 0, none⟩), .agg #[.int .i64 m.kind, .int .i64 m.fr, .int .i64 m.dst, .int .i64 m.slot, .int .i64 m.bal.rd, .int .i64 m.bal.nd, .int .i64 m.had.rd, .int .i64 m.had.nd, .string m.text]] w fun e w' => e = .returned (.tuple #[]) ∧ GGo S w g (G.learn i s x m) w' := by
  have hB : Below w.heap.size w (w.alloc (.cells #[.int .i64 m.kind, .int .i64 m.fr, .int .i64 m.dst, .int .i64 m.slot, .int .i64 m.bal.rd, .int .i64 m.bal.nd, .int .i64 m.had.rd, .int .i64 m.had.nd, .string m.text] 78)) := (Below.refl _ _).alloc (Nat.le_refl _) _
  have kb := Blk.new w 78 #[.int .i64 m.kind, .int .i64 m.fr, .int .i64 m.dst, .int .i64 m.slot, .int .i64 m.bal.rd, .int .i64 m.bal.nd, .int .i64 m.had.rd, .int .i64 m.had.nd, .string m.text]
  have hSlt := h.lt
  have q := h.below hB
  obtain ⟨kS, hSs, _⟩ := q.sl i hi (s, x) (getA_mem hx)
  have hsl := hSlt _ hSs
  have hh := hid q
  clear q h
  go_enter Try.func60, Try.ntmps60
  go_upto_region 1 with fail
  generalize w.alloc (.cells #[.int .i64 m.kind, .int .i64 m.fr, .int .i64 m.dst, .int .i64 m.slot, .int .i64 m.bal.rd, .int .i64 m.bal.nd, .int .i64 m.had.rd, .int .i64 m.had.nd, .string m.text] 78) = W1 at *
  have e0 : W1.cell? ⟨w.heap.size, 0, none⟩ = some (.int .i64 m.kind) := kb.cell 0
  have e1 : W1.cell? ⟨w.heap.size, 1, none⟩ = some (.int .i64 m.fr) := kb.cell 1
  have e2 : W1.cell? ⟨w.heap.size, 2, none⟩ = some (.int .i64 m.dst) := kb.cell 2
  have e3 : W1.cell? ⟨w.heap.size, 3, none⟩ = some (.int .i64 m.slot) := kb.cell 3
  have e4 : W1.cell? ⟨w.heap.size, 4, none⟩ = some (.int .i64 m.bal.rd) := kb.cell 4
  have e5 : W1.cell? ⟨w.heap.size, 5, none⟩ = some (.int .i64 m.bal.nd) := kb.cell 5
  have e6 : W1.cell? ⟨w.heap.size, 6, none⟩ = some (.int .i64 m.had.rd) := kb.cell 6
  have e7 : W1.cell? ⟨w.heap.size, 7, none⟩ = some (.int .i64 m.had.nd) := kb.cell 7
  have e8 : W1.cell? ⟨w.heap.size, 8, none⟩ = some (.string m.text) := kb.cell 8
  have s0 : W1.cell? ⟨a.sb i s, 0, none⟩ = some (.int .i64 x.rd) := kS.cell 0
  have s1 : W1.cell? ⟨a.sb i s, 1, none⟩ = some (.int .i64 x.prom.rd) := kS.cell 1
  have s2 : W1.cell? ⟨a.sb i s, 2, none⟩ = some (.int .i64 x.prom.nd) := kS.cell 2
  have s3 : W1.cell? ⟨a.sb i s, 3, none⟩ = some (.int .i64 x.accd.bal.rd) := kS.cell 3
  have s4 : W1.cell? ⟨a.sb i s, 4, none⟩ = some (.int .i64 x.accd.bal.nd) := kS.cell 4
  have s5 : W1.cell? ⟨a.sb i s, 5, none⟩ = some (.string x.accd.text) := kS.cell 5
  have s6 : W1.cell? ⟨a.sb i s, 6, none⟩ = some (.bool x.is) := kS.cell 6
  have s7 : W1.cell? ⟨a.sb i s, 7, none⟩ = some (.string x.text) := kS.cell 7
  have qs := fun j => kS.frozen j
  have hne : a.sb i s ≠ w.heap.size := Nat.ne_of_lt hsl
  by_cases his : x.is = true
  · have hpure : Hid (G.learn i s x m = G) := hid (by unfold Gr.learn; rw [if_pos his])
    have hfin : Hid (GGo S w g G W1) := hid ⟨S, ⟨_, _, _, _, _, hh.out⟩, fun _ h => .inl h, .of_below' hB _⟩
    clear kS kb
    rw [his] at s6
    clear his
    go_wp2_with fail
    go_end0
    exact ⟨rfl, by rw [hpure.out]; exact hfin.out⟩
  · have his0 : x.is = false := by simpa using his
    have hpure : Hid (G.learn i s x m = G.setSl i s { x with is := true, text := m.text }) := hid (by unfold Gr.learn; rw [if_neg his])
    rw [his0] at s6
    clear his
    have hu3 : ∀ u v, Upd (fun k => k = a.sb i s) W1 ((W1.setCell ⟨a.sb i s, 6, none⟩ u).setCell ⟨a.sb i s, 7, none⟩ v) := fun u v => ((Upd.refl (fun k => k = a.sb i s) W1).setCell (p := ⟨a.sb i s, 6, none⟩) (fun _ => rfl) u).setCell (p := ⟨a.sb i s, 7, none⟩) (fun _ => rfl) v
    have kS3 : Blk ((W1.setCell ⟨a.sb i s, 6, none⟩ (.bool true)).setCell ⟨a.sb i s, 7, none⟩ (.string m.text)) (a.sb i s) 74 (({ x with is := true, text := m.text } : Sl).cells (a.bb i s)) := (kS.set_ 6 (.bool true)).set_ 7 (.string m.text)
    have q3 : GAt S ((W1.setCell ⟨a.sb i s, 6, none⟩ (.bool true)).setCell ⟨a.sb i s, 7, none⟩ (.string m.text)) g (G.setSl i s { x with is := true, text := m.text }) := hh.out.put (x' := { x with is := true, text := m.text }) hi hx rfl (hu3 _ _) kS3
    have hfin : Hid (GGo S w g (G.setSl i s { x with is := true, text := m.text }) ((W1.setCell ⟨a.sb i s, 6, none⟩ (.bool true)).setCell ⟨a.sb i s, 7, none⟩ (.string m.text)).drew) := hid ⟨S, q3.below (Below.refl _ _).drew, fun _ h => .inl h, ((Upd.of_below' hB S).trans ((hu3 _ _).mono fun k _ h => h ▸ hSs) fun _ _ h => h).drew⟩
    clear kS kb hu3 kS3 q3 his0
    go_wp2_with fail
    go_region
    all_goals
      go_wp2_with fail
      go_end0
      exact ⟨rfl, by rw [hpure.out]; exact hfin.out⟩
end

end Go.Proofs.Ytbgopicpdpkccaa
