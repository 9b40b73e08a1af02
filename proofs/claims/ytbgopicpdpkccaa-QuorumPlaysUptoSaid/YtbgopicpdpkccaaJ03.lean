/- Texts of the proof, joined: GHand, GState, GAns. -/
import Derived.Test.YtbgopicpdpkccaaJ02
namespace Go.Proofs.Ytbgopicpdpkccaa
open Go.RowKit
set_option linter.unusedVariables false
set_option linter.unusedSimpArgs false

def maxI (a b : Int) : Int := if a < b then b else a
def Gr.prepare (G : Gr) (i : Nat) (s : Int) (x : Sl) (m : Ml) : Gr :=
  if 0 ≤ cmpB m.bal x.prom then (G.setSl i s { x with rd := maxI x.rd m.bal.rd, prom := m.bal }).send ⟨2, m.dst, m.bal.nd, m.slot, m.bal, x.accd.bal, x.accd.text⟩
  else G.setSl i s { x with rd := maxI x.rd m.bal.rd }
def Gr.accept (G : Gr) (i : Nat) (s : Int) (x : Sl) (m : Ml) : Gr :=
  if 0 ≤ cmpB m.bal x.prom then (G.setSl i s { x with rd := maxI x.rd m.bal.rd, prom := m.bal, accd := ⟨m.bal, m.text⟩ }).send ⟨4, m.dst, m.bal.nd, m.slot, m.bal, bal0, ⟨#[]⟩⟩
  else G.setSl i s { x with rd := maxI x.rd m.bal.rd }
def Gr.learn (G : Gr) (i : Nat) (s : Int) (x : Sl) (m : Ml) : Gr := if x.is then G else G.setSl i s { x with is := true, text := m.text }
section
variable {S : Nat → Prop} {w w' : World} {g : Nat} {An Am : Option Addr} {cn cm : Nat} {G : Gr} {a : Ad}
theorem GIn.put {i : Nat} {s : Int} {x x' : Sl} (h : GIn S w g An cn Am cm G a) (hi : i < G.nds.length) (hx : getA s (G.nd i).sl = some x) (hb : x'.bid = x.bid) (hu : Upd (fun k => k = a.sb i s) w w') (hk : Blk w' (a.sb i s) 74 (x'.cells (a.bb i s))) : GAt S w' g (G.setSl i s x') := by
  obtain ⟨y1, y2, y3⟩ := h.sl i hi (s, x) (getA_mem hx)
  refine ⟨_, _, _, _, _, h.slot (x' := x') (bb' := a.bb i s) (ab' := a.ab i s) hi hx hu (fun k hk => .inl hk) (fun _ => id) (fun k hk => Nat.lt_of_lt_of_le (h.lt k hk) hu.size) ⟨hk, y2, fun d hd => ?_⟩ fun hs => .inl ⟨by rw [← hb]; exact hs, rfl, .inl rfl⟩⟩
  obtain ⟨y4, y5, y6, y7, y8⟩ := y3 d (hb ▸ hd)
  exact ⟨y4.upd hu fun e => y4.ne_ y1 (by decide) e, y5, y6, y7.upd hu fun e => y7.ne_blk y1 e, y8⟩
set_option maxRecDepth 100000 in
set_option maxHeartbeats 2000000 in
theorem prepare_any (m : Ml) (x : Sl) (i : Nat) (s : Int) (h : GIn S w g An cn Am cm G a) (hi : i < G.nds.length) (hx : getA s (G.nd i).sl = some x) : Calls Try.prog 56 #[.pointer (some ⟨g, 0, none⟩), .pointer (some ⟨a.sb i s, 0, none⟩), .agg #[.int .i64 m.kind, .int .i64 m.fr, .int .i64 m.dst, .int .i64 m.slot, .int .i64 m.bal.rd, .int .i64 m.bal.nd, .int .i64 m.had.rd, .int .i64 m.had.nd, .string m.text]] w fun e w' => e = .returned (.tuple #[]) ∧ GGo S w g (G.prepare i s x m) w' := by
  have hB : Below w.heap.size w (w.alloc (.cells #[.int .i64 m.kind, .int .i64 m.fr, .int .i64 m.dst, .int .i64 m.slot, .int .i64 m.bal.rd, .int .i64 m.bal.nd, .int .i64 m.had.rd, .int .i64 m.had.nd, .string m.text] 78)) := (Below.refl _ _).alloc (Nat.le_refl _) _
  have kb := Blk.new w 78 #[.int .i64 m.kind, .int .i64 m.fr, .int .i64 m.dst, .int .i64 m.slot, .int .i64 m.bal.rd, .int .i64 m.bal.nd, .int .i64 m.had.rd, .int .i64 m.had.nd, .string m.text]
  have hSlt := h.lt
  have q := h.below hB
  obtain ⟨kS, hSs, _⟩ := q.sl i hi (s, x) (getA_mem hx)
  have hsl := hSlt _ hSs
  have hh := hid q
  clear q h
  go_enter Try.func56, Try.ntmps56
  go_upto_region 1 with fail
  generalize w.alloc (.cells #[.int .i64 m.kind, .int .i64 m.fr, .int .i64 m.dst, .int .i64 m.slot, .int .i64 m.bal.rd, .int .i64 m.bal.nd, .int .i64 m.had.rd, .int .i64 m.had.nd, .string m.text] 78) = W1 at *
  have e0 : W1.cell? ⟨w.heap.size, 0, none⟩ = some (.int .i64 m.kind) := kb.cell 0
  have e1 : W1.cell? ⟨w.heap.size, 1, none⟩ = some (.int .i64 m.fr) := kb.cell 1
  have e2 : W1.cell? ⟨w.heap.size, 2, none⟩ = some (.int .i64 m.dst) := kb.cell 2
  have e3 : W1.cell? ⟨w.heap.size, 3, none⟩ = some (.int .i64 m.slot) := kb.cell 3
  have e4 : W1.cell? ⟨w.heap.size, 4, none⟩ = some (.int .i64 m.bal.rd) := kb.cell 4
  have e5 : W1.cell? ⟨w.heap.size, 5, none⟩ = some (.int .i64 m.bal.nd) := kb.cell 5
  have e6 : W1.cell? ⟨w.heap.size, 6, none⟩ = some (.int .i64 m.had.rd) := kb.cell 6
  have e7 : W1.cell? ⟨w.heap.size, 7, none⟩ = some (.int .i64 m.had.nd) := kb.cell 7
  have e8 : W1.cell? ⟨w.heap.size, 8, none⟩ = some (.string m.text) := kb.cell 8
  have s0 : W1.cell? ⟨a.sb i s, 0, none⟩ = some (.int .i64 x.rd) := kS.cell 0
  have qs := fun j => kS.frozen j
  have hne : a.sb i s ≠ w.heap.size := Nat.ne_of_lt hsl
  go_cut [] (fun wx => Blk wx (a.sb i s) 74 (({ x with rd := maxI x.rd m.bal.rd } : Sl).cells (a.bb i s)) ∧ Upd (fun k => k = a.sb i s) W1 wx)
  case first =>
    have hu00 : ∀ v, Upd (fun k => k = a.sb i s) W1 (W1.setCell ⟨a.sb i s, 0, none⟩ v) := fun v => (Upd.refl (fun k => k = a.sb i s) W1).setCell (p := ⟨a.sb i s, 0, none⟩) (fun _ => rfl) v
    have hk00 : ∀ v, Blk (W1.setCell ⟨a.sb i s, 0, none⟩ v) (a.sb i s) 74 ((x.cells (a.bb i s)).setIfInBounds 0 v) := fun v => kS.set_ 0 v
    have hu0 := hid hu00
    have hk0 := hid hk00
    clear hu00 hk00
    by_cases hr : x.rd < m.bal.rd
    · have hmx0 : maxI x.rd m.bal.rd = m.bal.rd := by unfold maxI; rw [if_pos hr]
      have hmx := hid hmx0
      clear hmx0
      go_region
      all_goals
        go_wp2_with fail
        go_meet
        exact ⟨by rw [hmx.out]; exact hk0.out _, (hu0.out _).drew⟩
    · have hmx0 : maxI x.rd m.bal.rd = x.rd := by unfold maxI; rw [if_neg hr]
      have hmx := hid hmx0
      clear hmx0
      go_region
      all_goals
        go_wp2_with fail
        go_meet
        exact ⟨by rw [hmx.out]; exact hk0.out _, (hu0.out _).drew⟩
  case rest =>
    obtain ⟨kS1, hu1⟩ := hcut
    have kb1 := kb.upd hu1 (Ne.symm hne)
    clear kS kb qs s0 e0 e1 e2 e3 e4 e5 e6 e7 e8
    obtain ⟨x1, hx10⟩ : ∃ x1 : Sl, x1 = { x with rd := maxI x.rd m.bal.rd } := ⟨_, rfl⟩
    rw [← hx10] at kS1
    have hp10 : x1.prom = x.prom := by rw [hx10]
    have hx1 := hid hx10
    have hp1 := hid hp10
    clear hx10 hp10
    have e0 : wc.cell? ⟨w.heap.size, 0, none⟩ = some (.int .i64 m.kind) := kb1.cell 0
    have e1 : wc.cell? ⟨w.heap.size, 1, none⟩ = some (.int .i64 m.fr) := kb1.cell 1
    have e2 : wc.cell? ⟨w.heap.size, 2, none⟩ = some (.int .i64 m.dst) := kb1.cell 2
    have e3 : wc.cell? ⟨w.heap.size, 3, none⟩ = some (.int .i64 m.slot) := kb1.cell 3
    have e4 : wc.cell? ⟨w.heap.size, 4, none⟩ = some (.int .i64 m.bal.rd) := kb1.cell 4
    have e5 : wc.cell? ⟨w.heap.size, 5, none⟩ = some (.int .i64 m.bal.nd) := kb1.cell 5
    have e6 : wc.cell? ⟨w.heap.size, 6, none⟩ = some (.int .i64 m.had.rd) := kb1.cell 6
    have e7 : wc.cell? ⟨w.heap.size, 7, none⟩ = some (.int .i64 m.had.nd) := kb1.cell 7
    have e8 : wc.cell? ⟨w.heap.size, 8, none⟩ = some (.string m.text) := kb1.cell 8
    have s0 : wc.cell? ⟨a.sb i s, 0, none⟩ = some (.int .i64 x1.rd) := kS1.cell 0
    have s1 : wc.cell? ⟨a.sb i s, 1, none⟩ = some (.int .i64 x1.prom.rd) := kS1.cell 1
    have s2 : wc.cell? ⟨a.sb i s, 2, none⟩ = some (.int .i64 x1.prom.nd) := kS1.cell 2
    have s3 : wc.cell? ⟨a.sb i s, 3, none⟩ = some (.int .i64 x1.accd.bal.rd) := kS1.cell 3
    have s4 : wc.cell? ⟨a.sb i s, 4, none⟩ = some (.int .i64 x1.accd.bal.nd) := kS1.cell 4
    have s5 : wc.cell? ⟨a.sb i s, 5, none⟩ = some (.string x1.accd.text) := kS1.cell 5
    have s6 : wc.cell? ⟨a.sb i s, 6, none⟩ = some (.bool x1.is) := kS1.cell 6
    have s7 : wc.cell? ⟨a.sb i s, 7, none⟩ = some (.string x1.text) := kS1.cell 7
    have hsz1 := hu1.size
    go_wp2_with fail
    go_still_tail 6, (by kernel_rfl)
    change wpList _ _ _ _ _ wc.drew
    go_wp2_with fail
    refine (compare_any m.bal x1.prom wc.drew).mono ?_
    rintro e w2 ⟨rfl, hbd⟩
    have hb2 : Below wc.heap.size wc w2 := ((Below.refl _ wc).drew).trans hbd
    have hu2 := hu1.trans (Upd.of_below' hb2 _) fun _ _ h => h
    have kS2 := kS1.below_all hb2
    have kb2 := kb1.below_all hb2
    clear hbd hb2 kS1 kb1 hu1 s0 s1 s2 s3 s4 s5 s6 s7 e0 e1 e2 e3 e4 e5 e6 e7 e8
    by_cases hc : 0 ≤ cmpB m.bal x1.prom
    rotate_left
    · have t1 : decide (0 ≤ cmpB m.bal x1.prom) = false := decide_eq_false hc
      have hfin : Hid (GGo S w g (G.setSl i s { x with rd := maxI x.rd m.bal.rd }) w2) := hid ⟨S, hh.out.put (x' := { x with rd := maxI x.rd m.bal.rd }) hi hx rfl hu2 (by rw [← hx1.out]; exact kS2), fun _ h => .inl h, (Upd.of_below' hB _).trans hu2 fun k _ h => h ▸ hSs⟩
      have hcn := hid hc
      clear kS2 kb2 hc
      go_wp2_with fail
      go_end0
      refine ⟨rfl, ?_⟩
      unfold Gr.prepare
      rw [if_neg (by rw [← hp1.out]; have := hcn.out; omega)]
      exact hfin.out
    have t1 : decide (0 ≤ cmpB m.bal x1.prom) = true := decide_eq_true hc
    have hcy := hid hc
    clear hc
    have e0 : w2.cell? ⟨w.heap.size, 0, none⟩ = some (.int .i64 m.kind) := kb2.cell 0
    have e1 : w2.cell? ⟨w.heap.size, 1, none⟩ = some (.int .i64 m.fr) := kb2.cell 1
    have e2 : w2.cell? ⟨w.heap.size, 2, none⟩ = some (.int .i64 m.dst) := kb2.cell 2
    have e3 : w2.cell? ⟨w.heap.size, 3, none⟩ = some (.int .i64 m.slot) := kb2.cell 3
    have e4 : w2.cell? ⟨w.heap.size, 4, none⟩ = some (.int .i64 m.bal.rd) := kb2.cell 4
    have e5 : w2.cell? ⟨w.heap.size, 5, none⟩ = some (.int .i64 m.bal.nd) := kb2.cell 5
    have e6 : w2.cell? ⟨w.heap.size, 6, none⟩ = some (.int .i64 m.had.rd) := kb2.cell 6
    have e7 : w2.cell? ⟨w.heap.size, 7, none⟩ = some (.int .i64 m.had.nd) := kb2.cell 7
    have e8 : w2.cell? ⟨w.heap.size, 8, none⟩ = some (.string m.text) := kb2.cell 8
    have s0 : w2.cell? ⟨a.sb i s, 0, none⟩ = some (.int .i64 x1.rd) := kS2.cell 0
    have s1 : w2.cell? ⟨a.sb i s, 1, none⟩ = some (.int .i64 x1.prom.rd) := kS2.cell 1
    have s2 : w2.cell? ⟨a.sb i s, 2, none⟩ = some (.int .i64 x1.prom.nd) := kS2.cell 2
    have s3 : w2.cell? ⟨a.sb i s, 3, none⟩ = some (.int .i64 x1.accd.bal.rd) := kS2.cell 3
    have s4 : w2.cell? ⟨a.sb i s, 4, none⟩ = some (.int .i64 x1.accd.bal.nd) := kS2.cell 4
    have s5 : w2.cell? ⟨a.sb i s, 5, none⟩ = some (.string x1.accd.text) := kS2.cell 5
    have s6 : w2.cell? ⟨a.sb i s, 6, none⟩ = some (.bool x1.is) := kS2.cell 6
    have s7 : w2.cell? ⟨a.sb i s, 7, none⟩ = some (.string x1.text) := kS2.cell 7
    have qs := fun j => kS2.frozen j
    have hu3 : Upd (fun k => k = a.sb i s) W1 ((w2.setCell ⟨a.sb i s, 1, none⟩ (.int .i64 m.bal.rd)).setCell ⟨a.sb i s, 2, none⟩ (.int .i64 m.bal.nd)) := (hu2.setCell (p := ⟨a.sb i s, 1, none⟩) (fun _ => rfl) _).setCell (p := ⟨a.sb i s, 2, none⟩) (fun _ => rfl) _
    have kS3 : Blk ((w2.setCell ⟨a.sb i s, 1, none⟩ (.int .i64 m.bal.rd)).setCell ⟨a.sb i s, 2, none⟩ (.int .i64 m.bal.nd)) (a.sb i s) 74 (({ x1 with prom := m.bal } : Sl).cells (a.bb i s)) := (kS2.set_ 1 (.int .i64 m.bal.rd)).set_ 2 (.int .i64 m.bal.nd)
    have kb3 := (kb2.far (p := ⟨a.sb i s, 1, none⟩) (Ne.symm hne) (.int .i64 m.bal.rd)).far (p := ⟨a.sb i s, 2, none⟩) (Ne.symm hne) (.int .i64 m.bal.nd)
    go_upto_region 4 with fail
    generalize (w2.setCell ⟨a.sb i s, 1, none⟩ (.int .i64 m.bal.rd)).setCell ⟨a.sb i s, 2, none⟩ (.int .i64 m.bal.nd) = w3 at *
    clear hu2 kS2 kb2 qs s0 s1 s2 s3 s4 s5 s6 s7 e0 e1 e2 e3 e4 e5 e6 e7 e8
    have e0 : w3.cell? ⟨w.heap.size, 0, none⟩ = some (.int .i64 m.kind) := kb3.cell 0
    have e1 : w3.cell? ⟨w.heap.size, 1, none⟩ = some (.int .i64 m.fr) := kb3.cell 1
    have e2 : w3.cell? ⟨w.heap.size, 2, none⟩ = some (.int .i64 m.dst) := kb3.cell 2
    have e3 : w3.cell? ⟨w.heap.size, 3, none⟩ = some (.int .i64 m.slot) := kb3.cell 3
    have e4 : w3.cell? ⟨w.heap.size, 4, none⟩ = some (.int .i64 m.bal.rd) := kb3.cell 4
    have e5 : w3.cell? ⟨w.heap.size, 5, none⟩ = some (.int .i64 m.bal.nd) := kb3.cell 5
    have e6 : w3.cell? ⟨w.heap.size, 6, none⟩ = some (.int .i64 m.had.rd) := kb3.cell 6
    have e7 : w3.cell? ⟨w.heap.size, 7, none⟩ = some (.int .i64 m.had.nd) := kb3.cell 7
    have e8 : w3.cell? ⟨w.heap.size, 8, none⟩ = some (.string m.text) := kb3.cell 8
    have s3 : w3.cell? ⟨a.sb i s, 3, none⟩ = some (.int .i64 x1.accd.bal.rd) := kS3.cell 3
    have s4 : w3.cell? ⟨a.sb i s, 4, none⟩ = some (.int .i64 x1.accd.bal.nd) := kS3.cell 4
    have s5 : w3.cell? ⟨a.sb i s, 5, none⟩ = some (.string x1.accd.text) := kS3.cell 5
    have q3 : GAt S w3 g (G.setSl i s { x1 with prom := m.bal }) := hh.out.put (x' := { x1 with prom := m.bal }) hi hx (by rw [hx1.out]) hu3 kS3
    go_still_tail 21, (by kernel_rfl)
    change wpList _ _ _ _ _ w3.drew
    go_wp2_with fail
    refine (send_any ⟨2, m.dst, m.bal.nd, m.slot, m.bal, x1.accd.bal, x1.accd.text⟩ (q3.below (Below.refl _ w3).drew)).mono ?_
    rintro e w4 ⟨rfl, S4, h4, hS4, hu4⟩
    have hS4 : ∀ k, S4 k → S k ∨ w3.heap.size ≤ k := hS4
    have hu4 : Upd S w3 w4 := (Upd.of_below' (Below.refl _ w3).drew S).trans hu4 fun _ _ h => h
    go_wp2_with fail
    go_end0
    refine ⟨rfl, ?_⟩
    unfold Gr.prepare
    rw [if_pos (by rw [← hp1.out]; exact hcy.out)]
    refine ⟨S4, ?_, fun k hk => ?_, ?_⟩
    · rw [hx1.out] at h4
      exact h4
    · rcases hS4 k hk with h | h
      · exact .inl h
      · have := hu3.size; have := hB.size; exact .inr (by omega)
    · exact ((Upd.of_below' hB S).trans (hu3.mono (M' := S) fun k _ h => h ▸ hSs) fun _ _ h => h).trans hu4 fun _ _ h => h
set_option maxRecDepth 100000 in
set_option maxHeartbeats 2000000 in
theorem accept_any (m : Ml) (x : Sl) (i : Nat) (s : Int) (h : GIn S w g An cn Am cm G a) (hi : i < G.nds.length) (hx : getA s (G.nd i).sl = some x) : Calls Try.prog 58 #[.pointer (some ⟨g, 0, none⟩), .pointer (some ⟨a.sb i s, 0, none⟩), .agg #[.int .i64 m.kind, .int .i64 m.fr, .int .i64 m.dst, .int .i64 m.slot, .int .i64 m.bal.rd, .int .i64 m.bal.nd, .int .i64 m.had.rd, .int .i64 m.had.nd, .string m.text]] w fun e w' => e = .returned (.tuple #[]) ∧ GGo S w g (G.accept i s x m) w' := by
  have hB : Below w.heap.size w (w.alloc (.cells #[.int .i64 m.kind, .int .i64 m.fr, .int .i64 m.dst, .int .i64 m.slot, .int .i64 m.bal.rd, .int .i64 m.bal.nd, .int .i64 m.had.rd, .int .i64 m.had.nd, .string m.text] 78)) := (Below.refl _ _).alloc (Nat.le_refl _) _
  have kb := Blk.new w 78 #[.int .i64 m.kind, .int .i64 m.fr, .int .i64 m.dst, .int .i64 m.slot, .int .i64 m.bal.rd, .int .i64 m.bal.nd, .int .i64 m.had.rd, .int .i64 m.had.nd, .string m.text]
  have hSlt := h.lt
  have q := h.below hB
  obtain ⟨kS, hSs, _⟩ := q.sl i hi (s, x) (getA_mem hx)
  have hsl := hSlt _ hSs
  have hh := hid q
  clear q h
  go_enter Try.func58, Try.ntmps58
  go_upto_region 1 with fail
  generalize w.alloc (.cells #[.int .i64 m.kind, .int .i64 m.fr, .int .i64 m.dst, .int .i64 m.slot, .int .i64 m.bal.rd, .int .i64 m.bal.nd, .int .i64 m.had.rd, .int .i64 m.had.nd, .string m.text] 78) = W1 at *
  have e0 : W1.cell? ⟨w.heap.size, 0, none⟩ = some (.int .i64 m.kind) := kb.cell 0
  have e1 : W1.cell? ⟨w.heap.size, 1, none⟩ = some (.int .i64 m.fr) := kb.cell 1
  have e2 : W1.cell? ⟨w.heap.size, 2, none⟩ = some (.int .i64 m.dst) := kb.cell 2
  have e3 : W1.cell? ⟨w.heap.size, 3, none⟩ = some (.int .i64 m.slot) := kb.cell 3
  have e4 : W1.cell? ⟨w.heap.size, 4, none⟩ = some (.int .i64 m.bal.rd) := kb.cell 4
  have e5 : W1.cell? ⟨w.heap.size, 5, none⟩ = some (.int .i64 m.bal.nd) := kb.cell 5
  have e6 : W1.cell? ⟨w.heap.size, 6, none⟩ = some (.int .i64 m.had.rd) := kb.cell 6
  have e7 : W1.cell? ⟨w.heap.size, 7, none⟩ = some (.int .i64 m.had.nd) := kb.cell 7
  have e8 : W1.cell? ⟨w.heap.size, 8, none⟩ = some (.string m.text) := kb.cell 8
  have s0 : W1.cell? ⟨a.sb i s, 0, none⟩ = some (.int .i64 x.rd) := kS.cell 0
  have qs := fun j => kS.frozen j
  have hne : a.sb i s ≠ w.heap.size := Nat.ne_of_lt hsl
  go_cut [] (fun wx => Blk wx (a.sb i s) 74 (({ x with rd := maxI x.rd m.bal.rd } : Sl).cells (a.bb i s)) ∧ Upd (fun k => k = a.sb i s) W1 wx)
  case first =>
    have hu00 : ∀ v, Upd (fun k => k = a.sb i s) W1 (W1.setCell ⟨a.sb i s, 0, none⟩ v) := fun v => (Upd.refl (fun k => k = a.sb i s) W1).setCell (p := ⟨a.sb i s, 0, none⟩) (fun _ => rfl) v
    have hk00 : ∀ v, Blk (W1.setCell ⟨a.sb i s, 0, none⟩ v) (a.sb i s) 74 ((x.cells (a.bb i s)).setIfInBounds 0 v) := fun v => kS.set_ 0 v
    have hu0 := hid hu00
    have hk0 := hid hk00
    clear hu00 hk00
    by_cases hr : x.rd < m.bal.rd
    · have hmx0 : maxI x.rd m.bal.rd = m.bal.rd := by unfold maxI; rw [if_pos hr]
      have hmx := hid hmx0
      clear hmx0
      go_region
      all_goals
        go_wp2_with fail
        go_meet
        exact ⟨by rw [hmx.out]; exact hk0.out _, (hu0.out _).drew⟩
    · have hmx0 : maxI x.rd m.bal.rd = x.rd := by unfold maxI; rw [if_neg hr]
      have hmx := hid hmx0
      clear hmx0
      go_region
      all_goals
        go_wp2_with fail
        go_meet
        exact ⟨by rw [hmx.out]; exact hk0.out _, (hu0.out _).drew⟩
  case rest =>
    obtain ⟨kS1, hu1⟩ := hcut
    have kb1 := kb.upd hu1 (Ne.symm hne)
    clear kS kb qs s0 e0 e1 e2 e3 e4 e5 e6 e7 e8
    obtain ⟨x1, hx10⟩ : ∃ x1 : Sl, x1 = { x with rd := maxI x.rd m.bal.rd } := ⟨_, rfl⟩
    rw [← hx10] at kS1
    have hp10 : x1.prom = x.prom := by rw [hx10]
    have hx1 := hid hx10
    have hp1 := hid hp10
    clear hx10 hp10
    have e0 : wc.cell? ⟨w.heap.size, 0, none⟩ = some (.int .i64 m.kind) := kb1.cell 0
    have e1 : wc.cell? ⟨w.heap.size, 1, none⟩ = some (.int .i64 m.fr) := kb1.cell 1
    have e2 : wc.cell? ⟨w.heap.size, 2, none⟩ = some (.int .i64 m.dst) := kb1.cell 2
    have e3 : wc.cell? ⟨w.heap.size, 3, none⟩ = some (.int .i64 m.slot) := kb1.cell 3
    have e4 : wc.cell? ⟨w.heap.size, 4, none⟩ = some (.int .i64 m.bal.rd) := kb1.cell 4
    have e5 : wc.cell? ⟨w.heap.size, 5, none⟩ = some (.int .i64 m.bal.nd) := kb1.cell 5
    have e6 : wc.cell? ⟨w.heap.size, 6, none⟩ = some (.int .i64 m.had.rd) := kb1.cell 6
    have e7 : wc.cell? ⟨w.heap.size, 7, none⟩ = some (.int .i64 m.had.nd) := kb1.cell 7
    have e8 : wc.cell? ⟨w.heap.size, 8, none⟩ = some (.string m.text) := kb1.cell 8
    have s0 : wc.cell? ⟨a.sb i s, 0, none⟩ = some (.int .i64 x1.rd) := kS1.cell 0
    have s1 : wc.cell? ⟨a.sb i s, 1, none⟩ = some (.int .i64 x1.prom.rd) := kS1.cell 1
    have s2 : wc.cell? ⟨a.sb i s, 2, none⟩ = some (.int .i64 x1.prom.nd) := kS1.cell 2
    have s3 : wc.cell? ⟨a.sb i s, 3, none⟩ = some (.int .i64 x1.accd.bal.rd) := kS1.cell 3
    have s4 : wc.cell? ⟨a.sb i s, 4, none⟩ = some (.int .i64 x1.accd.bal.nd) := kS1.cell 4
    have s5 : wc.cell? ⟨a.sb i s, 5, none⟩ = some (.string x1.accd.text) := kS1.cell 5
    have s6 : wc.cell? ⟨a.sb i s, 6, none⟩ = some (.bool x1.is) := kS1.cell 6
    have s7 : wc.cell? ⟨a.sb i s, 7, none⟩ = some (.string x1.text) := kS1.cell 7
    have hsz1 := hu1.size
    go_wp2_with fail
    go_still_tail 6, (by kernel_rfl)
    change wpList _ _ _ _ _ wc.drew
    go_wp2_with fail
    refine (compare_any m.bal x1.prom wc.drew).mono ?_
    rintro e w2 ⟨rfl, hbd⟩
    have hb2 : Below wc.heap.size wc w2 := ((Below.refl _ wc).drew).trans hbd
    have hu2 := hu1.trans (Upd.of_below' hb2 _) fun _ _ h => h
    have kS2 := kS1.below_all hb2
    have kb2 := kb1.below_all hb2
    clear hbd hb2 kS1 kb1 hu1 s0 s1 s2 s3 s4 s5 s6 s7 e0 e1 e2 e3 e4 e5 e6 e7 e8
    by_cases hc : 0 ≤ cmpB m.bal x1.prom
    rotate_left
    · have t1 : decide (0 ≤ cmpB m.bal x1.prom) = false := decide_eq_false hc
      have hfin : Hid (GGo S w g (G.setSl i s { x with rd := maxI x.rd m.bal.rd }) w2) := hid ⟨S, hh.out.put (x' := { x with rd := maxI x.rd m.bal.rd }) hi hx rfl hu2 (by rw [← hx1.out]; exact kS2), fun _ h => .inl h, (Upd.of_below' hB _).trans hu2 fun k _ h => h ▸ hSs⟩
      have hcn := hid hc
      clear kS2 kb2 hc
      go_wp2_with fail
      go_end0
      refine ⟨rfl, ?_⟩
      unfold Gr.accept
      rw [if_neg (by rw [← hp1.out]; have := hcn.out; omega)]
      exact hfin.out
    have t1 : decide (0 ≤ cmpB m.bal x1.prom) = true := decide_eq_true hc
    have hcy := hid hc
    clear hc
    have e0 : w2.cell? ⟨w.heap.size, 0, none⟩ = some (.int .i64 m.kind) := kb2.cell 0
    have e1 : w2.cell? ⟨w.heap.size, 1, none⟩ = some (.int .i64 m.fr) := kb2.cell 1
    have e2 : w2.cell? ⟨w.heap.size, 2, none⟩ = some (.int .i64 m.dst) := kb2.cell 2
    have e3 : w2.cell? ⟨w.heap.size, 3, none⟩ = some (.int .i64 m.slot) := kb2.cell 3
    have e4 : w2.cell? ⟨w.heap.size, 4, none⟩ = some (.int .i64 m.bal.rd) := kb2.cell 4
    have e5 : w2.cell? ⟨w.heap.size, 5, none⟩ = some (.int .i64 m.bal.nd) := kb2.cell 5
    have e6 : w2.cell? ⟨w.heap.size, 6, none⟩ = some (.int .i64 m.had.rd) := kb2.cell 6
    have e7 : w2.cell? ⟨w.heap.size, 7, none⟩ = some (.int .i64 m.had.nd) := kb2.cell 7
    have e8 : w2.cell? ⟨w.heap.size, 8, none⟩ = some (.string m.text) := kb2.cell 8
    have s0 : w2.cell? ⟨a.sb i s, 0, none⟩ = some (.int .i64 x1.rd) := kS2.cell 0
    have s1 : w2.cell? ⟨a.sb i s, 1, none⟩ = some (.int .i64 x1.prom.rd) := kS2.cell 1
    have s2 : w2.cell? ⟨a.sb i s, 2, none⟩ = some (.int .i64 x1.prom.nd) := kS2.cell 2
    have s3 : w2.cell? ⟨a.sb i s, 3, none⟩ = some (.int .i64 x1.accd.bal.rd) := kS2.cell 3
    have s4 : w2.cell? ⟨a.sb i s, 4, none⟩ = some (.int .i64 x1.accd.bal.nd) := kS2.cell 4
    have s5 : w2.cell? ⟨a.sb i s, 5, none⟩ = some (.string x1.accd.text) := kS2.cell 5
    have s6 : w2.cell? ⟨a.sb i s, 6, none⟩ = some (.bool x1.is) := kS2.cell 6
    have s7 : w2.cell? ⟨a.sb i s, 7, none⟩ = some (.string x1.text) := kS2.cell 7
    have qs := fun j => kS2.frozen j
    have hu3 : Upd (fun k => k = a.sb i s) W1 (((((w2.setCell ⟨a.sb i s, 1, none⟩ (.int .i64 m.bal.rd)).setCell ⟨a.sb i s, 2, none⟩ (.int .i64 m.bal.nd)).setCell ⟨a.sb i s, 3, none⟩ (.int .i64 m.bal.rd)).setCell ⟨a.sb i s, 4, none⟩ (.int .i64 m.bal.nd)).setCell ⟨a.sb i s, 5, none⟩ (.string m.text)) := (((((hu2.setCell (p := ⟨a.sb i s, 1, none⟩) (fun _ => rfl) _).setCell (p := ⟨a.sb i s, 2, none⟩) (fun _ => rfl) _).setCell (p := ⟨a.sb i s, 3, none⟩) (fun _ => rfl) _).setCell (p := ⟨a.sb i s, 4, none⟩) (fun _ => rfl) _).setCell (p := ⟨a.sb i s, 5, none⟩) (fun _ => rfl) _)
    have kS3 : Blk (((((w2.setCell ⟨a.sb i s, 1, none⟩ (.int .i64 m.bal.rd)).setCell ⟨a.sb i s, 2, none⟩ (.int .i64 m.bal.nd)).setCell ⟨a.sb i s, 3, none⟩ (.int .i64 m.bal.rd)).setCell ⟨a.sb i s, 4, none⟩ (.int .i64 m.bal.nd)).setCell ⟨a.sb i s, 5, none⟩ (.string m.text)) (a.sb i s) 74 (({ x1 with prom := m.bal, accd := ⟨m.bal, m.text⟩ } : Sl).cells (a.bb i s)) := (((((kS2.set_ 1 (.int .i64 m.bal.rd)).set_ 2 (.int .i64 m.bal.nd)).set_ 3 (.int .i64 m.bal.rd)).set_ 4 (.int .i64 m.bal.nd)).set_ 5 (.string m.text))
    have kb3 := (((((kb2.far (p := ⟨a.sb i s, 1, none⟩) (Ne.symm hne) (.int .i64 m.bal.rd)).far (p := ⟨a.sb i s, 2, none⟩) (Ne.symm hne) (.int .i64 m.bal.nd)).far (p := ⟨a.sb i s, 3, none⟩) (Ne.symm hne) (.int .i64 m.bal.rd)).far (p := ⟨a.sb i s, 4, none⟩) (Ne.symm hne) (.int .i64 m.bal.nd)).far (p := ⟨a.sb i s, 5, none⟩) (Ne.symm hne) (.string m.text))
    go_upto_region 5 with fail
    generalize (((((w2.setCell ⟨a.sb i s, 1, none⟩ (.int .i64 m.bal.rd)).setCell ⟨a.sb i s, 2, none⟩ (.int .i64 m.bal.nd)).setCell ⟨a.sb i s, 3, none⟩ (.int .i64 m.bal.rd)).setCell ⟨a.sb i s, 4, none⟩ (.int .i64 m.bal.nd)).setCell ⟨a.sb i s, 5, none⟩ (.string m.text)) = w3 at *
    clear hu2 kS2 kb2 qs s0 s1 s2 s3 s4 s5 s6 s7 e0 e1 e2 e3 e4 e5 e6 e7 e8
    have e0 : w3.cell? ⟨w.heap.size, 0, none⟩ = some (.int .i64 m.kind) := kb3.cell 0
    have e1 : w3.cell? ⟨w.heap.size, 1, none⟩ = some (.int .i64 m.fr) := kb3.cell 1
    have e2 : w3.cell? ⟨w.heap.size, 2, none⟩ = some (.int .i64 m.dst) := kb3.cell 2
    have e3 : w3.cell? ⟨w.heap.size, 3, none⟩ = some (.int .i64 m.slot) := kb3.cell 3
    have e4 : w3.cell? ⟨w.heap.size, 4, none⟩ = some (.int .i64 m.bal.rd) := kb3.cell 4
    have e5 : w3.cell? ⟨w.heap.size, 5, none⟩ = some (.int .i64 m.bal.nd) := kb3.cell 5
    have e6 : w3.cell? ⟨w.heap.size, 6, none⟩ = some (.int .i64 m.had.rd) := kb3.cell 6
    have e7 : w3.cell? ⟨w.heap.size, 7, none⟩ = some (.int .i64 m.had.nd) := kb3.cell 7
    have e8 : w3.cell? ⟨w.heap.size, 8, none⟩ = some (.string m.text) := kb3.cell 8
    have q3 : GAt S w3 g (G.setSl i s { x1 with prom := m.bal, accd := ⟨m.bal, m.text⟩ }) := hh.out.put (x' := { x1 with prom := m.bal, accd := ⟨m.bal, m.text⟩ }) hi hx (by rw [hx1.out]) hu3 kS3
    go_wp2_with fail
    refine (send_any ⟨4, m.dst, m.bal.nd, m.slot, m.bal, bal0, ⟨#[]⟩⟩ q3).mono ?_
    rintro e w4 ⟨rfl, S4, h4, hS4, hu4⟩
    go_wp2_with fail
    go_end0
    refine ⟨rfl, ?_⟩
    unfold Gr.accept
    rw [if_pos (by rw [← hp1.out]; exact hcy.out)]
    refine ⟨S4, ?_, fun k hk => ?_, ?_⟩
    · rw [hx1.out] at h4
      exact h4
    · rcases hS4 k hk with h | h
      · exact .inl h
      · have := hu3.size; have := hB.size; exact .inr (by omega)
    · exact ((Upd.of_below' hB S).trans (hu3.mono (M' := S) fun k _ h => h ▸ hSs) fun _ _ h => h).trans hu4 fun _ _ h => h
set_option maxRecDepth 100000 in
set_option maxHeartbeats 2000000 in
theorem learn_any (m : Ml) (x : Sl) (i : Nat) (s : Int) (h : GIn S w g An cn Am cm G a) (hi : i < G.nds.length) (hx : getA s (G.nd i).sl = some x) : Calls Try.prog 60 #[.pointer (some ⟨g, 0, none⟩), .pointer (some ⟨a.sb i s, 0, none⟩), .agg #[.int .i64 m.kind, .int .i64 m.fr, .int .i64 m.dst, .int .i64 m.slot, .int .i64 m.bal.rd, .int .i64 m.bal.nd, .int .i64 m.had.rd, .int .i64 m.had.nd, .string m.text]] w fun e w' => e = .returned (.tuple #[]) ∧ GGo S w g (G.learn i s x m) w' := by
  have hB : Below w.heap.size w (w.alloc (.cells #[.int .i64 m.kind, .int .i64 m.fr, .int .i64 m.dst, .int .i64 m.slot, .int .i64 m.bal.rd, .int .i64 m.bal.nd, .int .i64 m.had.rd, .int .i64 m.had.nd, .string m.text] 78)) := (Below.refl _ _).alloc (Nat.le_refl _) _
  have kb := Blk.new w 78 #[.int .i64 m.kind, .int .i64 m.fr, .int .i64 m.dst, .int .i64 m.slot, .int .i64 m.bal.rd, .int .i64 m.bal.nd, .int .i64 m.had.rd, .int .i64 m.had.nd, .string m.text]
  have hSlt := h.lt
  have q := h.below hB
  obtain ⟨kS, hSs, _⟩ := q.sl i hi (s, x) (getA_mem hx)
  have hsl := hSlt _ hSs
  have hh := hid q
  clear q h
  go_enter Try.func60, Try.ntmps60
  go_upto_region 1 with fail
  generalize w.alloc (.cells #[.int .i64 m.kind, .int .i64 m.fr, .int .i64 m.dst, .int .i64 m.slot, .int .i64 m.bal.rd, .int .i64 m.bal.nd, .int .i64 m.had.rd, .int .i64 m.had.nd, .string m.text] 78) = W1 at *
  have e0 : W1.cell? ⟨w.heap.size, 0, none⟩ = some (.int .i64 m.kind) := kb.cell 0
  have e1 : W1.cell? ⟨w.heap.size, 1, none⟩ = some (.int .i64 m.fr) := kb.cell 1
  have e2 : W1.cell? ⟨w.heap.size, 2, none⟩ = some (.int .i64 m.dst) := kb.cell 2
  have e3 : W1.cell? ⟨w.heap.size, 3, none⟩ = some (.int .i64 m.slot) := kb.cell 3
  have e4 : W1.cell? ⟨w.heap.size, 4, none⟩ = some (.int .i64 m.bal.rd) := kb.cell 4
  have e5 : W1.cell? ⟨w.heap.size, 5, none⟩ = some (.int .i64 m.bal.nd) := kb.cell 5
  have e6 : W1.cell? ⟨w.heap.size, 6, none⟩ = some (.int .i64 m.had.rd) := kb.cell 6
  have e7 : W1.cell? ⟨w.heap.size, 7, none⟩ = some (.int .i64 m.had.nd) := kb.cell 7
  have e8 : W1.cell? ⟨w.heap.size, 8, none⟩ = some (.string m.text) := kb.cell 8
  have s0 : W1.cell? ⟨a.sb i s, 0, none⟩ = some (.int .i64 x.rd) := kS.cell 0
  have s1 : W1.cell? ⟨a.sb i s, 1, none⟩ = some (.int .i64 x.prom.rd) := kS.cell 1
  have s2 : W1.cell? ⟨a.sb i s, 2, none⟩ = some (.int .i64 x.prom.nd) := kS.cell 2
  have s3 : W1.cell? ⟨a.sb i s, 3, none⟩ = some (.int .i64 x.accd.bal.rd) := kS.cell 3
  have s4 : W1.cell? ⟨a.sb i s, 4, none⟩ = some (.int .i64 x.accd.bal.nd) := kS.cell 4
  have s5 : W1.cell? ⟨a.sb i s, 5, none⟩ = some (.string x.accd.text) := kS.cell 5
  have s6 : W1.cell? ⟨a.sb i s, 6, none⟩ = some (.bool x.is) := kS.cell 6
  have s7 : W1.cell? ⟨a.sb i s, 7, none⟩ = some (.string x.text) := kS.cell 7
  have qs := fun j => kS.frozen j
  have hne : a.sb i s ≠ w.heap.size := Nat.ne_of_lt hsl
  by_cases his : x.is = true
  · have hpure : Hid (G.learn i s x m = G) := hid (by unfold Gr.learn; rw [if_pos his])
    have hfin : Hid (GGo S w g G W1) := hid ⟨S, ⟨_, _, _, _, _, hh.out⟩, fun _ h => .inl h, .of_below' hB _⟩
    clear kS kb
    rw [his] at s6
    clear his
    go_wp2_with fail
    go_end0
    exact ⟨rfl, by rw [hpure.out]; exact hfin.out⟩
  · have his0 : x.is = false := by simpa using his
    have hpure : Hid (G.learn i s x m = G.setSl i s { x with is := true, text := m.text }) := hid (by unfold Gr.learn; rw [if_neg his])
    rw [his0] at s6
    clear his
    have hu3 : ∀ u v, Upd (fun k => k = a.sb i s) W1 ((W1.setCell ⟨a.sb i s, 6, none⟩ u).setCell ⟨a.sb i s, 7, none⟩ v) := fun u v => ((Upd.refl (fun k => k = a.sb i s) W1).setCell (p := ⟨a.sb i s, 6, none⟩) (fun _ => rfl) u).setCell (p := ⟨a.sb i s, 7, none⟩) (fun _ => rfl) v
    have kS3 : Blk ((W1.setCell ⟨a.sb i s, 6, none⟩ (.bool true)).setCell ⟨a.sb i s, 7, none⟩ (.string m.text)) (a.sb i s) 74 (({ x with is := true, text := m.text } : Sl).cells (a.bb i s)) := (kS.set_ 6 (.bool true)).set_ 7 (.string m.text)
    have q3 : GAt S ((W1.setCell ⟨a.sb i s, 6, none⟩ (.bool true)).setCell ⟨a.sb i s, 7, none⟩ (.string m.text)) g (G.setSl i s { x with is := true, text := m.text }) := hh.out.put (x' := { x with is := true, text := m.text }) hi hx rfl (hu3 _ _) kS3
    have hfin : Hid (GGo S w g (G.setSl i s { x with is := true, text := m.text }) ((W1.setCell ⟨a.sb i s, 6, none⟩ (.bool true)).setCell ⟨a.sb i s, 7, none⟩ (.string m.text)).drew) := hid ⟨S, q3.below (Below.refl _ _).drew, fun _ h => .inl h, ((Upd.of_below' hB S).trans ((hu3 _ _).mono fun k _ h => h ▸ hSs) fun _ _ h => h).drew⟩
    clear kS kb hu3 kS3 q3 his0
    go_wp2_with fail
    go_region
    all_goals
      go_wp2_with fail
      go_end0
      exact ⟨rfl, by rw [hpure.out]; exact hfin.out⟩
end

end Go.Proofs.Ytbgopicpdpkccaa

namespace Go.Proofs.Ytbgopicpdpkccaa
open Go.RowKit
set_option linter.unusedVariables false
set_option linter.unusedSimpArgs false

/-- what a node has of a slot -/
def Gr.st (G : Gr) (n s : Int) : Sl := if 0 ≤ n ∧ n < G.nds.length then G.at_ n.toNat s else sl0
section
variable {S : Nat → Prop} {w w' : World} {g : Nat} {G : Gr}
set_option maxRecDepth 100000 in
set_option maxHeartbeats 2000000 in
theorem state_any (n s : Int) (h : GAt S w g G) : Calls Try.prog 36 #[.pointer (some ⟨g, 0, none⟩), .int .i64 n, .int .i64 s] w
    fun e w' => ∃ bp, e = .returned (.agg #[.int .i64 (G.st n s).rd, .int .i64 (G.st n s).prom.rd, .int .i64 (G.st n s).prom.nd, .int .i64 (G.st n s).accd.bal.rd, .int .i64 (G.st n s).accd.bal.nd, .string (G.st n s).accd.text, .bool (G.st n s).is, .string (G.st n s).text, .pointer bp]) ∧ Below w.heap.size w w' := by
  have hB0 : Below w.heap.size w (w.alloc (.cells #[.int .i64 0, .int .i64 0, .int .i64 0, .int .i64 0, .int .i64 0, .string ⟨#[]⟩, .bool false, .string ⟨#[]⟩, .pointer none] 74)) := (Below.refl _ _).alloc (Nat.le_refl _) _
  have hB := hid hB0
  have kr := Blk.new w 74 #[.int .i64 0, .int .i64 0, .int .i64 0, .int .i64 0, .int .i64 0, .string ⟨#[]⟩, .bool false, .string ⟨#[]⟩, .pointer none]
  obtain ⟨An, cn, Am, cm, a, q0⟩ := h
  have hSlt := q0.lt
  have q := q0.below hB0
  have qz := fun j => kr.frozen j
  have z0 := kr.cell 0
  have z1 := kr.cell 1
  have z2 := kr.cell 2
  have z3 := kr.cell 3
  have z4 := kr.cell 4
  have z5 := kr.cell 5
  have z6 := kr.cell 6
  have z7 := kr.cell 7
  have z8 := kr.cell 8
  clear q0 hB0
  simp only [List.getElem?_toArray, List.getElem?_cons_zero, List.getElem?_cons_succ] at z0 z1 z2 z3 z4 z5 z6 z7 z8
  have hrl := kr.lt
  by_cases hn : 0 ≤ n ∧ n < (G.nds.length : Int)
  · obtain ⟨i, rfl⟩ : ∃ i : Nat, n = (i : Int) := ⟨n.toNat, by omega⟩
    have hi : i < G.nds.length := by omega
    obtain ⟨n1, n2, n3, n4, ho⟩ := q.nd i hi
    have hst0 : G.st i s = G.at_ i s := by unfold Gr.st; rw [if_pos hn, Int.toNat_natCast]
    have x1 : (w.alloc (.cells #[.int .i64 0, .int .i64 0, .int .i64 0, .int .i64 0, .int .i64 0, .string ⟨#[]⟩, .bool false, .string ⟨#[]⟩, .pointer none] 74)).cell? ⟨a.nb i, 1, none⟩ = some (.map (some (a.mb i))) := n1.cell 1
    have hny := hid (node_yes i q hi)
    have hnbl := hSlt _ n2
    cases hg : getA s (G.nd i).sl with
    | none =>
      have hst : Hid (G.st i s = sl0) := hid (by rw [hst0]; unfold Gr.at_; rw [hg]; rfl)
      have hlk : (Instr.lookup 65 (.map (some (a.mb i))) (.int .i64 s) false).run Try.prog (w.alloc (.cells #[.int .i64 0, .int .i64 0, .int .i64 0, .int .i64 0, .int .i64 0, .string ⟨#[]⟩, .bool false, .string ⟨#[]⟩, .pointer none] 74)) = .ok (.pointer none) (w.alloc (.cells #[.int .i64 0, .int .i64 0, .int .i64 0, .int .i64 0, .int .i64 0, .string ⟨#[]⟩, .bool false, .string ⟨#[]⟩, .pointer none] 74)) := by
        have := n4.lookup Try.underlying65 zero_sptr s
        rw [getK_mapk (fun t _ => Value.pointer (some ⟨a.sb i t, 0, none⟩)), hg] at this
        exact this
      clear hn hst0 q n1 n4 ho hg kr
      go_enter Try.func36, Try.ntmps36
      go_wp2_with fail
      refine hny.out.mono ?_
      rintro e w' ⟨rfl, rfl⟩
      go_wp2_with fail
      refine bodyPost_ret (v := .agg #[.int .i64 0, .int .i64 0, .int .i64 0, .int .i64 0, .int .i64 0, .string ⟨#[]⟩, .bool false, .string ⟨#[]⟩, .pointer none]) (by simp [results, Try.results36, go_sem, z0, z1, z2, z3, z4, z5, z6, z7, z8]) rfl ⟨none, by rw [hst.out]; rfl, ?_⟩
      exact (Below.refl _ _).alloc (Nat.le_refl _) _
    | some x =>
      have hst : Hid (G.st i s = x) := hid (by rw [hst0]; unfold Gr.at_; rw [hg]; rfl)
      have hlk : (Instr.lookup 65 (.map (some (a.mb i))) (.int .i64 s) false).run Try.prog (w.alloc (.cells #[.int .i64 0, .int .i64 0, .int .i64 0, .int .i64 0, .int .i64 0, .string ⟨#[]⟩, .bool false, .string ⟨#[]⟩, .pointer none] 74)) = .ok (.pointer (some ⟨a.sb i s, 0, none⟩)) (w.alloc (.cells #[.int .i64 0, .int .i64 0, .int .i64 0, .int .i64 0, .int .i64 0, .string ⟨#[]⟩, .bool false, .string ⟨#[]⟩, .pointer none] 74)) := by
        have := n4.lookup Try.underlying65 zero_sptr s
        rw [getK_mapk (fun t _ => Value.pointer (some ⟨a.sb i t, 0, none⟩)), hg] at this
        exact this
      obtain ⟨kS, hSs, _⟩ := q.sl i hi (s, x) (getA_mem hg)
      have hsl : a.sb i s < w.heap.size := hSlt _ hSs
      have hne : a.sb i s ≠ w.heap.size := Nat.ne_of_lt hsl
      obtain ⟨bp, hbp0⟩ : ∃ bp, bp = (if x.bid.isSome then some (⟨a.bb i s, 0, none⟩ : Addr) else none) := ⟨_, rfl⟩
      have hbp := hid hbp0
      have s0 : (w.alloc (.cells #[.int .i64 0, .int .i64 0, .int .i64 0, .int .i64 0, .int .i64 0, .string ⟨#[]⟩, .bool false, .string ⟨#[]⟩, .pointer none] 74)).cell? ⟨a.sb i s, 0, none⟩ = some (.int .i64 x.rd) := kS.cell 0
      have s1 : (w.alloc (.cells #[.int .i64 0, .int .i64 0, .int .i64 0, .int .i64 0, .int .i64 0, .string ⟨#[]⟩, .bool false, .string ⟨#[]⟩, .pointer none] 74)).cell? ⟨a.sb i s, 1, none⟩ = some (.int .i64 x.prom.rd) := kS.cell 1
      have s2 : (w.alloc (.cells #[.int .i64 0, .int .i64 0, .int .i64 0, .int .i64 0, .int .i64 0, .string ⟨#[]⟩, .bool false, .string ⟨#[]⟩, .pointer none] 74)).cell? ⟨a.sb i s, 2, none⟩ = some (.int .i64 x.prom.nd) := kS.cell 2
      have s3 : (w.alloc (.cells #[.int .i64 0, .int .i64 0, .int .i64 0, .int .i64 0, .int .i64 0, .string ⟨#[]⟩, .bool false, .string ⟨#[]⟩, .pointer none] 74)).cell? ⟨a.sb i s, 3, none⟩ = some (.int .i64 x.accd.bal.rd) := kS.cell 3
      have s4 : (w.alloc (.cells #[.int .i64 0, .int .i64 0, .int .i64 0, .int .i64 0, .int .i64 0, .string ⟨#[]⟩, .bool false, .string ⟨#[]⟩, .pointer none] 74)).cell? ⟨a.sb i s, 4, none⟩ = some (.int .i64 x.accd.bal.nd) := kS.cell 4
      have s5 : (w.alloc (.cells #[.int .i64 0, .int .i64 0, .int .i64 0, .int .i64 0, .int .i64 0, .string ⟨#[]⟩, .bool false, .string ⟨#[]⟩, .pointer none] 74)).cell? ⟨a.sb i s, 5, none⟩ = some (.string x.accd.text) := kS.cell 5
      have s6 : (w.alloc (.cells #[.int .i64 0, .int .i64 0, .int .i64 0, .int .i64 0, .int .i64 0, .string ⟨#[]⟩, .bool false, .string ⟨#[]⟩, .pointer none] 74)).cell? ⟨a.sb i s, 6, none⟩ = some (.bool x.is) := kS.cell 6
      have s7 : (w.alloc (.cells #[.int .i64 0, .int .i64 0, .int .i64 0, .int .i64 0, .int .i64 0, .string ⟨#[]⟩, .bool false, .string ⟨#[]⟩, .pointer none] 74)).cell? ⟨a.sb i s, 7, none⟩ = some (.string x.text) := kS.cell 7
      have s8 : (w.alloc (.cells #[.int .i64 0, .int .i64 0, .int .i64 0, .int .i64 0, .int .i64 0, .string ⟨#[]⟩, .bool false, .string ⟨#[]⟩, .pointer none] 74)).cell? ⟨a.sb i s, 8, none⟩ = some (.pointer bp) := by rw [hbp0]; exact kS.cell 8
      clear hn hst0 q n1 n4 ho hg kr kS hbp0
      go_enter Try.func36, Try.ntmps36
      go_wp2_with fail
      refine hny.out.mono ?_
      rintro e w' ⟨rfl, rfl⟩
      go_wp2_with fail
      refine bodyPost_ret (v := .agg #[.int .i64 x.rd, .int .i64 x.prom.rd, .int .i64 x.prom.nd, .int .i64 x.accd.bal.rd, .int .i64 x.accd.bal.nd, .string x.accd.text, .bool x.is, .string x.text, .pointer bp]) (by simp [results, Try.results36, go_sem, z0, z1, z2, z3, z4, z5, z6, z7, z8]) rfl ⟨bp, by rw [hst.out], ?_⟩
      exact (Below.refl _ _).alloc (Nat.le_refl _) _
  · have hst : Hid (G.st n s = sl0) := hid (by unfold Gr.st; rw [if_neg hn])
    have hnn := hid (node_no n q (by omega))
    clear hn q kr
    go_enter Try.func36, Try.ntmps36
    go_wp2_with fail
    refine hnn.out.mono ?_
    rintro e w' ⟨rfl, rfl⟩
    go_wp2_with fail
    refine bodyPost_ret (v := .agg #[.int .i64 0, .int .i64 0, .int .i64 0, .int .i64 0, .int .i64 0, .string ⟨#[]⟩, .bool false, .string ⟨#[]⟩, .pointer none]) (by simp [results, Try.results36, go_sem, z0, z1, z2, z3, z4, z5, z6, z7, z8]) rfl ⟨none, by rw [hst.out]; rfl, ?_⟩
    exact (Below.refl _ _).alloc (Nat.le_refl _) _
set_option maxHeartbeats 1000000 in
theorem learned_any (n s : Int) (h : GAt S w g G) : Calls Try.prog 20 #[.pointer (some ⟨g, 0, none⟩), .int .i64 n, .int .i64 s] w
    fun e w' => e = .returned (.tuple #[.string (G.st n s).text, .bool (G.st n s).is]) ∧ Below w.heap.size w w' := by
  have hs := hid (state_any n s h)
  clear h
  generalize G.st n s = x at *
  go_enter Try.func20, Try.ntmps20
  go_wp2_with fail
  refine hs.out.mono ?_
  rintro e w1 ⟨bp, rfl, hb1⟩
  go_upto_region 2 with fail
  have hY : Below w1.heap.size w1 (w1.alloc (.cells #[.int .i64 x.rd, .int .i64 x.prom.rd, .int .i64 x.prom.nd, .int .i64 x.accd.bal.rd, .int .i64 x.accd.bal.nd, .string x.accd.text, .bool x.is, .string x.text, .pointer bp] 74)) := (Below.refl _ _).alloc (Nat.le_refl _) _
  have kb := Blk.new w1 74 #[.int .i64 x.rd, .int .i64 x.prom.rd, .int .i64 x.prom.nd, .int .i64 x.accd.bal.rd, .int .i64 x.accd.bal.nd, .string x.accd.text, .bool x.is, .string x.text, .pointer bp]
  generalize w1.alloc (.cells #[.int .i64 x.rd, .int .i64 x.prom.rd, .int .i64 x.prom.nd, .int .i64 x.accd.bal.rd, .int .i64 x.accd.bal.nd, .string x.accd.text, .bool x.is, .string x.text, .pointer bp] 74) = w2 at *
  have s6 : w2.cell? ⟨w1.heap.size, 6, none⟩ = some (.bool x.is) := kb.cell 6
  have s7 : w2.cell? ⟨w1.heap.size, 7, none⟩ = some (.string x.text) := kb.cell 7
  have hB2 := hb1.trans (hY.mono hb1.size)
  clear hb1 hY kb
  go_quiet (fail)
  go_wp2_with fail
  go_ret2
  exact ⟨rfl, below_drewN hB2 _⟩
end

end Go.Proofs.Ytbgopicpdpkccaa

namespace Go.Proofs.Ytbgopicpdpkccaa
open Go.RowKit
set_option linter.unusedVariables false
set_option linter.unusedSimpArgs false

theorem run_eqBal (a b : Bal) (w : World) :
    (Op.equalIn 10000 35 (.agg #[.int .i64 a.rd, .int .i64 a.nd]) (.agg #[.int .i64 b.rd, .int .i64 b.nd])).run Try.prog w = .ok (decide (a = b)) w := by
  have ht : Try.prog.underlying 35 = some (.struct (Try.prog.fieldsOf 35)) := by kernel_rfl
  have hp : Try.prog.stoodInHeld 35 = false := by kernel_rfl
  rw [run_equalIn_agg w 9999 _ _ _ ht hp]
  have e : decide (a = b) = (a.rd == b.rd && a.nd == b.nd) := by
    rw [Bool.eq_iff_iff]
    simp only [decide_eq_true_eq, Bool.and_eq_true, beq_iff_eq]
    exact ⟨fun e => by subst e; simp, fun ⟨h1, h2⟩ => by cases a; cases b; simp_all⟩
  rw [e]
  clear ht hp e
  simp only [Program.fieldsOf, Try.underlying35]
  go_simp
  by_cases h1 : a.rd = b.rd <;> by_cases h2 : a.nd = b.nd <;> simp [h1, h2]
theorem run_neqBal (a b : Bal) (w : World) :
    (binOp .neq 35 (.agg #[.int .i64 a.rd, .int .i64 a.nd]) (.agg #[.int .i64 b.rd, .int .i64 b.nd])).run Try.prog w = .ok (.bool (!decide (a = b))) w := by
  rw [run_neq_struct, run_eqBal]; rfl
theorem guardBal : Try.prog.eqGuardType Try.prog.depth 35 = false := by kernel_rfl
theorem zero_vote (w : World) : (zeroValue 71).run Try.prog w = .ok (vtV vt0) w := by kernel_rfl
theorem Ad.setB_self (a : Ad) (i : Nat) (s : Int) : a.setB i s (a.bb i s) (a.ab i s) = a := by
  unfold Ad.setB
  cases a with
  | mk nb mb sb bb ab =>
    simp only [Ad.mk.injEq, true_and]
    constructor
    · funext j t; by_cases e : j = i ∧ t = s
      · rw [if_pos e, e.1, e.2]
      · rw [if_neg e]
    · funext j t; by_cases e : j = i ∧ t = s
      · rw [if_pos e, e.1, e.2]
      · rw [if_neg e]
section
variable {S : Nat → Prop} {w w' : World} {g : Nat} {An Am : Option Addr} {cn cm : Nat} {G : Gr} {a : Ad}
set_option maxRecDepth 100000 in
set_option maxHeartbeats 2000000 in
theorem answered_no (m : Ml) (x : Sl) (i : Nat) (s : Int) (acc : Bool) (h : GIn S w g An cn Am cm G a) (hi : i < G.nds.length) (hx : getA s (G.nd i).sl = some x) (hno : ∀ d, x.bid = some d → d.bal = m.bal → d.acc = acc → (getA m.fr d.ans).isSome) : Calls Try.prog 73 #[.pointer (some ⟨g, 0, none⟩), .pointer (some ⟨a.sb i s, 0, none⟩), .agg #[.int .i64 m.kind, .int .i64 m.fr, .int .i64 m.dst, .int .i64 m.slot, .int .i64 m.bal.rd, .int .i64 m.bal.nd, .int .i64 m.had.rd, .int .i64 m.had.nd, .string m.text], .bool acc] w fun e w' => e = .returned (.bool false) ∧ Below w.heap.size w w' := by
  have hB0 : Below w.heap.size w (w.alloc (.cells #[.int .i64 m.kind, .int .i64 m.fr, .int .i64 m.dst, .int .i64 m.slot, .int .i64 m.bal.rd, .int .i64 m.bal.nd, .int .i64 m.had.rd, .int .i64 m.had.nd, .string m.text] 78)) := (Below.refl _ _).alloc (Nat.le_refl _) _
  have kb := Blk.new w 78 #[.int .i64 m.kind, .int .i64 m.fr, .int .i64 m.dst, .int .i64 m.slot, .int .i64 m.bal.rd, .int .i64 m.bal.nd, .int .i64 m.had.rd, .int .i64 m.had.nd, .string m.text]
  have hSlt := h.lt
  have q := h.below hB0
  have hB := hid hB0
  clear h hB0
  obtain ⟨kS, hSs, hbd⟩ := q.sl i hi (s, x) (getA_mem hx)
  have hbd : ∀ d, x.bid = some d → Blk (w.alloc (.cells #[.int .i64 m.kind, .int .i64 m.fr, .int .i64 m.dst, .int .i64 m.slot, .int .i64 m.bal.rd, .int .i64 m.bal.nd, .int .i64 m.had.rd, .int .i64 m.had.nd, .string m.text] 78)) (a.bb i s) 83 (d.cells (a.ab i s)) ∧ S (a.bb i s) ∧ S (a.ab i s) ∧ MapIs intE (w.alloc (.cells #[.int .i64 m.kind, .int .i64 m.fr, .int .i64 m.dst, .int .i64 m.slot, .int .i64 m.bal.rd, .int .i64 m.bal.nd, .int .i64 m.had.rd, .int .i64 m.had.nd, .string m.text] 78)) (a.ab i s) (d.ans.map fun p => (p.1, vtV p.2)) ∧ Once d.ans := hbd
  have s8 : (w.alloc (.cells #[.int .i64 m.kind, .int .i64 m.fr, .int .i64 m.dst, .int .i64 m.slot, .int .i64 m.bal.rd, .int .i64 m.bal.nd, .int .i64 m.had.rd, .int .i64 m.had.nd, .string m.text] 78)).cell? ⟨a.sb i s, 8, none⟩ = some (.pointer (if x.bid.isSome then some ⟨a.bb i s, 0, none⟩ else none)) := kS.cell 8
  cases hd : x.bid with
  | none =>
    rw [hd] at s8
    have s8 : (w.alloc (.cells #[.int .i64 m.kind, .int .i64 m.fr, .int .i64 m.dst, .int .i64 m.slot, .int .i64 m.bal.rd, .int .i64 m.bal.nd, .int .i64 m.had.rd, .int .i64 m.had.nd, .string m.text] 78)).cell? ⟨a.sb i s, 8, none⟩ = some (.pointer none) := s8
    clear hbd hno kS hx q hd
    go_enter Try.func73, Try.ntmps73
    go_wp2_with fail
    go_quiet (fail)
    go_wp2_with fail
    go_ret
    exact ⟨rfl, below_drewN hB.out _⟩
  | some d =>
    rw [hd] at s8
    have s8 : (w.alloc (.cells #[.int .i64 m.kind, .int .i64 m.fr, .int .i64 m.dst, .int .i64 m.slot, .int .i64 m.bal.rd, .int .i64 m.bal.nd, .int .i64 m.had.rd, .int .i64 m.had.nd, .string m.text] 78)).cell? ⟨a.sb i s, 8, none⟩ = some (.pointer (some ⟨a.bb i s, 0, none⟩)) := s8
    obtain ⟨kD, hSd, hSa, hmp, hon⟩ := hbd d hd
    have hno := hno d hd
    have e0 : (w.alloc (.cells #[.int .i64 m.kind, .int .i64 m.fr, .int .i64 m.dst, .int .i64 m.slot, .int .i64 m.bal.rd, .int .i64 m.bal.nd, .int .i64 m.had.rd, .int .i64 m.had.nd, .string m.text] 78)).cell? ⟨w.heap.size, 0, none⟩ = some (.int .i64 m.kind) := kb.cell 0
    have e1 : (w.alloc (.cells #[.int .i64 m.kind, .int .i64 m.fr, .int .i64 m.dst, .int .i64 m.slot, .int .i64 m.bal.rd, .int .i64 m.bal.nd, .int .i64 m.had.rd, .int .i64 m.had.nd, .string m.text] 78)).cell? ⟨w.heap.size, 1, none⟩ = some (.int .i64 m.fr) := kb.cell 1
    have e2 : (w.alloc (.cells #[.int .i64 m.kind, .int .i64 m.fr, .int .i64 m.dst, .int .i64 m.slot, .int .i64 m.bal.rd, .int .i64 m.bal.nd, .int .i64 m.had.rd, .int .i64 m.had.nd, .string m.text] 78)).cell? ⟨w.heap.size, 2, none⟩ = some (.int .i64 m.dst) := kb.cell 2
    have e3 : (w.alloc (.cells #[.int .i64 m.kind, .int .i64 m.fr, .int .i64 m.dst, .int .i64 m.slot, .int .i64 m.bal.rd, .int .i64 m.bal.nd, .int .i64 m.had.rd, .int .i64 m.had.nd, .string m.text] 78)).cell? ⟨w.heap.size, 3, none⟩ = some (.int .i64 m.slot) := kb.cell 3
    have e4 : (w.alloc (.cells #[.int .i64 m.kind, .int .i64 m.fr, .int .i64 m.dst, .int .i64 m.slot, .int .i64 m.bal.rd, .int .i64 m.bal.nd, .int .i64 m.had.rd, .int .i64 m.had.nd, .string m.text] 78)).cell? ⟨w.heap.size, 4, none⟩ = some (.int .i64 m.bal.rd) := kb.cell 4
    have e5 : (w.alloc (.cells #[.int .i64 m.kind, .int .i64 m.fr, .int .i64 m.dst, .int .i64 m.slot, .int .i64 m.bal.rd, .int .i64 m.bal.nd, .int .i64 m.had.rd, .int .i64 m.had.nd, .string m.text] 78)).cell? ⟨w.heap.size, 5, none⟩ = some (.int .i64 m.bal.nd) := kb.cell 5
    have e6 : (w.alloc (.cells #[.int .i64 m.kind, .int .i64 m.fr, .int .i64 m.dst, .int .i64 m.slot, .int .i64 m.bal.rd, .int .i64 m.bal.nd, .int .i64 m.had.rd, .int .i64 m.had.nd, .string m.text] 78)).cell? ⟨w.heap.size, 6, none⟩ = some (.int .i64 m.had.rd) := kb.cell 6
    have e7 : (w.alloc (.cells #[.int .i64 m.kind, .int .i64 m.fr, .int .i64 m.dst, .int .i64 m.slot, .int .i64 m.bal.rd, .int .i64 m.bal.nd, .int .i64 m.had.rd, .int .i64 m.had.nd, .string m.text] 78)).cell? ⟨w.heap.size, 7, none⟩ = some (.int .i64 m.had.nd) := kb.cell 7
    have e8 : (w.alloc (.cells #[.int .i64 m.kind, .int .i64 m.fr, .int .i64 m.dst, .int .i64 m.slot, .int .i64 m.bal.rd, .int .i64 m.bal.nd, .int .i64 m.had.rd, .int .i64 m.had.nd, .string m.text] 78)).cell? ⟨w.heap.size, 8, none⟩ = some (.string m.text) := kb.cell 8
    have d0 : (w.alloc (.cells #[.int .i64 m.kind, .int .i64 m.fr, .int .i64 m.dst, .int .i64 m.slot, .int .i64 m.bal.rd, .int .i64 m.bal.nd, .int .i64 m.had.rd, .int .i64 m.had.nd, .string m.text] 78)).cell? ⟨a.bb i s, 0, none⟩ = some (.int .i64 d.bal.rd) := kD.cell 0
    have d1 : (w.alloc (.cells #[.int .i64 m.kind, .int .i64 m.fr, .int .i64 m.dst, .int .i64 m.slot, .int .i64 m.bal.rd, .int .i64 m.bal.nd, .int .i64 m.had.rd, .int .i64 m.had.nd, .string m.text] 78)).cell? ⟨a.bb i s, 1, none⟩ = some (.int .i64 d.bal.nd) := kD.cell 1
    have d2 : (w.alloc (.cells #[.int .i64 m.kind, .int .i64 m.fr, .int .i64 m.dst, .int .i64 m.slot, .int .i64 m.bal.rd, .int .i64 m.bal.nd, .int .i64 m.had.rd, .int .i64 m.had.nd, .string m.text] 78)).cell? ⟨a.bb i s, 2, none⟩ = some (.string d.text) := kD.cell 2
    have d3 : (w.alloc (.cells #[.int .i64 m.kind, .int .i64 m.fr, .int .i64 m.dst, .int .i64 m.slot, .int .i64 m.bal.rd, .int .i64 m.bal.nd, .int .i64 m.had.rd, .int .i64 m.had.nd, .string m.text] 78)).cell? ⟨a.bb i s, 3, none⟩ = some (.bool d.acc) := kD.cell 3
    have d4 : (w.alloc (.cells #[.int .i64 m.kind, .int .i64 m.fr, .int .i64 m.dst, .int .i64 m.slot, .int .i64 m.bal.rd, .int .i64 m.bal.nd, .int .i64 m.had.rd, .int .i64 m.had.nd, .string m.text] 78)).cell? ⟨a.bb i s, 4, none⟩ = some (.map (some (a.ab i s))) := kD.cell 4
    have hgd := guardBal
    have hdl : a.bb i s < w.heap.size := hSlt _ hSd
    by_cases h1 : d.bal = m.bal
    · have hnq : ∀ W', (binOp .neq 35 (.agg #[.int .i64 d.bal.rd, .int .i64 d.bal.nd]) (.agg #[.int .i64 m.bal.rd, .int .i64 m.bal.nd])).run Try.prog W' = .ok (.bool false) W' := fun W' => by rw [run_neqBal, decide_eq_true h1]; rfl
      by_cases h2 : d.acc = acc
      · obtain ⟨v0, hv0⟩ := Option.isSome_iff_exists.1 (hno h1 h2)
        subst h2
        have tt : (d.acc != d.acc) = false := by simp
        have hlk0 : ∀ W', W'.heap[a.ab i s]? = (w.alloc (.cells #[.int .i64 m.kind, .int .i64 m.fr, .int .i64 m.dst, .int .i64 m.slot, .int .i64 m.bal.rd, .int .i64 m.bal.nd, .int .i64 m.had.rd, .int .i64 m.had.nd, .string m.text] 78)).heap[a.ab i s]? → (Instr.lookup 81 (.map (some (a.ab i s))) (.int .i64 m.fr) true).run Try.prog W' = .ok (.tuple #[.agg #[.int .i64 v0.bal.rd, .int .i64 v0.bal.nd, .string v0.text], .bool true]) W' := fun W' hW => by
          have := (hmp.keep hW).lookup_ok Try.underlying81 zero_vote m.fr
          rw [getK_mapk (fun _ v => vtV v), hv0] at this
          exact this
        have hlk1 := hid hlk0
        have hmlt := hmp.lt
        clear hno hlk0 hbd kS hx q hd h1 hv0 kD hmp hon
        go_enter Try.func73, Try.ntmps73
        go_wp2_with fail
        go_quiet (fail)
        have b4 : ((w.alloc (.cells #[.int .i64 m.kind, .int .i64 m.fr, .int .i64 m.dst, .int .i64 m.slot, .int .i64 m.bal.rd, .int .i64 m.bal.nd, .int .i64 m.had.rd, .int .i64 m.had.nd, .string m.text] 78)).drewN nq).cell? ⟨a.bb i s, 4, none⟩ = some (.map (some (a.ab i s))) := d4
        have f1 : ((w.alloc (.cells #[.int .i64 m.kind, .int .i64 m.fr, .int .i64 m.dst, .int .i64 m.slot, .int .i64 m.bal.rd, .int .i64 m.bal.nd, .int .i64 m.had.rd, .int .i64 m.had.nd, .string m.text] 78)).drewN nq).cell? ⟨w.heap.size, 1, none⟩ = some (.int .i64 m.fr) := e1
        have hlk2 := hlk1.out ((w.alloc (.cells #[.int .i64 m.kind, .int .i64 m.fr, .int .i64 m.dst, .int .i64 m.slot, .int .i64 m.bal.rd, .int .i64 m.bal.nd, .int .i64 m.had.rd, .int .i64 m.had.nd, .string m.text] 78)).drewN nq).drew rfl
        have hml : a.ab i s < (w.alloc (.cells #[.int .i64 m.kind, .int .i64 m.fr, .int .i64 m.dst, .int .i64 m.slot, .int .i64 m.bal.rd, .int .i64 m.bal.nd, .int .i64 m.had.rd, .int .i64 m.had.nd, .string m.text] 78)).heap.size := hmlt
        have hlk3 : (Instr.lookup 81 (.map (some (a.ab i s))) (.int .i64 m.fr) true).run Try.prog ((((w.alloc (.cells #[.int .i64 m.kind, .int .i64 m.fr, .int .i64 m.dst, .int .i64 m.slot, .int .i64 m.bal.rd, .int .i64 m.bal.nd, .int .i64 m.had.rd, .int .i64 m.had.nd, .string m.text] 78)).drewN nq).alloc (.cells #[.int .i64 0, .int .i64 0, .string ⟨#[]⟩] 71)).drew) = .ok (.tuple #[.agg #[.int .i64 v0.bal.rd, .int .i64 v0.bal.nd, .string v0.text], .bool true]) ((((w.alloc (.cells #[.int .i64 m.kind, .int .i64 m.fr, .int .i64 m.dst, .int .i64 m.slot, .int .i64 m.bal.rd, .int .i64 m.bal.nd, .int .i64 m.had.rd, .int .i64 m.had.nd, .string m.text] 78)).drewN nq).alloc (.cells #[.int .i64 0, .int .i64 0, .string ⟨#[]⟩] 71)).drew) := hlk1.out _ (Below.heap_alloc ((w.alloc (.cells #[.int .i64 m.kind, .int .i64 m.fr, .int .i64 m.dst, .int .i64 m.slot, .int .i64 m.bal.rd, .int .i64 m.bal.nd, .int .i64 m.had.rd, .int .i64 m.had.nd, .string m.text] 78)).drewN nq) _ _ hml)
        have hB2 := hid (below_drewN hB.out nq)
        clear s8 d0 d1 d2 d3 d4 e0 e1 e2 e3 e4 e5 e6 e7 e8 hlk1 hB tt kb hnq hgd
        generalize (w.alloc (.cells #[.int .i64 m.kind, .int .i64 m.fr, .int .i64 m.dst, .int .i64 m.slot, .int .i64 m.bal.rd, .int .i64 m.bal.nd, .int .i64 m.had.rd, .int .i64 m.had.nd, .string m.text] 78)).drewN nq = W2 at *
        have n1 := World.new_ne W2 ⟨a.bb i s, 4, none⟩ b4
        have n2 := World.new_ne W2 ⟨w.heap.size, 1, none⟩ f1
        go_wp2_with fail
        go_region_held3 (fun w' => w'.cell? ⟨a.bb i s, 4, none⟩ = some (.map (some (a.ab i s))) ∧ w'.cell? ⟨w.heap.size, 1, none⟩ = some (.int .i64 m.fr)) (go_keep) (fail)
        all_goals
          go_wp2_with fail
          go_ret
          exact ⟨rfl, hB2.out.trans ((((Below.refl _ _).alloc (Nat.le_refl _) _).drew).mono hB2.out.size)⟩
      · have tt : (d.acc != acc) = true := by simpa using h2
        have tt2 : (d.acc == acc) = false := by simpa using h2
        clear hno hbd kS hx q hd h1 h2 kD hmp hon
        go_enter Try.func73, Try.ntmps73
        go_wp2_with fail
        go_quiet (fail)
        go_wp2_with fail
        go_ret
        exact ⟨rfl, below_drewN hB.out _⟩
    · have hnq : ∀ W', (binOp .neq 35 (.agg #[.int .i64 d.bal.rd, .int .i64 d.bal.nd]) (.agg #[.int .i64 m.bal.rd, .int .i64 m.bal.nd])).run Try.prog W' = .ok (.bool true) W' := fun W' => by rw [run_neqBal, decide_eq_false h1]; rfl
      clear hno hbd kS hx q hd h1 kD hmp hon
      go_enter Try.func73, Try.ntmps73
      go_wp2_with fail
      go_quiet (fail)
      go_wp2_with fail
      go_ret
      exact ⟨rfl, below_drewN hB.out _⟩
end

end Go.Proofs.Ytbgopicpdpkccaa

