/- quorum: Propose. -/
import Derived.Test.YtbgopicpdpkccaaGMake
namespace Go.Proofs.Ytbgopicpdpkccaa
open Go.RowKit
set_option linter.unusedVariables false
set_option linter.unusedSimpArgs false

def Gr.code (G : Gr) (n s : Int) (t : ByteArray) : Int :=
  if ¬ (0 ≤ n ∧ n < G.nds.length ∧ (G.nd n.toNat).up = true) then 271
  else if s < 0 ∨ 256 ≤ s then 270
  else if 4096 < t.size then 272
  else if 4096 < G.mail.length + G.nds.length then 5 else 0
def Gr.bid (G : Gr) (i : Nat) (s : Int) (t : ByteArray) : Gr := ((G.touch i s).setSl i s { G.at_ i s with rd := (G.at_ i s).rd + 1, bid := some ⟨⟨(G.at_ i s).rd + 1, i⟩, t, false, []⟩ }).sendAll ⟨1, i, 0, s, ⟨(G.at_ i s).rd + 1, i⟩, bal0, ⟨#[]⟩⟩
def Gr.propose (G : Gr) (n s : Int) (t : ByteArray) : Gr := if G.code n s t = 0 then G.bid n.toNat s t else G
section
variable {S : Nat → Prop} {w w' : World} {g : Nat} {An Am : Option Addr} {cn cm : Nat} {G : Gr} {a : Ad}
set_option maxRecDepth 100000 in
set_option maxHeartbeats 2000000 in
theorem propose_far (n s : Int) (t : ByteArray) (h : GAt S w g G) (hn : n < 0 ∨ (G.nds.length : Int) ≤ n) : Calls Try.prog 18 #[.pointer (some ⟨g, 0, none⟩), .int .i64 n, .int .i64 s, .string t] w fun e w' => e = .returned (.int .i64 271) ∧ w' = w := by
  obtain ⟨An, cn, Am, cm, a, q⟩ := h
  have hcn := hid (node_no n q hn)
  clear q
  go_enter Try.func18, Try.ntmps18
  go_wp2_with fail
  refine hcn.out.mono ?_
  rintro e w2 ⟨rfl, rfl⟩
  go_wp2_with fail
  go_ret
  exact ⟨rfl, rfl⟩
set_option maxRecDepth 100000 in
set_option maxHeartbeats 2000000 in
theorem propose_down (i : Nat) (s : Int) (t : ByteArray) (h : GAt S w g G) (hi : i < G.nds.length) (hu : (G.nd i).up = false) : Calls Try.prog 18 #[.pointer (some ⟨g, 0, none⟩), .int .i64 i, .int .i64 s, .string t] w fun e w' => e = .returned (.int .i64 271) ∧ Below w.heap.size w w' := by
  obtain ⟨An, cn, Am, cm, a, q⟩ := h
  have hcn := hid (node_yes i q hi)
  obtain ⟨n1, n2, n3, n4, _⟩ := q.nd i hi
  have xu : w.cell? ⟨a.nb i, 0, none⟩ = some (.bool false) := by have := n1.cell 0; rwa [hu] at this
  clear q n1 n4
  go_enter Try.func18, Try.ntmps18
  go_wp2_with fail
  refine hcn.out.mono ?_
  rintro e w2 ⟨rfl, rfl⟩
  go_wp2_with fail
  go_ret
  exact ⟨rfl, Below.refl _ _⟩
set_option maxRecDepth 100000 in
set_option maxHeartbeats 2000000 in
theorem propose_low (i : Nat) (s : Int) (t : ByteArray) (h : GAt S w g G) (hi : i < G.nds.length) (hu : (G.nd i).up = true) (hs : s < 0) : Calls Try.prog 18 #[.pointer (some ⟨g, 0, none⟩), .int .i64 i, .int .i64 s, .string t] w fun e w' => e = .returned (.int .i64 270) ∧ Below w.heap.size w w' := by
  obtain ⟨An, cn, Am, cm, a, q⟩ := h
  have hcn := hid (node_yes i q hi)
  obtain ⟨n1, n2, n3, n4, _⟩ := q.nd i hi
  obtain ⟨c0, c1⟩ := q.cells
  have xu : w.cell? ⟨a.nb i, 0, none⟩ = some (.bool true) := by have := n1.cell 0; rwa [hu] at this
  have t1 : decide (s < 0) = true := decide_eq_true hs
  clear q n1 n4 hu
  go_enter Try.func18, Try.ntmps18
  go_wp2_with fail
  refine hcn.out.mono ?_
  rintro e w2 ⟨rfl, rfl⟩
  go_wp2_with fail
  go_ret
  exact ⟨rfl, Below.refl _ _⟩
set_option maxRecDepth 100000 in
set_option maxHeartbeats 2000000 in
theorem propose_high (i : Nat) (s : Int) (t : ByteArray) (h : GAt S w g G) (hi : i < G.nds.length) (hu : (G.nd i).up = true) (hs0 : 0 ≤ s) (hs : 256 ≤ s) : Calls Try.prog 18 #[.pointer (some ⟨g, 0, none⟩), .int .i64 i, .int .i64 s, .string t] w fun e w' => e = .returned (.int .i64 270) ∧ Below w.heap.size w w' := by
  obtain ⟨An, cn, Am, cm, a, q⟩ := h
  have hcn := hid (node_yes i q hi)
  obtain ⟨n1, n2, n3, n4, _⟩ := q.nd i hi
  obtain ⟨c0, c1⟩ := q.cells
  have xu : w.cell? ⟨a.nb i, 0, none⟩ = some (.bool true) := by have := n1.cell 0; rwa [hu] at this
  have t1 : decide (s < 0) = false := decide_eq_false (by omega)
  have t2 : decide (256 ≤ s) = true := decide_eq_true hs
  clear q n1 n4 hu
  go_enter Try.func18, Try.ntmps18
  go_wp2_with fail
  refine hcn.out.mono ?_
  rintro e w2 ⟨rfl, rfl⟩
  go_wp2_with fail
  go_ret
  exact ⟨rfl, Below.refl _ _⟩
set_option maxRecDepth 100000 in
set_option maxHeartbeats 2000000 in
theorem propose_long (i : Nat) (s : Int) (t : ByteArray) (h : GAt S w g G) (hi : i < G.nds.length) (hu : (G.nd i).up = true) (hs : 0 ≤ s ∧ s < 256) (ht : 4096 < t.size) : Calls Try.prog 18 #[.pointer (some ⟨g, 0, none⟩), .int .i64 i, .int .i64 s, .string t] w fun e w' => e = .returned (.int .i64 272) ∧ Below w.heap.size w w' := by
  obtain ⟨An, cn, Am, cm, a, q⟩ := h
  have hcn := hid (node_yes i q hi)
  obtain ⟨n1, n2, n3, n4, _⟩ := q.nd i hi
  obtain ⟨c0, c1⟩ := q.cells
  have xu : w.cell? ⟨a.nb i, 0, none⟩ = some (.bool true) := by have := n1.cell 0; rwa [hu] at this
  have t1 : decide (s < 0) = false := decide_eq_false (by omega)
  have t2 : decide (256 ≤ s) = false := decide_eq_false (by omega)
  have t3 : decide (4096 < (t.size : Int)) = true := decide_eq_true (by omega)
  have t4 : decide (4096 < t.size) = true := decide_eq_true ht
  clear q n1 n4 hu
  go_enter Try.func18, Try.ntmps18
  go_wp2_with fail
  refine hcn.out.mono ?_
  rintro e w2 ⟨rfl, rfl⟩
  go_wp2_with fail
  go_ret
  exact ⟨rfl, Below.refl _ _⟩
set_option maxRecDepth 100000 in
set_option maxHeartbeats 2000000 in
theorem propose_full (i : Nat) (s : Int) (t : ByteArray) (h : GAt S w g G) (hi : i < G.nds.length) (hu : (G.nd i).up = true) (hs : 0 ≤ s ∧ s < 256) (ht : t.size ≤ 4096) (hf : 4096 < G.mail.length + G.nds.length) (hl : G.mail.length ≤ 1000000 ∧ G.nds.length ≤ 1000) : Calls Try.prog 18 #[.pointer (some ⟨g, 0, none⟩), .int .i64 i, .int .i64 s, .string t] w fun e w' => e = .returned (.int .i64 5) ∧ Below w.heap.size w w' := by
  obtain ⟨An, cn, Am, cm, a, q⟩ := h
  have hcn := hid (node_yes i q hi)
  obtain ⟨n1, n2, n3, n4, _⟩ := q.nd i hi
  obtain ⟨c0, c1⟩ := q.cells
  have xu : w.cell? ⟨a.nb i, 0, none⟩ = some (.bool true) := by have := n1.cell 0; rwa [hu] at this
  have t1 : decide (s < 0) = false := decide_eq_false (by omega)
  have t2 : decide (256 ≤ s) = false := decide_eq_false (by omega)
  have t3 : decide (4096 < (t.size : Int)) = false := decide_eq_false (by omega)
  have t4 : decide (4096 < t.size) = false := decide_eq_false (by omega)
  have hw : IntKind.i64.wrap ((G.mail.length : Int) + (G.nds.length : Int)) = (G.mail.length : Int) + (G.nds.length : Int) := IntWalk.i64_in _ (by omega)
  have t5 : decide (4096 < (G.mail.length : Int) + (G.nds.length : Int)) = true := decide_eq_true (by omega)
  clear q n1 n4 hu
  go_enter Try.func18, Try.ntmps18
  go_wp2_with fail
  refine hcn.out.mono ?_
  rintro e w2 ⟨rfl, rfl⟩
  go_upto_region 10 with fail
  go_quiet (fail)
  have hB : Below w2.heap.size w2 (w2.drewN nq) := below_drewN (Below.refl _ w2) nq
  generalize w2.drewN nq = w3 at *
  clear c0 c1 xu
  go_wp2_with fail
  go_ret
  exact ⟨rfl, hB⟩
set_option maxRecDepth 100000 in
set_option maxHeartbeats 2000000 in
theorem propose_ok (i : Nat) (s : Int) (t : ByteArray) (h : GAt S w g G) (hi : i < G.nds.length) (hu : (G.nd i).up = true) (hs : 0 ≤ s ∧ s < 256) (ht : t.size ≤ 4096) (hf : G.mail.length + G.nds.length ≤ 4096) (hl : G.nds.length ≤ 1000) (hr : -9223372036854775808 ≤ (G.at_ i s).rd + 1 ∧ (G.at_ i s).rd + 1 < 9223372036854775808) : Calls Try.prog 18 #[.pointer (some ⟨g, 0, none⟩), .int .i64 i, .int .i64 s, .string t] w fun e w' => e = .returned (.int .i64 0) ∧ GGo S w g (G.bid i s t) w' := by
  obtain ⟨An, cn, Am, cm, a, q⟩ := h
  have hcn := hid (node_yes i q hi)
  obtain ⟨n1, n2, n3, n4, _⟩ := q.nd i hi
  obtain ⟨c0, c1⟩ := q.cells
  have xu : w.cell? ⟨a.nb i, 0, none⟩ = some (.bool true) := by have := n1.cell 0; rwa [hu] at this
  have t1 : decide (s < 0) = false := decide_eq_false (by omega)
  have t2 : decide (256 ≤ s) = false := decide_eq_false (by omega)
  have t3 : decide (4096 < (t.size : Int)) = false := decide_eq_false (by omega)
  have t4 : decide (4096 < t.size) = false := decide_eq_false (by omega)
  have hw : IntKind.i64.wrap ((G.mail.length : Int) + (G.nds.length : Int)) = (G.mail.length : Int) + (G.nds.length : Int) := IntWalk.i64_in _ (by omega)
  have t5 : decide (4096 < (G.mail.length : Int) + (G.nds.length : Int)) = false := decide_eq_false (by omega)
  obtain ⟨x, hx0⟩ : ∃ x, x = G.at_ i s := ⟨_, rfl⟩
  rw [← hx0] at hr
  have hwr : IntKind.i64.wrap (x.rd + 1) = x.rd + 1 := IntWalk.i64_in _ (by omega)
  have hx := hid hx0
  have hq := hid q
  have hi' := hid hi
  clear hx0
  clear q n1 n4 hu
  go_enter Try.func18, Try.ntmps18
  go_wp2_with fail
  refine hcn.out.mono ?_
  rintro e w2 ⟨rfl, rfl⟩
  go_upto_region 10 with fail
  go_quiet (fail)
  have hB0 : Below w2.heap.size w2 (w2.drewN nq) := below_drewN (Below.refl _ w2) nq
  have q3 := hq.out.below hB0
  have hB := hid hB0
  have hmk := @run_makeMap Try.prog
  generalize w2.drewN nq = w3 at *
  clear c0 c1 xu hB0 hcn hw
  have hsl := hid (slot_any i s q3 hi'.out)
  go_upto_region 12 with fail
  go_wp2_with fail
  refine hsl.out.mono ?_
  rintro e w4 ⟨S4, a4, ⟨rfl, hS4⟩, q4, hx4, hu4⟩
  rw [← hx.out] at hx4
  have hi4 : i < (G.touch i s).nds.length := by rw [Gr.touch_len]; exact hi'.out
  obtain ⟨kS, hSs, hbd⟩ := q4.sl i hi4 (s, x) (getA_mem hx4)
  have s0 : w4.cell? ⟨a4.sb i s, 0, none⟩ = some (.int .i64 x.rd) := kS.cell 0
  have s8 : w4.cell? ⟨a4.sb i s, 8, none⟩ = some (.pointer (if x.bid.isSome then some ⟨a4.bb i s, 0, none⟩ else none)) := kS.cell 8
  have qs := fun j => kS.frozen j
  have hslt := kS.lt
  have hSs4 : S4 (a4.sb i s) := hSs
  have Hq4 := hid q4; have Hx4 := hid hx4; have Hi4 := hid hi4; have HkS := hid kS; have HS4 := hid hS4; have Hu4 := hid hu4
  clear q3 q4 hx4 hi4 kS hbd hsl hS4 hu4 hSs
  go_upto_region 14 with fail
  obtain ⟨w5, hw5⟩ : ∃ w5, w5 = w4.setCell ⟨a4.sb i s, 0, none⟩ (.int .i64 (x.rd + 1)) := ⟨_, rfl⟩
  rw [← hw5]
  have hu5 : Upd (fun k => k = a4.sb i s) w4 w5 := by rw [hw5]; exact (Upd.refl (fun k => k = a4.sb i s) w4).setCell (p := ⟨a4.sb i s, 0, none⟩) (fun _ => rfl) _
  have kS5 : Blk w5 (a4.sb i s) 74 ({ x with rd := x.rd + 1 }.cells (a4.bb i s)) := by rw [hw5]; exact HkS.out.set_ 0 _
  have hz5 : w5.heap.size = w4.heap.size := by rw [hw5]; simp
  clear s0 s8 qs
  have s0 : w5.cell? ⟨a4.sb i s, 0, none⟩ = some (.int .i64 (x.rd + 1)) := kS5.cell 0
  have s8 : w5.cell? ⟨a4.sb i s, 8, none⟩ = some (.pointer (if x.bid.isSome then some ⟨a4.bb i s, 0, none⟩ else none)) := kS5.cell 8
  have qs := fun j => kS5.frozen j
  have hslt5 := kS5.lt
  clear hw5
  have hB6 : Below w5.heap.size w5 ((w5.alloc (.map #[] 0)).alloc (.cells #[.int .i64 (x.rd + 1), .int .i64 i, .string t, .bool false, .map (some w4.heap.size)] 83)) := ((Below.refl _ _).alloc (Nat.le_refl _) _).alloc (by simp) _
  have kS6 := kS5.below_all hB6
  have s86 : ((w5.alloc (.map #[] 0)).alloc (.cells #[.int .i64 (x.rd + 1), .int .i64 i, .string t, .bool false, .map (some w4.heap.size)] 83)).cell? ⟨a4.sb i s, 8, none⟩ = some (.pointer (if x.bid.isSome then some ⟨a4.bb i s, 0, none⟩ else none)) := kS6.cell 8
  have q86 : ((w5.alloc (.map #[] 0)).alloc (.cells #[.int .i64 (x.rd + 1), .int .i64 i, .string t, .bool false, .map (some w4.heap.size)] 83)).frozen? ⟨a4.sb i s, 8, none⟩ = false := kS6.frozen 8
  have Hu5 := hid hu5; have HkS5 := hid kS5; have HB6 := hid hB6; have HkS6 := hid kS6; have Hz5 := hid hz5
  clear hu5 kS5 hB6 kS6
  go_upto_region 15 with fail
  have hz5b : (w5.setCell ⟨a4.sb i s, 8, none⟩ (.pointer (some ⟨w4.heap.size + 1, 0, none⟩))).heap.size = w4.heap.size := by simp [Hz5.out]
  have hu7 : Upd (fun k => k = a4.sb i s) w5 (w5.setCell ⟨a4.sb i s, 8, none⟩ (.pointer (some ⟨w4.heap.size + 1, 0, none⟩))) := (Upd.refl (fun k => k = a4.sb i s) _).setCell (p := ⟨a4.sb i s, 8, none⟩) (fun _ => rfl) _
  have hB7 : Below (w5.setCell ⟨a4.sb i s, 8, none⟩ (.pointer (some ⟨w4.heap.size + 1, 0, none⟩))).heap.size (w5.setCell ⟨a4.sb i s, 8, none⟩ (.pointer (some ⟨w4.heap.size + 1, 0, none⟩))) (((w5.setCell ⟨a4.sb i s, 8, none⟩ (.pointer (some ⟨w4.heap.size + 1, 0, none⟩))).alloc (.map #[] 0)).alloc (.cells #[.int .i64 (x.rd + 1), .int .i64 i, .string t, .bool false, .map (some w4.heap.size)] 83)) := ((Below.refl _ _).alloc (Nat.le_refl _) _).alloc (by simp) _
  have kS7 : Blk (((w5.setCell ⟨a4.sb i s, 8, none⟩ (.pointer (some ⟨w4.heap.size + 1, 0, none⟩))).alloc (.map #[] 0)).alloc (.cells #[.int .i64 (x.rd + 1), .int .i64 i, .string t, .bool false, .map (some w4.heap.size)] 83)) (a4.sb i s) 74 (Sl.cells { x with rd := x.rd + 1, bid := some ⟨⟨x.rd + 1, i⟩, t, false, []⟩ } (w4.heap.size + 1)) := Blk.below_all (HkS5.out.set_ 8 _) hB7
  have kB7 : Blk (((w5.setCell ⟨a4.sb i s, 8, none⟩ (.pointer (some ⟨w4.heap.size + 1, 0, none⟩))).alloc (.map #[] 0)).alloc (.cells #[.int .i64 (x.rd + 1), .int .i64 i, .string t, .bool false, .map (some w4.heap.size)] 83)) (w4.heap.size + 1) 83 (Bd.cells ⟨⟨x.rd + 1, i⟩, t, false, []⟩ w4.heap.size) := Blk.new' _ _ _ (by simp [Hz5.out])
  have m7 : MapIs intE (((w5.setCell ⟨a4.sb i s, 8, none⟩ (.pointer (some ⟨w4.heap.size + 1, 0, none⟩))).alloc (.map #[] 0)).alloc (.cells #[.int .i64 (x.rd + 1), .int .i64 i, .string t, .bool false, .map (some w4.heap.size)] 83)) w4.heap.size [] := (MapIs.new' (w5.setCell ⟨a4.sb i s, 8, none⟩ (.pointer (some ⟨w4.heap.size + 1, 0, none⟩))) hz5b.symm).keep (Below.heap_alloc _ _ _ (by simp [Hz5.out]))
  have hu57 : Upd (fun k => k = a4.sb i s) w4 (((w5.setCell ⟨a4.sb i s, 8, none⟩ (.pointer (some ⟨w4.heap.size + 1, 0, none⟩))).alloc (.map #[] 0)).alloc (.cells #[.int .i64 (x.rd + 1), .int .i64 i, .string t, .bool false, .map (some w4.heap.size)] 83)) := (Hu5.out.trans hu7 fun _ _ h => h).trans (Upd.of_below' hB7 _) fun _ _ h => h
  have hz7 : (((w5.setCell ⟨a4.sb i s, 8, none⟩ (.pointer (some ⟨w4.heap.size + 1, 0, none⟩))).alloc (.map #[] 0)).alloc (.cells #[.int .i64 (x.rd + 1), .int .i64 i, .string t, .bool false, .map (some w4.heap.size)] 83)).heap.size = w4.heap.size + 2 := by simp [Hz5.out]
  clear hu7 hz5 hB7 hz5b s86 q86 s0 s8 qs
  generalize hN7 : (((w5.setCell ⟨a4.sb i s, 8, none⟩ (.pointer (some ⟨w4.heap.size + 1, 0, none⟩))).alloc (.map #[] 0)).alloc (.cells #[.int .i64 (x.rd + 1), .int .i64 i, .string t, .bool false, .map (some w4.heap.size)] 83)) = w7 at *
  have hlt4 := Hq4.out.lt
  have q7 := Hq4.out.slot (S' := fun k => S4 k ∨ (w4.heap.size ≤ k ∧ k < w7.heap.size)) (x' := { x with rd := x.rd + 1, bid := some ⟨⟨x.rd + 1, i⟩, t, false, []⟩ }) (bb' := w4.heap.size + 1) (ab' := w4.heap.size) Hi4.out Hx4.out hu57 (fun k hk => .inl hk) (fun _ => .inl) (fun k hk => by
    rcases hk with hk | hk
    · have := hlt4 k hk; omega
    · exact hk.2) ⟨kS7, .inl hSs4, fun d hd => by
      injection hd with hd
      subst hd
      exact ⟨kB7, .inr ⟨by omega, by omega⟩, .inr ⟨by omega, by omega⟩, m7, by simp [Once]⟩⟩ (fun _ => .inr ⟨by omega, Nat.le_refl _⟩)
  have s8 : w7.cell? ⟨a4.sb i s, 8, none⟩ = some (.pointer (some ⟨w4.heap.size + 1, 0, none⟩)) := kS7.cell 8
  have b0 : w7.cell? ⟨w4.heap.size + 1, 0, none⟩ = some (.int .i64 (x.rd + 1)) := kB7.cell 0
  have b1 : w7.cell? ⟨w4.heap.size + 1, 1, none⟩ = some (.int .i64 i) := kB7.cell 1
  have hlen7 : ((G.touch i s).setSl i s { x with rd := x.rd + 1, bid := some ⟨⟨x.rd + 1, i⟩, t, false, []⟩ }).nds.length ≤ 1000 := by
    show (List.set _ _ _).length ≤ 1000
    rw [List.length_set, Gr.touch_len]; exact hl
  have hgo7 : GGo S w2 g (G.bid i s t) w7 ∨ True := .inr trivial
  have hpre : Hid (∃ S1, (∀ k, S1 k → S k ∨ w2.heap.size ≤ k) ∧ Upd S w2 w7 ∧ GAt S1 w7 g ((G.touch i s).setSl i s { x with rd := x.rd + 1, bid := some ⟨⟨x.rd + 1, i⟩, t, false, []⟩ }) ) := hid ⟨_, (fun k hk => by
      have hz3 := hB.out.size
      have hz4 := Hu4.out.size
      rcases hk with hk | hk
      · rcases HS4.out k hk with h | h
        · exact .inl h
        · exact .inr (by omega)
      · exact .inr (by omega)), (by
      refine ((Upd.of_below' hB.out S).trans Hu4.out fun _ _ h => h).trans hu57 fun k hk h => ?_
      subst h
      rcases HS4.out _ hSs4 with h | h
      · exact h
      · exact absurd hk (by have := hB.out.size; omega)), ⟨_, _, _, _, _, q7⟩⟩
  obtain ⟨S1, hp1, hp2, hp3⟩ := hpre.out
  have hsd := hid (sendAll_any ⟨1, i, 0, s, ⟨x.rd + 1, i⟩, bal0, ⟨#[]⟩⟩ hp3 hlen7)
  have hp := hid hp1; have hu7 := hid hp2
  clear hp1 hp2 hp3 q7 kS7 kB7 m7 hu57 hpre hgo7
  go_wp2_with fail
  refine hsd.out.mono ?_
  rintro e w8 ⟨rfl, h8⟩
  go_wp2_with fail
  go_ret
  refine ⟨rfl, ?_⟩
  unfold Gr.bid
  rw [← hx.out]
  exact GGo.then ⟨S1, hp.out, hu7.out, h8⟩

theorem propose_any (n s : Int) (t : ByteArray) (h : GAt S w g G) (hl : G.mail.length ≤ 1000000 ∧ G.nds.length ≤ 1000) (hr : -9223372036854775808 ≤ (G.at_ n.toNat s).rd + 1 ∧ (G.at_ n.toNat s).rd + 1 < 9223372036854775808) : Calls Try.prog 18 #[.pointer (some ⟨g, 0, none⟩), .int .i64 n, .int .i64 s, .string t] w fun e w' => e = .returned (.int .i64 (G.code n s t)) ∧ GGo S w g (G.propose n s t) w' := by
  have hst : ∀ {c : Int} {e : Ending} {w'}, G.code n s t = c → c ≠ 0 → e = .returned (.int .i64 c) ∧ Below w.heap.size w w' → e = .returned (.int .i64 (G.code n s t)) ∧ GGo S w g (G.propose n s t) w' := fun {c e w'} hc h0 hp => by
    unfold Gr.propose
    rw [if_neg (by rw [hc]; exact h0), hc]
    exact ⟨hp.1, GGo.of_below h hp.2⟩
  by_cases h0 : 0 ≤ n ∧ n < G.nds.length
  · obtain ⟨i, rfl⟩ := Int.eq_ofNat_of_zero_le h0.1
    have hi : i < G.nds.length := by omega
    rw [Int.toNat_natCast] at hr
    cases hu : (G.nd i).up with
    | false => exact (propose_down i s t h hi hu).mono fun e w' hp => hst (by unfold Gr.code; rw [if_pos (by rw [Int.toNat_natCast, hu]; simp)]) (by decide) hp
    | true =>
      have c1 : ¬ ¬ (0 ≤ (i : Int) ∧ (i : Int) < G.nds.length ∧ (G.nd (i : Int).toNat).up = true) := fun hn => hn ⟨h0.1, h0.2, by rw [Int.toNat_natCast, hu]⟩
      by_cases c2 : s < 0 ∨ 256 ≤ s
      · have hc : G.code i s t = 270 := by unfold Gr.code; rw [if_neg c1, if_pos c2]
        by_cases c3 : s < 0
        · exact (propose_low i s t h hi hu c3).mono fun e w' hp => hst hc (by decide) hp
        · exact (propose_high i s t h hi hu (by omega) (by omega)).mono fun e w' hp => hst hc (by decide) hp
      · by_cases c3 : 4096 < t.size
        · exact (propose_long i s t h hi hu (by omega) c3).mono fun e w' hp => hst (by unfold Gr.code; rw [if_neg c1, if_neg c2, if_pos c3]) (by decide) hp
        · by_cases c4 : 4096 < G.mail.length + G.nds.length
          · exact (propose_full i s t h hi hu (by omega) (by omega) c4 hl).mono fun e w' hp => hst (by unfold Gr.code; rw [if_neg c1, if_neg c2, if_neg c3, if_pos c4]) (by decide) hp
          · have hc : G.code i s t = 0 := by unfold Gr.code; rw [if_neg c1, if_neg c2, if_neg c3, if_neg c4]
            unfold Gr.propose
            rw [hc, if_pos rfl]
            exact propose_ok i s t h hi hu (by omega) (by omega) (by omega) hl.2 hr
  · exact (propose_far n s t h (by omega)).mono fun e w' hp => hst (by unfold Gr.code; rw [if_pos (by omega)]) (by decide) ⟨hp.1, hp.2 ▸ Below.refl _ _⟩
end

end Go.Proofs.Ytbgopicpdpkccaa
