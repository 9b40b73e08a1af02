/- The document's Merge.Arrive. -/
import Derived.Test.YtlnlffpkdeaimaaRef
namespace Go.Proofs.Ytlnlffpkdeaimaa
open Go.RowKit
set_option linter.unusedVariables false

theorem info_held : (Try.prog.info? 86).map (fun i => (i.zero, i.size, i.bytes)) = some (some (.agg #[.int .i64 0, .int .i64 0, .slice none 0 0]), 3, 40) := by kernel_rfl

set_option maxHeartbeats 800000 in
theorem rarrive_neg (S0 S : Nat → Prop) (g : Nat) (n e s x t : Int) (AL : Option Addr) (cL : Nat) (L : List ((Int × Int) × HV)) (A : Option Addr) (c : Nat) (rs : List RP) (w : World) (h : RAt S w g n e s AL cL L) (hL : L.length ≤ 1000000) (he : 0 ≤ e) (hx9 : x ≤ 9223372036854775807) (ht : t < 0) :
    Calls Try.prog 20 #[.pointer (some ⟨g, 0, none⟩), .int .i64 t, .agg #[.int .i64 x, .slice A rs.length c]] w fun r w' => r = .returned (.int .i64 2) ∧ Below w.heap.size w w' := by
  obtain ⟨c0, c1, c2, c3⟩ := h.cells
  have hg := h.blk.lt
  have hb2 := hid ((Below.refl w.heap.size w).alloc (Nat.le_refl _) (.cells #[.int .i64 x, .slice A rs.length c] 34))
  clear h
  have hd : decide (t < 0) = true := by simpa using ht
  go_enter Try.func20, Try.ntmps20
  go_wp2_with fail
  go_ret
  exact ⟨rfl, hb2.out⟩

set_option maxHeartbeats 800000 in
theorem rarrive_big (S0 S : Nat → Prop) (g : Nat) (n e s x t : Int) (AL : Option Addr) (cL : Nat) (L : List ((Int × Int) × HV)) (A : Option Addr) (c : Nat) (rs : List RP) (w : World) (h : RAt S w g n e s AL cL L) (hL : L.length ≤ 1000000) (he : 0 ≤ e) (hx9 : x ≤ 9223372036854775807) (ht0 : 0 ≤ t) (ht : n ≤ t) :
    Calls Try.prog 20 #[.pointer (some ⟨g, 0, none⟩), .int .i64 t, .agg #[.int .i64 x, .slice A rs.length c]] w fun r w' => r = .returned (.int .i64 2) ∧ Below w.heap.size w w' := by
  obtain ⟨c0, c1, c2, c3⟩ := h.cells
  have hg := h.blk.lt
  have hb2 := hid ((Below.refl w.heap.size w).alloc (Nat.le_refl _) (.cells #[.int .i64 x, .slice A rs.length c] 34))
  clear h
  have hd : decide (t < 0) = false := by simp; omega
  have hd2 : decide (n ≤ t) = true := by simpa using ht
  go_enter Try.func20, Try.ntmps20
  go_wp2_with fail
  go_ret
  exact ⟨rfl, hb2.out⟩

set_option maxHeartbeats 800000 in
theorem rarrive_epoch (S0 S : Nat → Prop) (g : Nat) (n e s x t : Int) (AL : Option Addr) (cL : Nat) (L : List ((Int × Int) × HV)) (A : Option Addr) (c : Nat) (rs : List RP) (w : World) (h : RAt S w g n e s AL cL L) (hL : L.length ≤ 1000000) (he : 0 ≤ e) (hx9 : x ≤ 9223372036854775807) (ht0 : 0 ≤ t) (ht : t < n) (hx : x < 0) :
    Calls Try.prog 20 #[.pointer (some ⟨g, 0, none⟩), .int .i64 t, .agg #[.int .i64 x, .slice A rs.length c]] w fun r w' => r = .returned (.int .i64 2) ∧ Below w.heap.size w w' := by
  obtain ⟨c0, c1, c2, c3⟩ := h.cells
  have hg := h.blk.lt
  have hb2 := hid ((Below.refl w.heap.size w).alloc (Nat.le_refl _) (.cells #[.int .i64 x, .slice A rs.length c] 34))
  clear h
  have hd : decide (t < 0) = false := by simp; omega
  have hd2 : decide (n ≤ t) = false := by simp; omega
  have hd3 : decide (x < 0) = true := by simpa using hx
  go_enter Try.func20, Try.ntmps20
  go_wp2_with fail
  go_ret
  exact ⟨rfl, hb2.out⟩

set_option maxHeartbeats 800000 in
theorem rarrive_old1 (S0 S : Nat → Prop) (g : Nat) (n e s x t : Int) (AL : Option Addr) (cL : Nat) (L : List ((Int × Int) × HV)) (A : Option Addr) (c : Nat) (rs : List RP) (w : World) (h : RAt S w g n e s AL cL L) (hL : L.length ≤ 1000000) (he : 0 ≤ e) (hx9 : x ≤ 9223372036854775807) (ht0 : 0 ≤ t) (ht : t < n) (hx : 0 ≤ x) (ho : x < e) :
    Calls Try.prog 20 #[.pointer (some ⟨g, 0, none⟩), .int .i64 t, .agg #[.int .i64 x, .slice A rs.length c]] w fun r w' => r = .returned (.int .i64 132) ∧ Below w.heap.size w w' := by
  obtain ⟨c0, c1, c2, c3⟩ := h.cells
  have hg := h.blk.lt
  have hb2 := hid ((Below.refl w.heap.size w).alloc (Nat.le_refl _) (.cells #[.int .i64 x, .slice A rs.length c] 34))
  clear h
  have hd : decide (t < 0) = false := by simp; omega
  have hd2 : decide (n ≤ t) = false := by simp; omega
  have hd3 : decide (x < 0) = false := by simp; omega
  have hd4 : decide (x < e) = true := by simpa using ho
  go_enter Try.func20, Try.ntmps20
  go_wp2_with fail
  go_quiet (fail)
  go_wp2
  go_ret
  exact ⟨rfl, below_drewN hb2.out _⟩

set_option maxHeartbeats 800000 in
theorem rarrive_old2 (S0 S : Nat → Prop) (g : Nat) (n e s x t : Int) (AL : Option Addr) (cL : Nat) (L : List ((Int × Int) × HV)) (A : Option Addr) (c : Nat) (rs : List RP) (w : World) (h : RAt S w g n e s AL cL L) (hL : L.length ≤ 1000000) (he : 0 ≤ e) (hx9 : x ≤ 9223372036854775807) (ht0 : 0 ≤ t) (ht : t < n) (hx : 0 ≤ x) (ho : x = e) (ho2 : t < s) :
    Calls Try.prog 20 #[.pointer (some ⟨g, 0, none⟩), .int .i64 t, .agg #[.int .i64 x, .slice A rs.length c]] w fun r w' => r = .returned (.int .i64 132) ∧ Below w.heap.size w w' := by
  obtain ⟨c0, c1, c2, c3⟩ := h.cells
  have hg := h.blk.lt
  have hb2 := hid ((Below.refl w.heap.size w).alloc (Nat.le_refl _) (.cells #[.int .i64 x, .slice A rs.length c] 34))
  clear h
  have hd : decide (t < 0) = false := by simp; omega
  have hd2 : decide (n ≤ t) = false := by simp; omega
  have hd3 : decide (x < 0) = false := by simp; omega
  have hd4 : decide (x < e) = false := by simp; omega
  have hd5 : (x == e) = true := by simpa using ho
  have hd6 : decide (t < s) = true := by simpa using ho2
  clear ho
  go_enter Try.func20, Try.ntmps20
  go_wp2_with fail
  go_quiet (fail)
  go_wp2
  go_ret
  exact ⟨rfl, below_drewN hb2.out _⟩

set_option maxHeartbeats 800000 in
theorem rarrive_far_a (S0 S : Nat → Prop) (g : Nat) (n e s x t : Int) (AL : Option Addr) (cL : Nat) (L : List ((Int × Int) × HV)) (A : Option Addr) (c : Nat) (rs : List RP) (w : World) (h : RAt S w g n e s AL cL L) (hL : L.length ≤ 1000000) (he : 0 ≤ e) (hx9 : x ≤ 9223372036854775807) (ht0 : 0 ≤ t) (ht : t < n) (hx : 0 ≤ x) (ho : e < x) (hf : 64 ≤ x - e) :
    Calls Try.prog 20 #[.pointer (some ⟨g, 0, none⟩), .int .i64 t, .agg #[.int .i64 x, .slice A rs.length c]] w fun r w' => r = .returned (.int .i64 131) ∧ Below w.heap.size w w' := by
  obtain ⟨c0, c1, c2, c3⟩ := h.cells
  have hg := h.blk.lt
  have hb2 := hid ((Below.refl w.heap.size w).alloc (Nat.le_refl _) (.cells #[.int .i64 x, .slice A rs.length c] 34))
  clear h
  have hd : decide (t < 0) = false := by simp; omega
  have hd2 : decide (n ≤ t) = false := by simp; omega
  have hd3 : decide (x < 0) = false := by simp; omega
  have hd4 : decide (x < e) = false := by simp; omega
  have hd5 : (x == e) = false := by simp; omega
  have hw1 : IntKind.i64.wrap (x - e) = x - e := IntWalk.i64_in _ (by omega)
  have hd7 : decide (64 ≤ x - e) = true := by simpa using hf
  go_enter Try.func20, Try.ntmps20
  go_wp2_with fail
  go_quiet (fail)
  go_wp2
  go_quiet (fail)
  go_wp2
  go_ret
  exact ⟨rfl, below_drewN (below_drewN hb2.out _) _⟩

set_option maxHeartbeats 800000 in
theorem rarrive_far_b (S0 S : Nat → Prop) (g : Nat) (n e s x t : Int) (AL : Option Addr) (cL : Nat) (L : List ((Int × Int) × HV)) (A : Option Addr) (c : Nat) (rs : List RP) (w : World) (h : RAt S w g n e s AL cL L) (hL : L.length ≤ 1000000) (he : 0 ≤ e) (hx9 : x ≤ 9223372036854775807) (ht0 : 0 ≤ t) (ht : t < n) (hx : 0 ≤ x) (ho : x = e) (ho2 : ¬ t < s) (hf : 64 ≤ x - e) :
    Calls Try.prog 20 #[.pointer (some ⟨g, 0, none⟩), .int .i64 t, .agg #[.int .i64 x, .slice A rs.length c]] w fun r w' => r = .returned (.int .i64 131) ∧ Below w.heap.size w w' := by
  obtain ⟨c0, c1, c2, c3⟩ := h.cells
  have hg := h.blk.lt
  have hb2 := hid ((Below.refl w.heap.size w).alloc (Nat.le_refl _) (.cells #[.int .i64 x, .slice A rs.length c] 34))
  clear h
  have hd : decide (t < 0) = false := by simp; omega
  have hd2 : decide (n ≤ t) = false := by simp; omega
  have hd3 : decide (x < 0) = false := by simp; omega
  have hd4 : decide (x < e) = false := by simp; omega
  have hd5 : (x == e) = true := by simpa using ho
  have hd6 : decide (t < s) = false := by simpa using ho2
  have hw1 : IntKind.i64.wrap (x - e) = x - e := IntWalk.i64_in _ (by omega)
  have hd7 : decide (64 ≤ x - e) = true := by simpa using hf
  clear ho
  go_enter Try.func20, Try.ntmps20
  go_wp2_with fail
  go_quiet (fail)
  go_wp2
  go_quiet (fail)
  go_wp2
  go_ret
  exact ⟨rfl, below_drewN (below_drewN hb2.out _) _⟩

set_option maxRecDepth 100000 in
set_option maxHeartbeats 1000000 in
theorem rarrive_there_a (S0 S : Nat → Prop) (g : Nat) (n e s x t : Int) (AL : Option Addr) (cL : Nat) (L : List ((Int × Int) × HV)) (A : Option Addr) (c : Nat) (rs : List RP) (w : World) (h : RAt S w g n e s AL cL L) (hL : L.length ≤ 1000000) (he : 0 ≤ e) (hx9 : x ≤ 9223372036854775807) (ha : PlansOk S0 w A rs) (hl : rs.length ≤ 1000000000) (hfit : ∀ r ∈ rs, r.p.fits) (ht0 : 0 ≤ t) (ht : t < n) (hx : 0 ≤ x) (ho : e < x) (hf : ¬ 64 ≤ x - e) (hv : HV) (hget : getA (x, t) L = some hv) :
    Calls Try.prog 20 #[.pointer (some ⟨g, 0, none⟩), .int .i64 t, .agg #[.int .i64 x, .slice A rs.length c]] w fun r w' => r = .returned (.int .i64 (codeIf (eqL (plans hv.rs) (plans rs)))) ∧ Below w.heap.size w w' := by
  obtain ⟨c0, c1, c2, c3⟩ := h.cells
  have hg := h.blk.lt
  rcases idxA_getA (x, t) L 0 with ⟨h1, _⟩ | ⟨m, v, hm, h1, h2, h3, _⟩
  · rw [hget] at h1; cases h1
  obtain rfl : hv = v := by rw [hget] at h1; exact Option.some.inj h1
  have h2 : idxA (x, t) L 0 = (m : Int) := by simpa using h2
  have h2 := hid h2
  have hmem : ((x, t), hv) ∈ L := h3 ▸ List.getElem_mem hm
  have hfo := h.fits _ hmem
  have h3 := hid h3
  have h0 := h
  clear h hget h1
  have hd : decide (t < 0) = false := by simp; omega
  have hd2 : decide (n ≤ t) = false := by simp; omega
  have hd3 : decide (x < 0) = false := by simp; omega
  have hd4 : decide (x < e) = false := by simp; omega
  have hd5 : (x == e) = false := by simp; omega
  have hw1 : IntKind.i64.wrap (x - e) = x - e := IntWalk.i64_in _ (by omega)
  have hd7 : decide (64 ≤ x - e) = false := by simpa using hf
  go_enter Try.func20, Try.ntmps20
  go_wp2_with fail
  go_quiet (fail)
  go_wp2
  go_quiet (fail)
  go_wp2_with fail
  have hB1 : ∀ k, Below w.heap.size w ((w.alloc (.cells #[.int .i64 x, .slice A rs.length c] 34)).drewN k) := fun k => below_drewN ((Below.refl _ _).alloc (Nat.le_refl _) _) k
  have kb1 : ∀ k, Blk ((w.alloc (.cells #[.int .i64 x, .slice A rs.length c] 34)).drewN k) w.heap.size 34 #[.int .i64 x, .slice A rs.length c] := fun k => (Blk.new w 34 #[.int .i64 x, .slice A rs.length c]).drewN k
  generalize hW : (w.alloc (.cells #[.int .i64 x, .slice A rs.length c] 34)).drewN _ = W1
  have hB1 : Below w.heap.size w W1 := hW ▸ hB1 _
  have kb1 : Blk W1 w.heap.size 34 #[.int .i64 x, .slice A rs.length c] := hW ▸ kb1 _
  clear hW
  have h1 := h0.below hB1
  have hz1 := hB1.size
  have hzb := kb1.lt
  clear c0 c1 c2 c3
  obtain ⟨c0, c1, c2, c3⟩ := h1.cells
  have b0 : W1.cell? ⟨w.heap.size, 0, none⟩ = some (.int .i64 x) := kb1.cell 0
  have b1 : W1.cell? ⟨w.heap.size, 1, none⟩ = some (.slice A rs.length c) := kb1.cell 1
  refine (at_any S g AL cL L x t _ c3 h1.row.rd (by omega)).mono ?_
  rintro r w' ⟨rfl, rfl⟩
  rw [h2.out]
  obtain ⟨b, o, rfl, _, hlb, a0, a1, a2⟩ := hrow_at h1.row.rd hm
  rw [h3.out] at a0 a1 a2
  have hpl1 := (h1.plans _ hmem).ok'
  have ha1 := ha.below hB1
  have i1 : (m : Int) < (L.length : Int) := by omega
  have hm0 : decide ((0 : Int) ≤ (m : Int)) = true := by simp
  go_wp2_with fail
  go_still_tail 9, (by kernel_rfl)
  change wpList _ _ _ _ _ W1.drew
  go_wp2_with fail
  refine (batches_any S S0 _ _ hv.rs rs x x _ _ W1.drew ⟨hpl1.row, fun r hr => ⟨(hpl1.ok r hr).args, (hpl1.ok r hr).rd, (hpl1.ok r hr).wr⟩⟩ ⟨ha1.row, fun r hr => ⟨(ha1.ok r hr).args, (ha1.ok r hr).rd, (ha1.ok r hr).wr⟩⟩ hfo.1 hl hfo.2 hfit).mono ?_
  rintro r w2 ⟨rfl, hb3⟩
  rw [eqB_eq rfl]
  go_wp2_with fail
  · go_ret
    exact ⟨by rw [codeIf_no (by assumption)]; rfl, hB1.drew.trans (hb3.mono hB1.size)⟩
  · go_ret
    exact ⟨by rw [codeIf_yes (by assumption)]; rfl, hB1.drew.trans (hb3.mono hB1.size)⟩

set_option maxRecDepth 100000 in
set_option maxHeartbeats 1000000 in
theorem rarrive_there_b (S0 S : Nat → Prop) (g : Nat) (n e s x t : Int) (AL : Option Addr) (cL : Nat) (L : List ((Int × Int) × HV)) (A : Option Addr) (c : Nat) (rs : List RP) (w : World) (h : RAt S w g n e s AL cL L) (hL : L.length ≤ 1000000) (he : 0 ≤ e) (hx9 : x ≤ 9223372036854775807) (ha : PlansOk S0 w A rs) (hl : rs.length ≤ 1000000000) (hfit : ∀ r ∈ rs, r.p.fits) (ht0 : 0 ≤ t) (ht : t < n) (hx : 0 ≤ x) (ho : x = e) (ho2 : ¬ t < s) (hf : ¬ 64 ≤ x - e) (hv : HV) (hget : getA (x, t) L = some hv) :
    Calls Try.prog 20 #[.pointer (some ⟨g, 0, none⟩), .int .i64 t, .agg #[.int .i64 x, .slice A rs.length c]] w fun r w' => r = .returned (.int .i64 (codeIf (eqL (plans hv.rs) (plans rs)))) ∧ Below w.heap.size w w' := by
  obtain ⟨c0, c1, c2, c3⟩ := h.cells
  have hg := h.blk.lt
  rcases idxA_getA (x, t) L 0 with ⟨h1, _⟩ | ⟨m, v, hm, h1, h2, h3, _⟩
  · rw [hget] at h1; cases h1
  obtain rfl : hv = v := by rw [hget] at h1; exact Option.some.inj h1
  have h2 : idxA (x, t) L 0 = (m : Int) := by simpa using h2
  have h2 := hid h2
  have hmem : ((x, t), hv) ∈ L := h3 ▸ List.getElem_mem hm
  have hfo := h.fits _ hmem
  have h3 := hid h3
  have h0 := h
  clear h hget h1
  have hd : decide (t < 0) = false := by simp; omega
  have hd2 : decide (n ≤ t) = false := by simp; omega
  have hd3 : decide (x < 0) = false := by simp; omega
  have hd4 : decide (x < e) = false := by simp; omega
  have hd5 : (x == e) = true := by simpa using ho
  have hd6 : decide (t < s) = false := by simpa using ho2
  have hw1 : IntKind.i64.wrap (x - e) = x - e := IntWalk.i64_in _ (by omega)
  have hd7 : decide (64 ≤ x - e) = false := by simpa using hf
  clear ho
  go_enter Try.func20, Try.ntmps20
  go_wp2_with fail
  go_quiet (fail)
  go_wp2
  go_quiet (fail)
  go_wp2_with fail
  have hB1 : ∀ k, Below w.heap.size w ((w.alloc (.cells #[.int .i64 x, .slice A rs.length c] 34)).drewN k) := fun k => below_drewN ((Below.refl _ _).alloc (Nat.le_refl _) _) k
  have kb1 : ∀ k, Blk ((w.alloc (.cells #[.int .i64 x, .slice A rs.length c] 34)).drewN k) w.heap.size 34 #[.int .i64 x, .slice A rs.length c] := fun k => (Blk.new w 34 #[.int .i64 x, .slice A rs.length c]).drewN k
  generalize hW : (w.alloc (.cells #[.int .i64 x, .slice A rs.length c] 34)).drewN _ = W1
  have hB1 : Below w.heap.size w W1 := hW ▸ hB1 _
  have kb1 : Blk W1 w.heap.size 34 #[.int .i64 x, .slice A rs.length c] := hW ▸ kb1 _
  clear hW
  have h1 := h0.below hB1
  have hz1 := hB1.size
  have hzb := kb1.lt
  clear c0 c1 c2 c3
  obtain ⟨c0, c1, c2, c3⟩ := h1.cells
  have b0 : W1.cell? ⟨w.heap.size, 0, none⟩ = some (.int .i64 x) := kb1.cell 0
  have b1 : W1.cell? ⟨w.heap.size, 1, none⟩ = some (.slice A rs.length c) := kb1.cell 1
  refine (at_any S g AL cL L x t _ c3 h1.row.rd (by omega)).mono ?_
  rintro r w' ⟨rfl, rfl⟩
  rw [h2.out]
  obtain ⟨b, o, rfl, _, hlb, a0, a1, a2⟩ := hrow_at h1.row.rd hm
  rw [h3.out] at a0 a1 a2
  have hpl1 := (h1.plans _ hmem).ok'
  have ha1 := ha.below hB1
  have i1 : (m : Int) < (L.length : Int) := by omega
  have hm0 : decide ((0 : Int) ≤ (m : Int)) = true := by simp
  go_wp2_with fail
  go_still_tail 9, (by kernel_rfl)
  change wpList _ _ _ _ _ W1.drew
  go_wp2_with fail
  refine (batches_any S S0 _ _ hv.rs rs x x _ _ W1.drew ⟨hpl1.row, fun r hr => ⟨(hpl1.ok r hr).args, (hpl1.ok r hr).rd, (hpl1.ok r hr).wr⟩⟩ ⟨ha1.row, fun r hr => ⟨(ha1.ok r hr).args, (ha1.ok r hr).rd, (ha1.ok r hr).wr⟩⟩ hfo.1 hl hfo.2 hfit).mono ?_
  rintro r w2 ⟨rfl, hb3⟩
  rw [eqB_eq rfl]
  go_wp2_with fail
  · go_ret
    exact ⟨by rw [codeIf_no (by assumption)]; rfl, hB1.drew.trans (hb3.mono hB1.size)⟩
  · go_ret
    exact ⟨by rw [codeIf_yes (by assumption)]; rfl, hB1.drew.trans (hb3.mono hB1.size)⟩

theorem PlansS.kept {S : Nat → Prop} {w w' : World} {A : Option Addr} {c : Nat} {rs : List RP} {base size n : Nat} {v : Value} {xs : List Value} (h : PlansS S w A c rs) (hg : w.grownBy w' v.ownBlock) (hv : w.ownsRow base 86 size v n xs) : PlansS S w' A c rs :=
  ⟨⟨h.row.1.kept hg (own_type_ne h.row.1 hv (by decide)), h.row.2⟩, fun r hr => ⟨⟨(h.ok r hr).args.1.kept hg (own_type_ne (h.ok r hr).args.1 hv (by decide)), (h.ok r hr).args.2⟩,
    ⟨(h.ok r hr).rd.1.kept hg (own_type_ne (h.ok r hr).rd.1 hv (by decide)), (h.ok r hr).rd.2⟩, ⟨(h.ok r hr).wr.1.kept hg (own_type_ne (h.ok r hr).wr.1 hv (by decide)), (h.ok r hr).wr.2⟩⟩⟩
/-- k plans of a batch have been copied into the new entry -/
structure NewRel (w : World) (W1 : World) (x t : Int) (A : Option Addr) (c : Nat) (rs : List RP) (k : Nat) (wr : World) (A' : Option Addr) (c' : Nat) (rs' : List RP) : Prop where
  le : k ≤ rs.length
  len : rs'.length = k
  eq : plans rs' = plans (rs.take k)
  below : Below W1.heap.size W1 wr
  h : Blk wr W1.heap.size 86 #[.int .i64 t, .int .i64 x, .slice A' k c']
  own : PlansOwn (W1.heap.size + 1) wr A' c' rs'

set_option maxRecDepth 100000 in
set_option maxHeartbeats 2000000 in
theorem rarrive_new_a (S0 S : Nat → Prop) (g : Nat) (n e s x t : Int) (AL : Option Addr) (cL : Nat) (L : List ((Int × Int) × HV)) (A : Option Addr) (c : Nat) (rs : List RP) (w : World) (h : RAt S w g n e s AL cL L) (hL : L.length ≤ 1000000) (he : 0 ≤ e) (hx9 : x ≤ 9223372036854775807) (ha : PlansOk S0 w A rs) (hl : rs.length ≤ 1000000000) (hfit : ∀ r ∈ rs, r.p.fits) (ht0 : 0 ≤ t) (ht : t < n) (hx : 0 ≤ x) (ho : e < x) (hf : ¬ 64 ≤ x - e) (hget : getA (x, t) L = none) :
    Calls Try.prog 20 #[.pointer (some ⟨g, 0, none⟩), .int .i64 t, .agg #[.int .i64 x, .slice A rs.length c]] w fun r w' => ∃ (hv : HV) (S' : Nat → Prop) (AL' : Option Addr) (cL' : Nat), (plans hv.rs = plans rs ∧ ∀ k, S' k → S k ∨ w.heap.size ≤ k) ∧ r = .returned (.int .i64 0) ∧ RAt S' w' g n e s AL' cL' (L ++ [((x, t), hv)]) ∧ Upd (fun k => k = g ∨ S k) w w' := by
  obtain ⟨c0, c1, c2, c3⟩ := h.cells
  have hg := h.blk.lt
  obtain ⟨ip, hip, hp0, hp1, hp2⟩ := info_parts info_cloneP_any
  obtain ⟨ih, hih, hh0, hh1, hh2⟩ := info_parts info_held
  have h2 : idxA (x, t) L 0 = -1 := by
    rcases idxA_getA (x, t) L 0 with ⟨_, h2⟩ | ⟨m, v, hm, h1, _⟩
    · exact h2
    · rw [hget] at h1; cases h1
  have h2 := hid h2
  have h0 := h
  clear h hget
  have hd : decide (t < 0) = false := by simp; omega
  have hd2 : decide (n ≤ t) = false := by simp; omega
  have hd3 : decide (x < 0) = false := by simp; omega
  have hd4 : decide (x < e) = false := by simp; omega
  have hd5 : (x == e) = false := by simp; omega
  have hw1 : IntKind.i64.wrap (x - e) = x - e := IntWalk.i64_in _ (by omega)
  have hd7 : decide (64 ≤ x - e) = false := by simpa using hf
  go_enter Try.func20, Try.ntmps20
  go_wp2_with fail
  go_quiet (fail)
  go_wp2
  go_quiet (fail)
  go_wp2_with fail
  have hB1 : ∀ k, Below w.heap.size w ((w.alloc (.cells #[.int .i64 x, .slice A rs.length c] 34)).drewN k) := fun k => below_drewN ((Below.refl _ _).alloc (Nat.le_refl _) _) k
  have kb1 : ∀ k, Blk ((w.alloc (.cells #[.int .i64 x, .slice A rs.length c] 34)).drewN k) w.heap.size 34 #[.int .i64 x, .slice A rs.length c] := fun k => (Blk.new w 34 #[.int .i64 x, .slice A rs.length c]).drewN k
  generalize hW : (w.alloc (.cells #[.int .i64 x, .slice A rs.length c] 34)).drewN _ = W1
  have hB1 : Below w.heap.size w W1 := hW ▸ hB1 _
  have kb1 : Blk W1 w.heap.size 34 #[.int .i64 x, .slice A rs.length c] := hW ▸ kb1 _
  clear hW
  have h1 := h0.below hB1
  have hz1 := hB1.size
  have hzb := kb1.lt
  clear c0 c1 c2 c3
  obtain ⟨c0, c1, c2, c3⟩ := h1.cells
  have b0 : W1.cell? ⟨w.heap.size, 0, none⟩ = some (.int .i64 x) := kb1.cell 0
  have b1 : W1.cell? ⟨w.heap.size, 1, none⟩ = some (.slice A rs.length c) := kb1.cell 1
  refine (at_any S g AL cL L x t _ c3 h1.row.rd (by omega)).mono ?_
  rintro r w' ⟨rfl, rfl⟩
  rw [h2.out]
  have ha1 := ha.below hB1
  go_wp2_with fail
  go_loopw [9] (fun i wr => ∃ (k : Nat) (A' : Option Addr) (c' : Nat) (rs' : List RP), i = .int .i64 k ∧ NewRel w W1 x t A c rs k wr A' c' rs') (fun i _ => rs.length - (intOf i).toNat)
  case atStart => exact ⟨0, none, 0, [], rfl, ⟨by omega, rfl, rfl, (Below.refl _ _).alloc (Nat.le_refl _) _, Blk.new _ _ _, ⟨World.ownsRow_nil _ _ _ _, by simp⟩⟩⟩
  case round =>
    obtain ⟨k, A', c', rs', rfl, R⟩ := hrel
    have hk := R.le
    have hzW := R.h.lt
    have B1 := (R.below.cell (p := ⟨w.heap.size, 1, none⟩) hzb).trans b1
    have C3 := (R.below.cell (p := ⟨g, 3, none⟩) h1.blk.lt).trans c3
    have y2 : wr.cell? ⟨W1.heap.size, 2, none⟩ = some (.slice A' k c') := R.h.cell 2
    have q2 := R.h.frozen 2
    by_cases hlt : k < rs.length
    · obtain ⟨b, o, rfl, _, hb0, r0, a0, a1, a2, a3, a4, a5, a6⟩ := ha1.at_ hlt
      have f1 := hfit _ (List.getElem_mem hlt)
      have i1 : (k : Int) < (rs.length : Int) := by omega
      have r1 := r0.below R.below
      have own0 := R.own
      have g0 : ∀ j v, W1.cell? ⟨b, j, none⟩ = some v → wr.cell? ⟨b, j, none⟩ = some v := fun j v hv => (R.below.cell (p := ⟨b, j, none⟩) hb0).trans hv
      have d0 := g0 _ _ a0
      have d1 := g0 _ _ a1
      have d2 := g0 _ _ a2
      have d3 := g0 _ _ a3
      have d4 := g0 _ _ a4
      have d5 := g0 _ _ a5
      have d6 := g0 _ _ a6
      clear g0
      have hB := R.below
      have hlen := hid R.len
      have heq := hid R.eq
      have kh := R.h
      clear R ha ha1 hfit a0 a1 a2 a3 a4 a5 a6 r0 C3
      go_wp2_with fail
      go_region_law
        (first
          | (go_simp; go_at_call 32; refine (eplan_any S0 rs[k] _ ?_ f1).mono ?_; (exact ⟨r1.args, r1.rd, r1.wr⟩); rintro e w1 ⟨r', ⟨hp0, rfl⟩, hown1, hb1⟩; have hp := hid hp0; clear hp0; have hq1 : Below wr.heap.size wr w1 := ((Below.refl _ wr).drew).trans hb1; have hk1 := (hq1.cell (p := ⟨W1.heap.size, 2, none⟩) hzW).trans y2; have hz1 : W1.heap.size < w1.heap.size := Nat.lt_of_lt_of_le hzW hq1.size)
          | (refine step_append_rd _ rfl (.tmp 89) (.tmp 96) 32 rfl (W1.heap.size + 1) 71 ip _ 7 112 Try.underlying32 hip hp0 hp1 hp2 rfl (by omega) (.slice A' k c') k (pcells rs') rfl ?_ (fun b => b = w1.heap.size) (some ⟨w1.heap.size, 0, none⟩) 1 1 r'.cells rfl ?_ ?_ ?_ ?_ ?_ (k + 1) rfl (pcells rs' ++ r'.cells) rfl ?_
             · exact (own_below (hlen.out ▸ own0.row : World.ownsRow wr.drew _ _ _ (.slice A' k c') k (pcells rs')) hb1).alloc _
             · exact Rd.new w1 71 7 1 r'.cells.toArray _ rfl rfl
             · exact cells_one r'
             · simp only [maxLen]; omega
             · omega
             · have := hq1.size; simp; omega
             intro A2 c2 w2 hown2 hg2 hat2
             have hrow2 : ∀ g, (Value.slice A' k c').ownBlock = some g → W1.heap.size + 1 ≤ g := fun g hg => (World.ownsRow.lt (hlen.out ▸ own0.row : World.ownsRow wr _ _ _ (.slice A' k c') k (pcells rs')) g hg).1
             have hq2 : Below (W1.heap.size + 1) wr w2 := ((hq1.mono (by omega)).alloc (by have := hq1.size; omega) _).grown hg2 (by have := hq1.size; simp; omega) hrow2
             have hfz : w2.frozen? ⟨W1.heap.size, 2, none⟩ = false := (hq2.frozen (p := ⟨W1.heap.size, 2, none⟩) (by simp)).trans q2
             have hk2 := (hq2.cell (p := ⟨W1.heap.size, 2, none⟩) (by simp)).trans y2
             have hrow2 := hid hrow2))
      all_goals
        have hz2 : W1.heap.size < w2.heap.size := Nat.lt_of_lt_of_le hzW hq2.size
        go_wp2_with fail
        go_roundw
        case rel =>
          refine ⟨k + 1, A2, c2, rs' ++ [r'], by go_num, ⟨by omega, by simp [hlen.out], ?_, ?_, ?_, ?_, ?_⟩⟩
          · rw [List.take_succ_eq_append_getElem hlt]
            simp only [plans, List.map_append, List.map_cons, List.map_nil] at heq ⊢
            rw [hp.out, ← heq.out]
          · exact (hB.trans (hq2.mono (by omega))).setCell (by simp) _
          · exact (kh.below hq2 (by omega)).set_ 2 _
          · have e1 : (rs' ++ [r']).length = k + 1 := by simp [hlen.out]
            rw [e1, pcells_app]
            have e2 : pcells [r'] = r'.cells := by simp [pcells]
            rw [e2]
            exact ownsRow_setCell_below hown2 (by simp) _
          · have hrow1 := (own_below (hlen.out ▸ own0.row : World.ownsRow wr.drew _ _ _ (.slice A' k c') k (pcells rs')) hb1).alloc (.cells #[.int .i64 r'.p.cl, .int .u64 r'.p.tok, .string r'.p.nm, .slice r'.A1 r'.p.args.length r'.c1, .int .i64 r'.p.how, .slice r'.A2 r'.p.rd.length r'.c2, .slice r'.A3 r'.p.wr.length r'.c3] 71)
            intro r hr
            rcases List.mem_append.1 hr with hr | hr
            · exact (RP.own.kept ((RP.own.below (w := wr.drew) ⟨(own0.ok r hr).args, (own0.ok r hr).rd, (own0.ok r hr).wr⟩ hb1).alloc _) hg2 hrow1).setBelow (by simp) _
            · obtain rfl : r = r' := by simpa using hr
              exact (RP.own.kept ((hown1.base (by simp; omega)).alloc _) hg2 hrow1).setBelow (by simp) _
        case measure => simp [intOf]; omega
    · obtain rfl : k = rs.length := by omega
      have y0 : wr.cell? ⟨W1.heap.size, 0, none⟩ = some (.int .i64 t) := R.h.cell 0
      have y1 : wr.cell? ⟨W1.heap.size, 1, none⟩ = some (.int .i64 x) := R.h.cell 1
      have hrs : plans rs' = plans rs := by rw [R.eq, List.take_length]
      have hrs := hid hrs
      have hln := hid R.len
      have hr3 := h1.below R.below
      have hgr := hr3.blk.lt
      have hown := R.own
      have hB := R.below
      have qg := fun j => hr3.blk.frozen j
      clear R
      have C3 := (hB.cell (p := ⟨g, 3, none⟩) h1.blk.lt).trans c3
      have hrow : wr.ownsRow 0 86 3 (.slice AL L.length cL) L.length (hcells L) := hr3.row.1
      have hzw : W1.heap.size < wr.heap.size := hzW
      have hne : Hid (some g ≠ (Value.slice AL L.length cL).ownBlock) := fun e => (hr3.out g (hr3.row.2 g e.symm)).1 rfl
      go_wp2_with fail
      go_region_law
        (first
          | (refine step_append_rd _ rfl (.tmp 104) (.tmp 106) 55 rfl 0 86 ih _ 3 40 Try.underlying55 hih hh0 hh1 hh2 rfl (by omega) (.slice AL L.length cL) L.length (hcells L) rfl ?_ (fun b => b = wr.heap.size) (some ⟨wr.heap.size, 0, none⟩) 1 1 [.int .i64 t, .int .i64 x, .slice A' rs.length c'] rfl ?_ ?_ ?_ ?_ ?_ (L.length + 1) rfl (hcells L ++ [.int .i64 t, .int .i64 x, .slice A' rs.length c']) rfl ?_
             · exact World.ownsRow.alloc (w := wr.drew) hrow _
             · exact Rd.new wr.drew 86 3 1 #[.int .i64 t, .int .i64 x, .slice A' rs.length c'] _ rfl rfl
             · intro u hu; simp only [List.mem_cons, List.not_mem_nil, or_false] at hu; rcases hu with h | h | h <;> subst h <;> rfl
             · simp only [maxLen]; omega
             · omega
             · omega
             intro A2 c2 w2 hown2 hg2 hat2
             have kbg : Blk w2 g 57 #[.int .i64 n, .int .i64 e, .int .i64 s, .slice AL L.length cL] := ((hr3.blk.drew).alloc _).grown hg2 hne.out
             have G3 : w2.cell? ⟨g, 3, none⟩ = some (.slice AL L.length cL) := kbg.cell 3
             have Q3 := kbg.frozen 3))
      all_goals
        go_wp2_with fail
        go_ret
        have hzw2 : wr.heap.size + 1 ≤ w2.heap.size := by have := hg2.size; simpa using this
        have hgw : g < w.heap.size := hg
        have hB02 : w.heap.size ≤ wr.heap.size := Nat.le_trans hB1.size hB.size
        have hx2 : Hid (∀ b, b ≠ g → (w2.setCell ⟨g, 3, none⟩ (.slice A2 (L.length + 1) c2)).heap[b]? = w2.heap[b]?) := fun b hb => Below.heap_setCell _ _ _ _ hb
        have hrowA : World.ownsRow (wr.drew.alloc (.cells #[.int .i64 t, .int .i64 x, .slice A' rs.length c'] 86)) 0 86 3 (.slice AL L.length cL) L.length (hcells L) := World.ownsRow.alloc (w := wr.drew) hrow _
        refine ⟨⟨A', c', rs', Nil⟩, fun k => S k ∨ (w.heap.size ≤ k ∧ k < w2.heap.size), A2, c2, ⟨hrs.out, fun k hk => hk.imp id (·.1)⟩, rfl, ?_, ?_⟩
        · refine ⟨?_, ?_, ?_, ?_, ?_⟩
          · have hk := kbg.set_ 3 (.slice A2 (L.length + 1) c2)
            simpa using hk
          · have e1 : (L ++ [((x, t), (⟨A', c', rs', Nil⟩ : HV))]).length = L.length + 1 := by simp
            rw [e1, hcells_app]
            have e2 : hcells [((x, t), (⟨A', c', rs', Nil⟩ : HV))] = [.int .i64 t, .int .i64 x, .slice A' rs.length c'] := by simp [hcells, hcell, hln.out]
            rw [e2]
            refine OwnS.keep (w := w2) ⟨hown2, fun b hb => ?_⟩ (fun b hb hl => hx2.out b ?_)
            · have hlt := (hown2.lt b hb).2
              rcases hat2 with e | e
              · exact .inl (hr3.row.2 b (e ▸ hb))
              · refine .inr ⟨?_, hlt⟩
                have : b = wr.heap.size + 1 := by rw [e] at hb; injection hb with hb; simpa using hb.symm
                omega
            · rintro rfl
              rcases hb with hb | hb
              · exact (hr3.out _ hb).1 rfl
              · omega
          · intro y hy
            rcases List.mem_append.1 hy with hy | hy
            · refine PlansS.keep (w := w2) (PlansS.kept (PlansS.more (S' := fun k => S k ∨ (w.heap.size ≤ k ∧ k < w2.heap.size)) (PlansS.keep (w' := wr.drew.alloc (.cells #[.int .i64 t, .int .i64 x, .slice A' rs.length c'] 86)) (hr3.plans y hy) fun b hb hl => Below.heap_alloc wr.drew _ b hl) fun b hb _ => .inl hb) hg2 hrowA) fun b hb hl => hx2.out b ?_
              rintro rfl
              rcases hb with hb | hb
              · exact (hr3.out _ hb).1 rfl
              · omega
            · obtain rfl := List.mem_singleton.1 hy
              have hps := PlansS.of_own hown
              refine PlansS.keep (w := w2) (PlansS.kept (PlansS.more (S' := fun k => S k ∨ (w.heap.size ≤ k ∧ k < w2.heap.size)) (PlansS.keep (w' := wr.drew.alloc (.cells #[.int .i64 t, .int .i64 x, .slice A' rs.length c'] 86)) hps fun b hb hl => Below.heap_alloc wr.drew _ b hl) fun b hb _ => .inr ⟨by omega, by omega⟩) hg2 hrowA) fun b hb hl => hx2.out b ?_
              rintro rfl
              rcases hb with hb | hb
              · exact (hr3.out _ hb).1 rfl
              · omega
          · intro k hk
            rcases hk with hk | hk
            · have := hr3.out k hk
              exact ⟨this.1, by simp; omega⟩
            · exact ⟨by omega, by simpa using hk.2⟩
          · intro y hy
            rcases List.mem_append.1 hy with hy | hy
            · exact h0.fits y hy
            · obtain rfl := List.mem_singleton.1 hy
              have hp1 := hrs.out
              have hln' := hln.out
              refine ⟨by show rs'.length ≤ _; omega, fun r hr => ?_⟩
              have hr' : r.p ∈ plans rs := by rw [← hp1]; exact List.mem_map.2 ⟨r, hr, rfl⟩
              obtain ⟨q, hq, hqe⟩ := List.mem_map.1 hr'
              rw [← hqe]; exact hfit q hq
        · refine Upd.setCell (p := ⟨g, 3, none⟩) ?_ (fun _ => .inl rfl) _
          refine Upd.grown (w' := wr.drew.alloc (.cells #[.int .i64 t, .int .i64 x, .slice A' rs.length c'] 86)) ?_ hg2 (fun k hk _ => .inr (hr3.row.2 k hk))
          refine Upd.alloc ?_ _
          exact ((Upd.of_below' hB1 _).trans (Upd.of_below' hB (fun k => k = g ∨ S k)) (fun _ _ h => h)).drew

set_option maxRecDepth 100000 in
set_option maxHeartbeats 2000000 in
theorem rarrive_new_b (S0 S : Nat → Prop) (g : Nat) (n e s x t : Int) (AL : Option Addr) (cL : Nat) (L : List ((Int × Int) × HV)) (A : Option Addr) (c : Nat) (rs : List RP) (w : World) (h : RAt S w g n e s AL cL L) (hL : L.length ≤ 1000000) (he : 0 ≤ e) (hx9 : x ≤ 9223372036854775807) (ha : PlansOk S0 w A rs) (hl : rs.length ≤ 1000000000) (hfit : ∀ r ∈ rs, r.p.fits) (ht0 : 0 ≤ t) (ht : t < n) (hx : 0 ≤ x) (ho : x = e) (ho2 : ¬ t < s) (hf : ¬ 64 ≤ x - e) (hget : getA (x, t) L = none) :
    Calls Try.prog 20 #[.pointer (some ⟨g, 0, none⟩), .int .i64 t, .agg #[.int .i64 x, .slice A rs.length c]] w fun r w' => ∃ (hv : HV) (S' : Nat → Prop) (AL' : Option Addr) (cL' : Nat), (plans hv.rs = plans rs ∧ ∀ k, S' k → S k ∨ w.heap.size ≤ k) ∧ r = .returned (.int .i64 0) ∧ RAt S' w' g n e s AL' cL' (L ++ [((x, t), hv)]) ∧ Upd (fun k => k = g ∨ S k) w w' := by
  obtain ⟨c0, c1, c2, c3⟩ := h.cells
  have hg := h.blk.lt
  obtain ⟨ip, hip, hp0, hp1, hp2⟩ := info_parts info_cloneP_any
  obtain ⟨ih, hih, hh0, hh1, hh2⟩ := info_parts info_held
  have h2 : idxA (x, t) L 0 = -1 := by
    rcases idxA_getA (x, t) L 0 with ⟨_, h2⟩ | ⟨m, v, hm, h1, _⟩
    · exact h2
    · rw [hget] at h1; cases h1
  have h2 := hid h2
  have h0 := h
  clear h hget
  have hd : decide (t < 0) = false := by simp; omega
  have hd2 : decide (n ≤ t) = false := by simp; omega
  have hd3 : decide (x < 0) = false := by simp; omega
  have hd4 : decide (x < e) = false := by simp; omega
  have hd5 : (x == e) = true := by simpa using ho
  have hd6 : decide (t < s) = false := by simpa using ho2
  have hw1 : IntKind.i64.wrap (x - e) = x - e := IntWalk.i64_in _ (by omega)
  have hd7 : decide (64 ≤ x - e) = false := by simpa using hf
  clear ho
  go_enter Try.func20, Try.ntmps20
  go_wp2_with fail
  go_quiet (fail)
  go_wp2
  go_quiet (fail)
  go_wp2_with fail
  have hB1 : ∀ k, Below w.heap.size w ((w.alloc (.cells #[.int .i64 x, .slice A rs.length c] 34)).drewN k) := fun k => below_drewN ((Below.refl _ _).alloc (Nat.le_refl _) _) k
  have kb1 : ∀ k, Blk ((w.alloc (.cells #[.int .i64 x, .slice A rs.length c] 34)).drewN k) w.heap.size 34 #[.int .i64 x, .slice A rs.length c] := fun k => (Blk.new w 34 #[.int .i64 x, .slice A rs.length c]).drewN k
  generalize hW : (w.alloc (.cells #[.int .i64 x, .slice A rs.length c] 34)).drewN _ = W1
  have hB1 : Below w.heap.size w W1 := hW ▸ hB1 _
  have kb1 : Blk W1 w.heap.size 34 #[.int .i64 x, .slice A rs.length c] := hW ▸ kb1 _
  clear hW
  have h1 := h0.below hB1
  have hz1 := hB1.size
  have hzb := kb1.lt
  clear c0 c1 c2 c3
  obtain ⟨c0, c1, c2, c3⟩ := h1.cells
  have b0 : W1.cell? ⟨w.heap.size, 0, none⟩ = some (.int .i64 x) := kb1.cell 0
  have b1 : W1.cell? ⟨w.heap.size, 1, none⟩ = some (.slice A rs.length c) := kb1.cell 1
  refine (at_any S g AL cL L x t _ c3 h1.row.rd (by omega)).mono ?_
  rintro r w' ⟨rfl, rfl⟩
  rw [h2.out]
  have ha1 := ha.below hB1
  go_wp2_with fail
  go_loopw [9] (fun i wr => ∃ (k : Nat) (A' : Option Addr) (c' : Nat) (rs' : List RP), i = .int .i64 k ∧ NewRel w W1 x t A c rs k wr A' c' rs') (fun i _ => rs.length - (intOf i).toNat)
  case atStart => exact ⟨0, none, 0, [], rfl, ⟨by omega, rfl, rfl, (Below.refl _ _).alloc (Nat.le_refl _) _, Blk.new _ _ _, ⟨World.ownsRow_nil _ _ _ _, by simp⟩⟩⟩
  case round =>
    obtain ⟨k, A', c', rs', rfl, R⟩ := hrel
    have hk := R.le
    have hzW := R.h.lt
    have B1 := (R.below.cell (p := ⟨w.heap.size, 1, none⟩) hzb).trans b1
    have C3 := (R.below.cell (p := ⟨g, 3, none⟩) h1.blk.lt).trans c3
    have y2 : wr.cell? ⟨W1.heap.size, 2, none⟩ = some (.slice A' k c') := R.h.cell 2
    have q2 := R.h.frozen 2
    by_cases hlt : k < rs.length
    · obtain ⟨b, o, rfl, _, hb0, r0, a0, a1, a2, a3, a4, a5, a6⟩ := ha1.at_ hlt
      have f1 := hfit _ (List.getElem_mem hlt)
      have i1 : (k : Int) < (rs.length : Int) := by omega
      have r1 := r0.below R.below
      have own0 := R.own
      have g0 : ∀ j v, W1.cell? ⟨b, j, none⟩ = some v → wr.cell? ⟨b, j, none⟩ = some v := fun j v hv => (R.below.cell (p := ⟨b, j, none⟩) hb0).trans hv
      have d0 := g0 _ _ a0
      have d1 := g0 _ _ a1
      have d2 := g0 _ _ a2
      have d3 := g0 _ _ a3
      have d4 := g0 _ _ a4
      have d5 := g0 _ _ a5
      have d6 := g0 _ _ a6
      clear g0
      have hB := R.below
      have hlen := hid R.len
      have heq := hid R.eq
      have kh := R.h
      clear R ha ha1 hfit a0 a1 a2 a3 a4 a5 a6 r0 C3
      go_wp2_with fail
      go_region_law
        (first
          | (go_simp; go_at_call 32; refine (eplan_any S0 rs[k] _ ?_ f1).mono ?_; (exact ⟨r1.args, r1.rd, r1.wr⟩); rintro e w1 ⟨r', ⟨hp0, rfl⟩, hown1, hb1⟩; have hp := hid hp0; clear hp0; have hq1 : Below wr.heap.size wr w1 := ((Below.refl _ wr).drew).trans hb1; have hk1 := (hq1.cell (p := ⟨W1.heap.size, 2, none⟩) hzW).trans y2; have hz1 : W1.heap.size < w1.heap.size := Nat.lt_of_lt_of_le hzW hq1.size)
          | (refine step_append_rd _ rfl (.tmp 89) (.tmp 96) 32 rfl (W1.heap.size + 1) 71 ip _ 7 112 Try.underlying32 hip hp0 hp1 hp2 rfl (by omega) (.slice A' k c') k (pcells rs') rfl ?_ (fun b => b = w1.heap.size) (some ⟨w1.heap.size, 0, none⟩) 1 1 r'.cells rfl ?_ ?_ ?_ ?_ ?_ (k + 1) rfl (pcells rs' ++ r'.cells) rfl ?_
             · exact (own_below (hlen.out ▸ own0.row : World.ownsRow wr.drew _ _ _ (.slice A' k c') k (pcells rs')) hb1).alloc _
             · exact Rd.new w1 71 7 1 r'.cells.toArray _ rfl rfl
             · exact cells_one r'
             · simp only [maxLen]; omega
             · omega
             · have := hq1.size; simp; omega
             intro A2 c2 w2 hown2 hg2 hat2
             have hrow2 : ∀ g, (Value.slice A' k c').ownBlock = some g → W1.heap.size + 1 ≤ g := fun g hg => (World.ownsRow.lt (hlen.out ▸ own0.row : World.ownsRow wr _ _ _ (.slice A' k c') k (pcells rs')) g hg).1
             have hq2 : Below (W1.heap.size + 1) wr w2 := ((hq1.mono (by omega)).alloc (by have := hq1.size; omega) _).grown hg2 (by have := hq1.size; simp; omega) hrow2
             have hfz : w2.frozen? ⟨W1.heap.size, 2, none⟩ = false := (hq2.frozen (p := ⟨W1.heap.size, 2, none⟩) (by simp)).trans q2
             have hk2 := (hq2.cell (p := ⟨W1.heap.size, 2, none⟩) (by simp)).trans y2
             have hrow2 := hid hrow2))
      all_goals
        have hz2 : W1.heap.size < w2.heap.size := Nat.lt_of_lt_of_le hzW hq2.size
        go_wp2_with fail
        go_roundw
        case rel =>
          refine ⟨k + 1, A2, c2, rs' ++ [r'], by go_num, ⟨by omega, by simp [hlen.out], ?_, ?_, ?_, ?_, ?_⟩⟩
          · rw [List.take_succ_eq_append_getElem hlt]
            simp only [plans, List.map_append, List.map_cons, List.map_nil] at heq ⊢
            rw [hp.out, ← heq.out]
          · exact (hB.trans (hq2.mono (by omega))).setCell (by simp) _
          · exact (kh.below hq2 (by omega)).set_ 2 _
          · have e1 : (rs' ++ [r']).length = k + 1 := by simp [hlen.out]
            rw [e1, pcells_app]
            have e2 : pcells [r'] = r'.cells := by simp [pcells]
            rw [e2]
            exact ownsRow_setCell_below hown2 (by simp) _
          · have hrow1 := (own_below (hlen.out ▸ own0.row : World.ownsRow wr.drew _ _ _ (.slice A' k c') k (pcells rs')) hb1).alloc (.cells #[.int .i64 r'.p.cl, .int .u64 r'.p.tok, .string r'.p.nm, .slice r'.A1 r'.p.args.length r'.c1, .int .i64 r'.p.how, .slice r'.A2 r'.p.rd.length r'.c2, .slice r'.A3 r'.p.wr.length r'.c3] 71)
            intro r hr
            rcases List.mem_append.1 hr with hr | hr
            · exact (RP.own.kept ((RP.own.below (w := wr.drew) ⟨(own0.ok r hr).args, (own0.ok r hr).rd, (own0.ok r hr).wr⟩ hb1).alloc _) hg2 hrow1).setBelow (by simp) _
            · obtain rfl : r = r' := by simpa using hr
              exact (RP.own.kept ((hown1.base (by simp; omega)).alloc _) hg2 hrow1).setBelow (by simp) _
        case measure => simp [intOf]; omega
    · obtain rfl : k = rs.length := by omega
      have y0 : wr.cell? ⟨W1.heap.size, 0, none⟩ = some (.int .i64 t) := R.h.cell 0
      have y1 : wr.cell? ⟨W1.heap.size, 1, none⟩ = some (.int .i64 x) := R.h.cell 1
      have hrs : plans rs' = plans rs := by rw [R.eq, List.take_length]
      have hrs := hid hrs
      have hln := hid R.len
      have hr3 := h1.below R.below
      have hgr := hr3.blk.lt
      have hown := R.own
      have hB := R.below
      have qg := fun j => hr3.blk.frozen j
      clear R
      have C3 := (hB.cell (p := ⟨g, 3, none⟩) h1.blk.lt).trans c3
      have hrow : wr.ownsRow 0 86 3 (.slice AL L.length cL) L.length (hcells L) := hr3.row.1
      have hzw : W1.heap.size < wr.heap.size := hzW
      have hne : Hid (some g ≠ (Value.slice AL L.length cL).ownBlock) := fun e => (hr3.out g (hr3.row.2 g e.symm)).1 rfl
      go_wp2_with fail
      go_region_law
        (first
          | (refine step_append_rd _ rfl (.tmp 104) (.tmp 106) 55 rfl 0 86 ih _ 3 40 Try.underlying55 hih hh0 hh1 hh2 rfl (by omega) (.slice AL L.length cL) L.length (hcells L) rfl ?_ (fun b => b = wr.heap.size) (some ⟨wr.heap.size, 0, none⟩) 1 1 [.int .i64 t, .int .i64 x, .slice A' rs.length c'] rfl ?_ ?_ ?_ ?_ ?_ (L.length + 1) rfl (hcells L ++ [.int .i64 t, .int .i64 x, .slice A' rs.length c']) rfl ?_
             · exact World.ownsRow.alloc (w := wr.drew) hrow _
             · exact Rd.new wr.drew 86 3 1 #[.int .i64 t, .int .i64 x, .slice A' rs.length c'] _ rfl rfl
             · intro u hu; simp only [List.mem_cons, List.not_mem_nil, or_false] at hu; rcases hu with h | h | h <;> subst h <;> rfl
             · simp only [maxLen]; omega
             · omega
             · omega
             intro A2 c2 w2 hown2 hg2 hat2
             have kbg : Blk w2 g 57 #[.int .i64 n, .int .i64 e, .int .i64 s, .slice AL L.length cL] := ((hr3.blk.drew).alloc _).grown hg2 hne.out
             have G3 : w2.cell? ⟨g, 3, none⟩ = some (.slice AL L.length cL) := kbg.cell 3
             have Q3 := kbg.frozen 3))
      all_goals
        go_wp2_with fail
        go_ret
        have hzw2 : wr.heap.size + 1 ≤ w2.heap.size := by have := hg2.size; simpa using this
        have hgw : g < w.heap.size := hg
        have hB02 : w.heap.size ≤ wr.heap.size := Nat.le_trans hB1.size hB.size
        have hx2 : Hid (∀ b, b ≠ g → (w2.setCell ⟨g, 3, none⟩ (.slice A2 (L.length + 1) c2)).heap[b]? = w2.heap[b]?) := fun b hb => Below.heap_setCell _ _ _ _ hb
        have hrowA : World.ownsRow (wr.drew.alloc (.cells #[.int .i64 t, .int .i64 x, .slice A' rs.length c'] 86)) 0 86 3 (.slice AL L.length cL) L.length (hcells L) := World.ownsRow.alloc (w := wr.drew) hrow _
        refine ⟨⟨A', c', rs', Nil⟩, fun k => S k ∨ (w.heap.size ≤ k ∧ k < w2.heap.size), A2, c2, ⟨hrs.out, fun k hk => hk.imp id (·.1)⟩, rfl, ?_, ?_⟩
        · refine ⟨?_, ?_, ?_, ?_, ?_⟩
          · have hk := kbg.set_ 3 (.slice A2 (L.length + 1) c2)
            simpa using hk
          · have e1 : (L ++ [((x, t), (⟨A', c', rs', Nil⟩ : HV))]).length = L.length + 1 := by simp
            rw [e1, hcells_app]
            have e2 : hcells [((x, t), (⟨A', c', rs', Nil⟩ : HV))] = [.int .i64 t, .int .i64 x, .slice A' rs.length c'] := by simp [hcells, hcell, hln.out]
            rw [e2]
            refine OwnS.keep (w := w2) ⟨hown2, fun b hb => ?_⟩ (fun b hb hl => hx2.out b ?_)
            · have hlt := (hown2.lt b hb).2
              rcases hat2 with e | e
              · exact .inl (hr3.row.2 b (e ▸ hb))
              · refine .inr ⟨?_, hlt⟩
                have : b = wr.heap.size + 1 := by rw [e] at hb; injection hb with hb; simpa using hb.symm
                omega
            · rintro rfl
              rcases hb with hb | hb
              · exact (hr3.out _ hb).1 rfl
              · omega
          · intro y hy
            rcases List.mem_append.1 hy with hy | hy
            · refine PlansS.keep (w := w2) (PlansS.kept (PlansS.more (S' := fun k => S k ∨ (w.heap.size ≤ k ∧ k < w2.heap.size)) (PlansS.keep (w' := wr.drew.alloc (.cells #[.int .i64 t, .int .i64 x, .slice A' rs.length c'] 86)) (hr3.plans y hy) fun b hb hl => Below.heap_alloc wr.drew _ b hl) fun b hb _ => .inl hb) hg2 hrowA) fun b hb hl => hx2.out b ?_
              rintro rfl
              rcases hb with hb | hb
              · exact (hr3.out _ hb).1 rfl
              · omega
            · obtain rfl := List.mem_singleton.1 hy
              have hps := PlansS.of_own hown
              refine PlansS.keep (w := w2) (PlansS.kept (PlansS.more (S' := fun k => S k ∨ (w.heap.size ≤ k ∧ k < w2.heap.size)) (PlansS.keep (w' := wr.drew.alloc (.cells #[.int .i64 t, .int .i64 x, .slice A' rs.length c'] 86)) hps fun b hb hl => Below.heap_alloc wr.drew _ b hl) fun b hb _ => .inr ⟨by omega, by omega⟩) hg2 hrowA) fun b hb hl => hx2.out b ?_
              rintro rfl
              rcases hb with hb | hb
              · exact (hr3.out _ hb).1 rfl
              · omega
          · intro k hk
            rcases hk with hk | hk
            · have := hr3.out k hk
              exact ⟨this.1, by simp; omega⟩
            · exact ⟨by omega, by simpa using hk.2⟩
          · intro y hy
            rcases List.mem_append.1 hy with hy | hy
            · exact h0.fits y hy
            · obtain rfl := List.mem_singleton.1 hy
              have hp1 := hrs.out
              have hln' := hln.out
              refine ⟨by show rs'.length ≤ _; omega, fun r hr => ?_⟩
              have hr' : r.p ∈ plans rs := by rw [← hp1]; exact List.mem_map.2 ⟨r, hr, rfl⟩
              obtain ⟨q, hq, hqe⟩ := List.mem_map.1 hr'
              rw [← hqe]; exact hfit q hq
        · refine Upd.setCell (p := ⟨g, 3, none⟩) ?_ (fun _ => .inl rfl) _
          refine Upd.grown (w' := wr.drew.alloc (.cells #[.int .i64 t, .int .i64 x, .slice A' rs.length c'] 86)) ?_ hg2 (fun k hk _ => .inr (hr3.row.2 k hk))
          refine Upd.alloc ?_ _
          exact ((Upd.of_below' hB1 _).trans (Upd.of_below' hB (fun k => k = g ∨ S k)) (fun _ _ h => h)).drew

end Go.Proofs.Ytlnlffpkdeaimaa
