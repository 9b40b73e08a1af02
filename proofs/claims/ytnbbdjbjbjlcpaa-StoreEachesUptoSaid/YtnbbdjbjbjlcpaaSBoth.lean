/- store: both: the program's store and the document's behind a story. -/
import Derived.Test.YtnbbdjbjbjlcpaaSOwn
import Derived.Test.YtnbbdjbjbjlcpaaSLive
import Derived.Test.YtnbbdjbjbjlcpaaSClaim
import Derived.Test.YtnbbdjbjbjlcpaaSRApply
import Derived.Test.YtnbbdjbjbjlcpaaSRDump
namespace Go.Proofs.Ytnbbdjbjbjlcpaa
open Go.RowKit
set_option linter.unusedVariables false
set_option linter.unusedSimpArgs false

theorem SActs.all {S : Nat → Prop} {w : World} {A : Option Addr} {us : List SA} (h : SActs S w A us) : SActs (fun b => b < w.heap.size) w A us := ⟨h.row.all, fun a ha => ⟨(h.ok a ha).1.all, (h.ok a ha).2.all⟩⟩
/-- both stores, each in memory of its own -/
def Two (B : Nat) (w : World) (g r : Nat) : Prop := ∃ S S2 s, PAt S w g s ∧ RAt S2 w r s ∧ (∀ j, S j → B ≤ j) ∧ (∀ j, S2 j → B ≤ j) ∧ (∀ j, S j → ¬ S2 j)
/-- the program's store has gone on, the document's not -/
def TwoM (B m : Nat) (w : World) (g r : Nat) (s s' : St) : Prop := ∃ S S2, PAt S w g s' ∧ RAt S2 w r s ∧ (∀ j, S j → B ≤ j) ∧ (∀ j, S2 j → B ≤ j) ∧ (∀ j, S j → ¬ S2 j) ∧ ∀ j, S2 j → j < m
/-- both, before the program's goes on: its blocks lie below m -/
def TwoB (B m : Nat) (w : World) (g r : Nat) (s : St) : Prop := ∃ S S2, PAt S w g s ∧ RAt S2 w r s ∧ (∀ j, S j → B ≤ j) ∧ (∀ j, S2 j → B ≤ j) ∧ (∀ j, S j → ¬ S2 j) ∧ (∀ j, S j → j < m) ∧ ∀ j, S2 j → j < m
/-- what lies from m on is as it was -/
def Far (m : Nat) (w w' : World) : Prop := ∀ j, m ≤ j → j < w.heap.size → w'.heap[j]? = w.heap[j]?
def okKs (ks : List ByteArray) : Prop := ∀ k ∈ ks, k.size ≤ 9223372036854775806
def okWs (ws : List Wr) : Prop := ∀ x ∈ ws, x.key.size ≤ 9223372036854775806 ∧ x.v.s.size ≤ 9223372036854775806
section
variable {w w' : World} {B g r : Nat}
theorem Two.below (h : Two B w g r) (hb : Below w.heap.size w w') : Two B w' g r := by
  obtain ⟨S, S2, s, h1, h2, h3⟩ := h; exact ⟨S, S2, s, h1.below hb, h2.below hb, h3⟩
theorem Two.st (h : Two B w g r) : ∃ s, TwoB B w.heap.size w g r s := by obtain ⟨S, S2, s, h1, h2, h3, h4, h5⟩ := h; exact ⟨s, S, S2, h1, h2, h3, h4, h5, h1.lt, h2.lt⟩
theorem TwoB.below {m : Nat} {s : St} (h : TwoB B m w g r s) (hb : Below w.heap.size w w') : TwoB B m w' g r s := by
  obtain ⟨S, S2, h1, h2, h3⟩ := h; exact ⟨S, S2, h1.below hb, h2.below hb, h3⟩
theorem TwoB.two {m : Nat} {s : St} (h : TwoB B m w g r s) : Two B w g r := by
  obtain ⟨S, S2, h1, h2, h3, h4, h5, _, _⟩ := h; exact ⟨S, S2, s, h1, h2, h3, h4, h5⟩
theorem claim_two {s : St} {m : Nat} {A : Option Addr} {c : Nat} (ks : List ByteArray) (h : TwoB B m w g r s) (hB : B ≤ w.heap.size) (hr : Rd (fun b => m ≤ b) w 1 A ks.length (strs ks)) (hs : okKs ks) (hn : ks.length ≤ 1000000) :
    Calls Try.prog 14 #[.pointer (some ⟨g, 0, none⟩), .slice A ks.length c] w fun e w' => e = .returned (.int .i64 (claimE s ks)) ∧ TwoM B m w' g r s (claimS s ks) ∧ Below B w w' ∧ Far m w w' := by
  obtain ⟨S, S2, h1, h2, h3, h4, h5, hm, hm2⟩ := h
  refine (claim_any ks h1 hr (fun b hb hS => by have := hm b hS; omega) hs hn).mono ?_
  rintro e w' ⟨rfl, hp, hu⟩
  exact ⟨rfl, ⟨S, S2, hp, h2.upd hu fun b hb hS => h5 b hS hb, h3, h4, h5, hm2⟩, hu.below hB fun k hk hS => by have := h3 k hS; omega, fun j hj hl => hu.block j hl fun hS => by have := hm j hS; omega⟩
theorem apply_two {s : St} {m : Nat} {A : Option Addr} {c : Nat} (ws : List Wr) (h : TwoB B m w g r s) (hB : B ≤ w.heap.size) (hr : Rd (fun b => m ≤ b) w 5 A ws.length (wrCells ws)) (hs : okWs ws) (hn : ws.length ≤ 1000000) :
    Calls Try.prog 9 #[.pointer (some ⟨g, 0, none⟩), .slice A ws.length c] w fun e w' => e = .returned (.int .i64 (applyE s ws)) ∧ TwoM B m w' g r s (applyS s ws) ∧ Below B w w' ∧ Far m w w' := by
  obtain ⟨S, S2, h1, h2, h3, h4, h5, hm, hm2⟩ := h
  refine (apply_any ws h1 hr (fun b hb hS => by have := hm b hS; omega) hs hn).mono ?_
  rintro e w' ⟨rfl, hp, hu⟩
  exact ⟨rfl, ⟨S, S2, hp, h2.upd hu fun b hb hS => h5 b hS hb, h3, h4, h5, hm2⟩, hu.below hB fun k hk hS => by have := h3 k hS; omega, fun j hj hl => hu.block j hl fun hS => by have := hm j hS; omega⟩
theorem RAt.inS {S : Nat → Prop} {w : World} {r : Nat} {s : St} (h : RAt S w r s) : S r := by obtain ⟨_, _, h⟩ := h; exact h.inS
theorem rgo_two {s' : St} (S S2 : Nat → Prop) (h1 : PAt S w g s') (h3 : ∀ j, S j → B ≤ j) (h4 : ∀ j, S2 j → B ≤ j) (h5 : ∀ j, S j → ¬ S2 j) {m : Nat} (h6 : ∀ j, S2 j → j < m) (hB : B ≤ w.heap.size) (h : RGo S2 w r s' w') : Two B w' g r ∧ Below B w w' ∧ Far m w w' := by
  obtain ⟨S', ha, hb, hu⟩ := h
  refine ⟨⟨S, S', s', h1.upd hu fun b hb hS => h5 b hb hS, ha, h3, fun j hj => ?_, fun j hj hS => ?_⟩, hu.below hB fun k hk hS => by have := h4 k hS; omega, fun j hj hl => hu.block j hl fun hS => by have := h6 j hS; omega⟩
  · rcases hb j hj with h | h
    · exact h4 j h
    · omega
  · rcases hb j hS with h | h
    · exact h5 j hj h
    · have := h1.lt j hj; omega
theorem rclaim_two {s : St} {A : Option Addr} {c : Nat} (ks : List ByteArray) {m : Nat} (h : TwoM B m w g r s (claimS s ks)) (hB : B ≤ w.heap.size) (hr : Rd (fun b => b < B) w 1 A ks.length (strs ks)) (hs : okKs ks) (hn : ks.length ≤ 1000000) :
    Calls Try.prog 15 #[.pointer (some ⟨r, 0, none⟩), .slice A ks.length c] w fun e w' => e = .returned (.int .i64 (claimE s ks)) ∧ Two B w' g r ∧ Below B w w' ∧ Far m w w' := by
  obtain ⟨S, S2, h1, h2, h3, h4, h5, h6⟩ := h
  refine (rclaim_any ks h2 hr (fun b hb => ⟨by omega, fun e => by have := h4 r h2.inS; omega⟩) hs hn).mono ?_
  rintro e w' ⟨rfl, hgo⟩
  exact ⟨rfl, rgo_two S S2 h1 h3 h4 h5 h6 hB hgo⟩
theorem rapply_two {s : St} {A : Option Addr} {c : Nat} (ws : List Wr) {m : Nat} (h : TwoM B m w g r s (applyS s ws)) (hB : B ≤ w.heap.size) (hr : Rd (fun b => b < B) w 5 A ws.length (wrCells ws)) (hs : okWs ws) (hn : ws.length ≤ 1000000) :
    Calls Try.prog 16 #[.pointer (some ⟨r, 0, none⟩), .slice A ws.length c] w fun e w' => e = .returned (.int .i64 (applyE s ws)) ∧ Two B w' g r ∧ Below B w w' ∧ Far m w w' := by
  obtain ⟨S, S2, h1, h2, h3, h4, h5, h6⟩ := h
  refine (rapply_any ws h2 hr hs (fun b hb => ⟨by omega, fun e => by have := h4 r h2.inS; omega⟩) hn).mono ?_
  rintro e w' ⟨rfl, hgo⟩
  exact ⟨rfl, rgo_two S S2 h1 h3 h4 h5 h6 hB hgo⟩
theorem both_bad {Sx : Nat → Prop} (p r : Int) {A : Option Addr} {c n : Nat} (hg : goodPR p r = false) : Calls Try.prog 5 #[.agg #[.int .i64 p, .int .i64 r, .slice A n c]] w fun e w' => e = .returned (.tuple #[.pointer none, .pointer none]) ∧ Below w.heap.size w w' := by
  have kb := hid (Blk.new w 24 #[.int .i64 p, .int .i64 r, .slice A n c])
  have hB : Hid (Below w.heap.size w (w.alloc (.cells #[.int .i64 p, .int .i64 r, .slice A n c] 24))) := hid ((Below.refl _ _).alloc (Nat.le_refl _) _)
  have hb1 := fun w => hid (new_bad p r w hg)
  have hb2 := fun w => hid (rnew_bad p r w hg)
  clear hg
  go_enter Try.func5, Try.ntmps5
  go_upto_region 1 with fail
  generalize w.alloc (.cells #[.int .i64 p, .int .i64 r, .slice A n c] 24) = w1 at *
  generalize hm : w.heap.size = m at *
  have x0 : w1.cell? ⟨m, 0, none⟩ = some (.int .i64 p) := kb.out.cell 0
  have x1 : w1.cell? ⟨m, 1, none⟩ = some (.int .i64 r) := kb.out.cell 1
  go_wp2_with fail
  refine (hb1 _).out.mono ?_
  rintro e wq ⟨rfl, hwq⟩
  obtain rfl := hwq.symm
  go_wp2_with fail
  refine (hb2 _).out.mono ?_
  rintro e wq ⟨rfl, hwq⟩
  obtain rfl := hwq.symm
  go_wp2_with fail
  refine (num_any _ _).mono ?_
  rintro e wq ⟨rfl, hwq⟩
  obtain rfl := hwq.symm
  go_wp2_with fail
  go_ret2
  exact ⟨rfl, hm ▸ hB.out⟩
theorem cell_bel {b o : Nat} {v : Value} (h : Below B w w') (hb : b < B) (hc : w.cell? ⟨b, o, none⟩ = some v) : w'.cell? ⟨b, o, none⟩ = some v := (Upd.of_below (M := fun j => B ≤ j) h fun _ _ h => h).cell hc (by omega)
theorem blk_far {m b : Nat} {t : TypeId} {cs : Array Value} (h : Blk w b t cs) (hf : Far m w w') (hb : m ≤ b) : Blk w' b t cs := (hf b hb h.lt).trans h
/-- in the loop: the stores, and the story's box -/
structure BothRel (w1 : World) (wr : World) (g r : Nat) : Prop where
  two : Two w1.heap.size wr g r
  bel : Below w1.heap.size w1 wr
set_option maxRecDepth 100000 in
set_option maxHeartbeats 4000000 in
theorem both_ok {Sx : Nat → Prop} (p r : Nat) {A : Option Addr} {c : Nat} {us : List SA} (h : SActs Sx w A us) (hn : us.length ≤ 200) (hp : ∀ a ∈ us, a.ks.length ≤ 6000 ∧ a.ws.length ≤ 6000) (hz : ∀ a ∈ us, okKs a.ks ∧ okWs a.ws) (h1 : 1 ≤ p ∧ p ≤ 64) (h2 : 1 ≤ r ∧ r ≤ 4096) :
    Calls Try.prog 5 #[.agg #[.int .i64 p, .int .i64 r, .slice A us.length c]] w fun e w' => ∃ g r, e = .returned (.tuple #[.pointer (some ⟨g, 0, none⟩), .pointer (some ⟨r, 0, none⟩)]) ∧ Two w.heap.size w' g r ∧ Below w.heap.size w w' := by
  have hB0 : Below w.heap.size w (w.alloc (.cells #[.int .i64 p, .int .i64 r, .slice A us.length c] 24)) := (Below.refl _ _).alloc (Nat.le_refl _) _
  have kb := hid (Blk.new w 24 #[.int .i64 p, .int .i64 r, .slice A us.length c])
  have hs := hid (h.below hB0).all
  have hB := hid hB0
  have hN : (us.length : Int) ≤ 200 := by omega
  have hp := hid hp
  have hz := hid hz
  have n1 := fun w => hid (new_ok p r w h1 h2)
  have n2 := fun w => hid (rnew_ok p r w h1 h2)
  clear h hB0 hn h1 h2
  go_enter Try.func5, Try.ntmps5
  go_upto_region 1 with fail
  generalize w.alloc (.cells #[.int .i64 p, .int .i64 r, .slice A us.length c] 24) = w1 at *
  generalize hm : w.heap.size = m at *
  have x0 : w1.cell? ⟨m, 0, none⟩ = some (.int .i64 p) := kb.out.cell 0
  have x1 : w1.cell? ⟨m, 1, none⟩ = some (.int .i64 r) := kb.out.cell 1
  go_wp2_with fail
  refine (n1 _).out.mono ?_
  rintro e w2 ⟨S, g, rfl, P2, g2, hb2⟩
  have B2 := hid hb2
  have k2 := kb.out.below_all hb2
  have P2 := hid P2
  have g2 := hid g2
  have x0 : w2.cell? ⟨m, 0, none⟩ = some (.int .i64 p) := k2.cell 0
  have x1 : w2.cell? ⟨m, 1, none⟩ = some (.int .i64 r) := k2.cell 1
  clear hb2 k2
  go_wp2_with fail
  refine (n2 _).out.mono ?_
  rintro e w3 ⟨S2, g', rfl, P3, g3, hb3⟩
  have R3 : Hid (BothRel w1 w3 g g') := hid ⟨⟨S, S2, _, P2.out.below hb3, P3, g2.out, fun j hj => by have := g3 j hj; have := B2.out.size; omega, fun j hj h2 => by have := g3 j h2; have := P2.out.lt j hj; omega⟩, B2.out.trans (hb3.mono B2.out.size)⟩
  clear hb3 P3 g3 P2 g2 B2 x0 x1 n1 n2
  go_wp2_with fail
  refine (num_any _ _).mono ?_
  rintro e wq ⟨rfl, hwq⟩
  obtain rfl := hwq.symm
  go_wp2_with fail
  go_loopw [8] (fun v wr => ∃ k : Nat, v = .int .i64 k ∧ k ≤ us.length ∧ BothRel w1 wr g g') (fun v _ => us.length - (intOf v).toNat)
  case atStart => exact ⟨0, rfl, Nat.zero_le _, R3.out⟩
  case round =>
    clear R3
    obtain ⟨k, rfl, hk, R0⟩ := hrel
    have R := hid R0
    have x2 : wr.cell? ⟨m, 2, none⟩ = some (.slice A us.length c) := (kb.out.below_all R0.bel).cell 2
    clear R0
    by_cases hlt : k < us.length
    · have i1 : (k : Int) < (us.length : Int) := by omega
      obtain ⟨b, o, rfl, _, hbl, hok, y0, y1, y2⟩ := hs.out.at_ hlt
      have hyy : Hid (∀ w', Below w1.heap.size w1 w' → w'.cell? ⟨m, 2, none⟩ = some (.slice (some ⟨b, o, none⟩) us.length c) ∧ w'.cell? ⟨b, o + k * 3, none⟩ = some (.int .i64 us[k].kind) ∧ w'.cell? ⟨b, o + k * 3 + 1, none⟩ = some (.slice us[k].A1 us[k].ks.length us[k].c1) ∧ w'.cell? ⟨b, o + k * 3 + 2, none⟩ = some (.slice us[k].A2 us[k].ws.length us[k].c2) ∧ us[k].ok (fun b => b < w1.heap.size) w') := hid fun w' h => ⟨(kb.out.below_all h).cell 2, cell_bel h hbl y0, cell_bel h hbl y1, cell_bel h hbl y2, hok.1.below h fun _ h => h, hok.2.below h fun _ h => h⟩
      clear y0 y1 y2 hok x2
      have hpk := hid (hp.out us[k] (List.getElem_mem hlt))
      have hzk := hid (hz.out us[k] (List.getElem_mem hlt))
      generalize us[k] = a at *
      obtain ⟨x2, y0, y1, y2, hok⟩ := hyy.out wr R.out.bel
      have hok := hid hok
      obtain ⟨s, hTB⟩ := R.out.two.st
      have hTB := hid hTB
      have hB1 := hid R.out.bel.size
      go_wp2_with fail
      refine (own_any a hok.out (by have := hpk.out.1; omega) (by have := hpk.out.2; omega)).mono ?_
      rintro e w4 ⟨B1, d1, B2, d2, rfl, hr1, hr2, hb4⟩
      have hb5 : Below wr.heap.size wr (w4.alloc (.cells #[.int .i64 a.kind, .slice B1 a.ks.length d1, .slice B2 a.ws.length d2] 48)) := hb4.alloc hb4.size _
      have k9 := hid (Blk.new w4 48 #[.int .i64 a.kind, .slice B1 a.ks.length d1, .slice B2 a.ws.length d2])
      have hs4 := hid hb4.size
      have hr1 := hid (hr1.alloc (.cells #[.int .i64 a.kind, .slice B1 a.ks.length d1, .slice B2 a.ws.length d2] 48))
      have hr2 := hid (hr2.alloc (.cells #[.int .i64 a.kind, .slice B1 a.ks.length d1, .slice B2 a.ws.length d2] 48))
      have hT5 := hid (hTB.out.below hb5)
      have hB5 := hid (R.out.bel.trans (hb5.mono hB1.out))
      clear hb4 hb5 hTB R x2 y0 y1 y2
      go_upto_region 9 with fail
      generalize w4.alloc (.cells #[.int .i64 a.kind, .slice B1 a.ks.length d1, .slice B2 a.ws.length d2] 48) = w5 at *
      have c0 : w5.cell? ⟨w4.heap.size, 0, none⟩ = some (.int .i64 a.kind) := k9.out.cell 0
      have hfin : Hid (∀ w', Two w1.heap.size w' g g' → Below w1.heap.size w1 w' → ∃ k' : Nat, Value.int .i64 ((k : Int) + 1) = .int .i64 k' ∧ k' ≤ us.length ∧ BothRel w1 w' g g') := hid fun w' h h' => ⟨k + 1, by go_num, hlt, h, h'⟩
      have i2 : IntKind.i64.wrap ((k : Int) + 1) = (k : Int) + 1 := by rw [IntKind.wrap_i64]; omega
      by_cases e1 : a.kind = 1
      · have t1 : (a.kind == 1) = true := by simpa using e1
        have t2 : (a.kind == 2) = false := by rw [e1]; rfl
        clear e1
        have c1 : w5.cell? ⟨w4.heap.size, 1, none⟩ = some (.slice B1 a.ks.length d1) := k9.out.cell 1
        go_wp2_with fail
        refine (claim_two a.ks hT5.out hB5.out.size hr1.out hzk.out.1 (by have := hpk.out.1; omega)).mono ?_
        rintro e w6 ⟨rfl, hT6, hb6, hf6⟩
        have hB6 := hid (hB5.out.trans hb6)
        have hT6 := hid hT6
        have k6 := hid (blk_far k9.out hf6 hs4.out)
        clear hb6 hf6 c1 c0
        obtain ⟨x2, y0, y1, y2, hok⟩ := hyy.out w6 hB6.out
        have hok := hid hok
        go_wp2_with fail
        refine (rclaim_two a.ks hT6.out hB6.out.size hok.out.1 hzk.out.1 (by have := hpk.out.1; omega)).mono ?_
        rintro e w7 ⟨rfl, hT7, hb7, hf7⟩
        have hB7 := hid (hB6.out.trans hb7)
        have hT7 := hid hT7
        have c0 : w7.cell? ⟨w4.heap.size, 0, none⟩ = some (.int .i64 a.kind) := (blk_far k6.out hf7 hs4.out).cell 0
        clear hb7 hf7 x2 y0 y1 y2
        go_wp2_with fail
        go_roundw
        case rel => exact hfin.out _ hT7.out hB7.out
        case measure => simp [intOf]; omega
      · have t1 : (a.kind == 1) = false := by simpa using e1
        clear e1
        by_cases e2 : a.kind = 2
        · have t2 : (a.kind == 2) = true := by simpa using e2
          clear e2
          have c2 : w5.cell? ⟨w4.heap.size, 2, none⟩ = some (.slice B2 a.ws.length d2) := k9.out.cell 2
          go_wp2_with fail
          refine (apply_two a.ws hT5.out hB5.out.size hr2.out hzk.out.2 (by have := hpk.out.2; omega)).mono ?_
          rintro e w6 ⟨rfl, hT6, hb6, hf6⟩
          have hB6 := hid (hB5.out.trans hb6)
          have hT6 := hid hT6
          clear hb6 hf6 c2 c0
          obtain ⟨x2, y0, y1, y2, hok⟩ := hyy.out w6 hB6.out
          have hok := hid hok
          go_wp2_with fail
          refine (rapply_two a.ws hT6.out hB6.out.size hok.out.2 hzk.out.2 (by have := hpk.out.2; omega)).mono ?_
          rintro e w7 ⟨rfl, hT7, hb7, hf7⟩
          have hB7 := hid (hB6.out.trans hb7)
          have hT7 := hid hT7
          clear hb7 hf7 x2 y0 y1 y2
          go_wp2_with fail
          go_roundw
          case rel => exact hfin.out _ hT7.out hB7.out
          case measure => simp [intOf]; omega
        · have t2 : (a.kind == 2) = false := by simpa using e2
          clear e2
          go_wp2_with fail
          go_roundw
          case rel => exact hfin.out _ hT5.out.two hB5.out
          case measure => simp [intOf]; omega
    · obtain rfl : k = us.length := by omega
      have hfb : Hid (Below m w wr) := hid (hB.out.trans (R.out.bel.mono (by have := hB.out.size; omega)))
      have hTf : Hid (Two m wr g g') := hid (by
        obtain ⟨S, S2, s, h1, h2, h3, h4, h5⟩ := R.out.two
        exact ⟨S, S2, s, h1, h2, fun j hj => by have := h3 j hj; have := hB.out.size; omega, fun j hj => by have := h4 j hj; have := hB.out.size; omega, h5⟩)
      generalize us.length = n at *
      clear hlt
      go_wp2_with fail
      go_ret2
      exact ⟨g, g', rfl, hm ▸ hTf.out, hm ▸ hfb.out⟩
end
end Go.Proofs.Ytnbbdjbjbjlcpaa
