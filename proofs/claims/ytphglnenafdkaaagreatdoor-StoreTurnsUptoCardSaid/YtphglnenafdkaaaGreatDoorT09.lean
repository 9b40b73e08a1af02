/- Texts of the proof, joined: SBothS, SKeysP, WShelf, SKeysS, SKeys, PShelf. -/
import Derived.Test.YtphglnenafdkaaaGreatDoorT08
import Derived.Test.YtphglnenafdkaaaGreatDoorT05
import Derived.Test.YtphglnenafdkaaaGreatDoorT06
import Derived.Shelf.Small.Bits
import Derived.Shelf.Small.Strs
import Derived.Shelf.Strconv.Itoa0
import Derived.Shelf.LaysM
import Derived.Shelf.Bytes.Len
import Derived.Shelf.Bytes.TryGrow
import Derived.Shelf.Bytes.GrowSliceCatch
import Derived.Shelf.Bytes.GrowSlice
import Derived.Shelf.Strings.Search1
import Derived.Shelf.Bytes.GrowRow0Kept
import Derived.Shelf.Strings.Search2
import Derived.Shelf.Strings.Search3
import Derived.Shelf.Bytes.GrowNilKept
import Derived.Shelf.Strings.Cut
import Derived.Shelf.Strings.Count
import Derived.Shelf.Strings.Shaped
import Derived.Shelf.Sort.Plain
import Derived.Shelf.Bytes.ResetKept
import Derived.Shelf.Unicode.DecodeSlow
import Derived.Shelf.Slices.In.SortNone
import Derived.Ground.SlgfProg
import Derived.Shelf.SlicesE.IndexFunc
import Derived.Test.YtphglnenafdkaaaGreatDoorProg
import Derived.Shelf.Strconv.Itoa1
import Derived.Shelf.Strconv.Itoa2
import Derived.Shelf.Strconv.Itoa3
import Derived.Shelf.Strconv.Itoa4
import Derived.Shelf.Bytes.Bytes
import Derived.Shelf.Strconv.ParseIntEmpty
import Derived.Shelf.Strconv.Clone
import Derived.Shelf.Strconv.Lower
import Derived.Shelf.Strconv.ParseUint10Empty
import Derived.Shelf.Strconv.ParseUintEmpty
import Derived.Shelf.Bytes.GrowRowKept
import Derived.Shelf.Bytes.GrowKept
import Derived.Shelf.Bytes.WriteStringKept
import Derived.Shelf.Bytes.BufferK
namespace Go.Proofs.YtphglnenafdkaaaGreatDoor
open Go.RowKit
set_option linter.unusedVariables false
set_option linter.unusedSimpArgs false

/-- both stores, each in memory of its own -/
def Two (B : Nat) (w : World) (g r : Nat) (s : St) : Prop := ∃ S S2, PAt S w g s ∧ RAt S2 w r s ∧ (∀ j, S j → B ≤ j) ∧ (∀ j, S2 j → B ≤ j) ∧ (∀ j, S j → ¬ S2 j)
/-- the program's store has gone on, the document's not -/
def TwoM (B m : Nat) (w : World) (g r : Nat) (s s' : St) : Prop := ∃ S S2, PAt S w g s' ∧ RAt S2 w r s ∧ (∀ j, S j → B ≤ j) ∧ (∀ j, S2 j → B ≤ j) ∧ (∀ j, S j → ¬ S2 j) ∧ ∀ j, S2 j → j < m
/-- both, before the program's goes on: its blocks lie below m -/
def TwoB (B m : Nat) (w : World) (g r : Nat) (s : St) : Prop := ∃ S S2, PAt S w g s ∧ RAt S2 w r s ∧ (∀ j, S j → B ≤ j) ∧ (∀ j, S2 j → B ≤ j) ∧ (∀ j, S j → ¬ S2 j) ∧ (∀ j, S j → j < m) ∧ ∀ j, S2 j → j < m
/-- what lies from m on is as it was -/
def Far (m : Nat) (w w' : World) : Prop := ∀ j, m ≤ j → j < w.heap.size → w'.heap[j]? = w.heap[j]?
section
variable {w w' : World} {B g r : Nat}
theorem Two.below {s : St} (h : Two B w g r s) (hb : Below w.heap.size w w') : Two B w' g r s := by
  obtain ⟨S, S2, h1, h2, h3⟩ := h; exact ⟨S, S2, h1.below hb, h2.below hb, h3⟩
theorem Two.st {s : St} (h : Two B w g r s) : TwoB B w.heap.size w g r s := by obtain ⟨S, S2, h1, h2, h3, h4, h5⟩ := h; exact ⟨S, S2, h1, h2, h3, h4, h5, h1.lt, h2.lt⟩
theorem TwoB.below {m : Nat} {s : St} (h : TwoB B m w g r s) (hb : Below w.heap.size w w') : TwoB B m w' g r s := by
  obtain ⟨S, S2, h1, h2, h3⟩ := h; exact ⟨S, S2, h1.below hb, h2.below hb, h3⟩
theorem TwoB.two {m : Nat} {s : St} (h : TwoB B m w g r s) : Two B w g r s := by
  obtain ⟨S, S2, h1, h2, h3, h4, h5, _, _⟩ := h; exact ⟨S, S2, h1, h2, h3, h4, h5⟩
theorem claim_two {s : St} {m : Nat} {A : Option Addr} {c : Nat} (ks : List ByteArray) (h : TwoB B m w g r s) (hB : B ≤ w.heap.size) (hr : Rd (fun b => m ≤ b) w 1 A ks.length (strs ks)) (hs : okKs ks) (hn : ks.length ≤ 1000000) :
    Calls Tryz.prog 10 #[.pointer (some ⟨g, 0, none⟩), .slice A ks.length c] w fun e w' => e = .returned (.int .i64 (claimE s ks)) ∧ TwoM B m w' g r s (claimS s ks) ∧ Below B w w' ∧ Far m w w' := by
  obtain ⟨S, S2, h1, h2, h3, h4, h5, hm, hm2⟩ := h
  refine (claim_any ks h1 hr (fun b hb hS => by have := hm b hS; omega) hs hn).mono ?_
  rintro e w' ⟨rfl, hp, hu⟩
  exact ⟨rfl, ⟨S, S2, hp, h2.upd hu fun b hb hS => h5 b hS hb, h3, h4, h5, hm2⟩, hu.below hB fun k hk hS => by have := h3 k hS; omega, fun j hj hl => hu.block j hl fun hS => by have := hm j hS; omega⟩
theorem apply_two {s : St} {m : Nat} {A : Option Addr} {c : Nat} (ws : List Wr) (h : TwoB B m w g r s) (hB : B ≤ w.heap.size) (hr : Rd (fun b => m ≤ b) w 5 A ws.length (wrCells ws)) (hs : okWs ws) (hn : ws.length ≤ 1000000) :
    Calls Tryz.prog 12 #[.pointer (some ⟨g, 0, none⟩), .slice A ws.length c] w fun e w' => e = .returned (.int .i64 (applyE s ws)) ∧ TwoM B m w' g r s (applyS s ws) ∧ Below B w w' ∧ Far m w w' := by
  obtain ⟨S, S2, h1, h2, h3, h4, h5, hm, hm2⟩ := h
  refine (apply_any ws h1 hr (fun b hb hS => by have := hm b hS; omega) hs hn).mono ?_
  rintro e w' ⟨rfl, hp, hu⟩
  exact ⟨rfl, ⟨S, S2, hp, h2.upd hu fun b hb hS => h5 b hS hb, h3, h4, h5, hm2⟩, hu.below hB fun k hk hS => by have := h3 k hS; omega, fun j hj hl => hu.block j hl fun hS => by have := hm j hS; omega⟩
theorem RAt.inS {S : Nat → Prop} {w : World} {r : Nat} {s : St} (h : RAt S w r s) : S r := by obtain ⟨_, _, h⟩ := h; exact h.inS
theorem rgo_two {s' : St} (S S2 : Nat → Prop) (h1 : PAt S w g s') (h3 : ∀ j, S j → B ≤ j) (h4 : ∀ j, S2 j → B ≤ j) (h5 : ∀ j, S j → ¬ S2 j) {m : Nat} (h6 : ∀ j, S2 j → j < m) (hB : B ≤ w.heap.size) (h : RGo S2 w r s' w') : Two B w' g r s' ∧ Below B w w' ∧ Far m w w' := by
  obtain ⟨S', ha, hb, hu⟩ := h
  refine ⟨⟨S, S', h1.upd hu fun b hb hS => h5 b hb hS, ha, h3, fun j hj => ?_, fun j hj hS => ?_⟩, hu.below hB fun k hk hS => by have := h4 k hS; omega, fun j hj hl => hu.block j hl fun hS => by have := h6 j hS; omega⟩
  · rcases hb j hj with h | h
    · exact h4 j h
    · omega
  · rcases hb j hS with h | h
    · exact h5 j hj h
    · have := h1.lt j hj; omega
theorem rclaim_two {s : St} {A : Option Addr} {c : Nat} (ks : List ByteArray) {m : Nat} (h : TwoM B m w g r s (claimS s ks)) (hB : B ≤ w.heap.size) (hr : Rd (fun b => b < B) w 1 A ks.length (strs ks)) (hs : okKs ks) (hn : ks.length ≤ 1000000) :
    Calls Tryz.prog 17 #[.pointer (some ⟨r, 0, none⟩), .slice A ks.length c] w fun e w' => e = .returned (.int .i64 (claimE s ks)) ∧ Two B w' g r (claimS s ks) ∧ Below B w w' ∧ Far m w w' := by
  obtain ⟨S, S2, h1, h2, h3, h4, h5, h6⟩ := h
  refine (rclaim_any ks h2 hr (fun b hb => ⟨by omega, fun e => by have := h4 r h2.inS; omega⟩) hs hn).mono ?_
  rintro e w' ⟨rfl, hgo⟩
  exact ⟨rfl, rgo_two S S2 h1 h3 h4 h5 h6 hB hgo⟩
theorem rapply_two {s : St} {A : Option Addr} {c : Nat} (ws : List Wr) {m : Nat} (h : TwoM B m w g r s (applyS s ws)) (hB : B ≤ w.heap.size) (hr : Rd (fun b => b < B) w 5 A ws.length (wrCells ws)) (hs : okWs ws) (hn : ws.length ≤ 1000000) :
    Calls Tryz.prog 18 #[.pointer (some ⟨r, 0, none⟩), .slice A ws.length c] w fun e w' => e = .returned (.int .i64 (applyE s ws)) ∧ Two B w' g r (applyS s ws) ∧ Below B w w' ∧ Far m w w' := by
  obtain ⟨S, S2, h1, h2, h3, h4, h5, h6⟩ := h
  refine (rapply_any ws h2 hr hs (fun b hb => ⟨by omega, fun e => by have := h4 r h2.inS; omega⟩) hn).mono ?_
  rintro e w' ⟨rfl, hgo⟩
  exact ⟨rfl, rgo_two S S2 h1 h3 h4 h5 h6 hB hgo⟩
theorem both_bad {Sx : Nat → Prop} (p r : Int) {A : Option Addr} {c n : Nat} (hg : goodPR p r = false) : Calls Tryz.prog 8 #[.agg #[.int .i64 p, .int .i64 r, .slice A n c]] w fun e w' => e = .returned (.tuple #[.pointer none, .pointer none]) ∧ Below w.heap.size w w' := by
  have kb := hid (Blk.new w 24 #[.int .i64 p, .int .i64 r, .slice A n c])
  have hB : Hid (Below w.heap.size w (w.alloc (.cells #[.int .i64 p, .int .i64 r, .slice A n c] 24))) := hid ((Below.refl _ _).alloc (Nat.le_refl _) _)
  have hb1 := fun w => hid (new_bad p r w hg)
  have hb2 := fun w => hid (rnew_bad p r w hg)
  clear hg
  go_enter Tryz.func8, Tryz.ntmps8
  go_upto_region 1 with fail
  generalize w.alloc (.cells #[.int .i64 p, .int .i64 r, .slice A n c] 24) = w1 at *
  generalize hm : w.heap.size = m at *
  have x0 : w1.cell? ⟨m, 0, none⟩ = some (.int .i64 p) := kb.out.cell 0
  have x1 : w1.cell? ⟨m, 1, none⟩ = some (.int .i64 r) := kb.out.cell 1
  go_wp2_with fail
  refine (hb1 _).out.mono ?_
  rintro e wq ⟨rfl, hwq⟩
  obtain rfl := hwq.symm
  go_wp2_with fail
  refine (hb2 _).out.mono ?_
  rintro e wq ⟨rfl, hwq⟩
  obtain rfl := hwq.symm
  go_wp2_with fail
  refine (num_any _ _).mono ?_
  rintro e wq ⟨rfl, hwq⟩
  obtain rfl := hwq.symm
  go_wp2_with fail
  go_ret2
  exact ⟨rfl, hm ▸ hB.out⟩
theorem blk_far {m b : Nat} {t : TypeId} {cs : Array Value} (h : Blk w b t cs) (hf : Far m w w') (hb : m ≤ b) : Blk w' b t cs := (hf b hb h.lt).trans h
/-- in the loop: the stores, and the story's box -/
def actS (s : St) (a : SA) : St := if a.kind = 1 then claimS s a.ks else if a.kind = 2 then applyS s a.ws else s
def playS (s : St) (us : List SA) : St := us.foldl actS s
theorem playS_step (s : St) (us : List SA) (k : Nat) (h : k < us.length) : playS s (us.take (k + 1)) = actS (playS s (us.take k)) us[k] := by
  unfold playS
  rw [List.take_succ_eq_append_getElem h, List.foldl_append]; rfl
structure BothRel (w1 : World) (wr : World) (g r : Nat) (s : St) : Prop where
  two : Two w1.heap.size wr g r s
  bel : Below w1.heap.size w1 wr
set_option maxRecDepth 100000 in
set_option maxHeartbeats 4000000 in
theorem both_ok {Sx : Nat → Prop} (p r : Nat) {A : Option Addr} {c : Nat} {us : List SA} (h : SActs Sx w A us) (hn : us.length ≤ 200) (hp : ∀ a ∈ us, a.ks.length ≤ 6000 ∧ a.ws.length ≤ 6000) (hz : ∀ a ∈ us, okKs a.ks ∧ okWs a.ws) (h1 : 1 ≤ p ∧ p ≤ 64) (h2 : 1 ≤ r ∧ r ≤ 4096) :
    Calls Tryz.prog 8 #[.agg #[.int .i64 p, .int .i64 r, .slice A us.length c]] w fun e w' => ∃ g r0, e = .returned (.tuple #[.pointer (some ⟨g, 0, none⟩), .pointer (some ⟨r0, 0, none⟩)]) ∧ Two w.heap.size w' g r0 (playS ⟨p, r, []⟩ us) ∧ Below w.heap.size w w' := by
  have hB0 : Below w.heap.size w (w.alloc (.cells #[.int .i64 p, .int .i64 r, .slice A us.length c] 24)) := (Below.refl _ _).alloc (Nat.le_refl _) _
  have kb := hid (Blk.new w 24 #[.int .i64 p, .int .i64 r, .slice A us.length c])
  have hs := hid (h.below hB0).all
  have hB := hid hB0
  have hN : (us.length : Int) ≤ 200 := by omega
  have hp := hid hp
  have hz := hid hz
  have n1 := fun w => hid (new_ok p r w h1 h2)
  have n2 := fun w => hid (rnew_ok p r w h1 h2)
  clear h hB0 hn h1 h2
  go_enter Tryz.func8, Tryz.ntmps8
  go_upto_region 1 with fail
  generalize w.alloc (.cells #[.int .i64 p, .int .i64 r, .slice A us.length c] 24) = w1 at *
  generalize hm : w.heap.size = m at *
  have x0 : w1.cell? ⟨m, 0, none⟩ = some (.int .i64 p) := kb.out.cell 0
  have x1 : w1.cell? ⟨m, 1, none⟩ = some (.int .i64 r) := kb.out.cell 1
  go_wp2_with fail
  refine (n1 _).out.mono ?_
  rintro e w2 ⟨S, g, rfl, P2, g2, hb2⟩
  have B2 := hid hb2
  have k2 := kb.out.below_all hb2
  have P2 := hid P2
  have g2 := hid g2
  have x0 : w2.cell? ⟨m, 0, none⟩ = some (.int .i64 p) := k2.cell 0
  have x1 : w2.cell? ⟨m, 1, none⟩ = some (.int .i64 r) := k2.cell 1
  clear hb2 k2
  go_wp2_with fail
  refine (n2 _).out.mono ?_
  rintro e w3 ⟨S2, g', rfl, P3, g3, hb3⟩
  have R3 : Hid (BothRel w1 w3 g g' ⟨p, r, []⟩) := hid ⟨⟨S, S2, P2.out.below hb3, P3, g2.out, fun j hj => by have := g3 j hj; have := B2.out.size; omega, fun j hj h2 => by have := g3 j h2; have := P2.out.lt j hj; omega⟩, B2.out.trans (hb3.mono B2.out.size)⟩
  clear hb3 P3 g3 P2 g2 B2 x0 x1 n1 n2
  go_wp2_with fail
  refine (num_any _ _).mono ?_
  rintro e wq ⟨rfl, hwq⟩
  obtain rfl := hwq.symm
  go_wp2_with fail
  go_loopw [8] (fun v wr => ∃ k : Nat, v = .int .i64 k ∧ k ≤ us.length ∧ BothRel w1 wr g g' (playS ⟨p, r, []⟩ (us.take k))) (fun v _ => us.length - (intOf v).toNat)
  case atStart => exact ⟨0, rfl, Nat.zero_le _, R3.out⟩
  case round =>
    clear R3
    obtain ⟨k, rfl, hk, R0⟩ := hrel
    have R := hid R0
    have x2 : wr.cell? ⟨m, 2, none⟩ = some (.slice A us.length c) := (kb.out.below_all R0.bel).cell 2
    clear R0
    by_cases hlt : k < us.length
    · have i1 : (k : Int) < (us.length : Int) := by omega
      obtain ⟨b, o, rfl, _, hbl, hok, y0, y1, y2⟩ := hs.out.at_ hlt
      have hyy : Hid (∀ w', Below w1.heap.size w1 w' → w'.cell? ⟨m, 2, none⟩ = some (.slice (some ⟨b, o, none⟩) us.length c) ∧ w'.cell? ⟨b, o + k * 3, none⟩ = some (.int .i64 us[k].kind) ∧ w'.cell? ⟨b, o + k * 3 + 1, none⟩ = some (.slice us[k].A1 us[k].ks.length us[k].c1) ∧ w'.cell? ⟨b, o + k * 3 + 2, none⟩ = some (.slice us[k].A2 us[k].ws.length us[k].c2) ∧ us[k].ok (fun b => b < w1.heap.size) w') := hid fun w' h => ⟨(kb.out.below_all h).cell 2, cell_bel h hbl y0, cell_bel h hbl y1, cell_bel h hbl y2, hok.1.below h fun _ h => h, hok.2.below h fun _ h => h⟩
      clear y0 y1 y2 hok x2
      have hpk := hid (hp.out us[k] (List.getElem_mem hlt))
      have hzk := hid (hz.out us[k] (List.getElem_mem hlt))
      have hst := hid (playS_step ⟨p, r, []⟩ us k hlt)
      obtain ⟨s, hs0⟩ : ∃ s, s = playS ⟨p, r, []⟩ (us.take k) := ⟨_, rfl⟩
      rw [← hs0] at R hst
      clear hs0
      generalize us[k] = a at *
      obtain ⟨x2, y0, y1, y2, hok⟩ := hyy.out wr R.out.bel
      have hok := hid hok
      have hTB := hid R.out.two.st
      have hB1 := hid R.out.bel.size
      go_wp2_with fail
      refine (own_any a hok.out (by have := hpk.out.1; omega) (by have := hpk.out.2; omega)).mono ?_
      rintro e w4 ⟨B1, d1, B2, d2, rfl, hr1, hr2, hb4⟩
      have hb5 : Below wr.heap.size wr (w4.alloc (.cells #[.int .i64 a.kind, .slice B1 a.ks.length d1, .slice B2 a.ws.length d2] 51)) := hb4.alloc hb4.size _
      have k9 := hid (Blk.new w4 51 #[.int .i64 a.kind, .slice B1 a.ks.length d1, .slice B2 a.ws.length d2])
      have hs4 := hid hb4.size
      have hr1 := hid (hr1.alloc (.cells #[.int .i64 a.kind, .slice B1 a.ks.length d1, .slice B2 a.ws.length d2] 51))
      have hr2 := hid (hr2.alloc (.cells #[.int .i64 a.kind, .slice B1 a.ks.length d1, .slice B2 a.ws.length d2] 51))
      have hT5 := hid (hTB.out.below hb5)
      have hB5 := hid (R.out.bel.trans (hb5.mono hB1.out))
      clear hb4 hb5 hTB R x2 y0 y1 y2
      go_upto_region 9 with fail
      generalize w4.alloc (.cells #[.int .i64 a.kind, .slice B1 a.ks.length d1, .slice B2 a.ws.length d2] 51) = w5 at *
      have c0 : w5.cell? ⟨w4.heap.size, 0, none⟩ = some (.int .i64 a.kind) := k9.out.cell 0
      have hfin : Hid (∀ w', Two w1.heap.size w' g g' (actS s a) → Below w1.heap.size w1 w' → ∃ k' : Nat, Value.int .i64 ((k : Int) + 1) = .int .i64 k' ∧ k' ≤ us.length ∧ BothRel w1 w' g g' (playS ⟨p, r, []⟩ (us.take k'))) := hid fun w' h h' => ⟨k + 1, by go_num, hlt, by rw [hst.out]; exact h, h'⟩
      have i2 : IntKind.i64.wrap ((k : Int) + 1) = (k : Int) + 1 := by rw [IntKind.wrap_i64]; omega
      by_cases e1 : a.kind = 1
      · have t1 : (a.kind == 1) = true := by simpa using e1
        have t2 : (a.kind == 2) = false := by rw [e1]; rfl
        have hac : Hid (actS s a = claimS s a.ks) := hid (by unfold actS; rw [if_pos e1])
        clear e1
        have c1 : w5.cell? ⟨w4.heap.size, 1, none⟩ = some (.slice B1 a.ks.length d1) := k9.out.cell 1
        go_wp2_with fail
        refine (claim_two a.ks hT5.out hB5.out.size hr1.out hzk.out.1 (by have := hpk.out.1; omega)).mono ?_
        rintro e w6 ⟨rfl, hT6, hb6, hf6⟩
        have hB6 := hid (hB5.out.trans hb6)
        have hT6 := hid hT6
        have k6 := hid (blk_far k9.out hf6 hs4.out)
        clear hb6 hf6 c1 c0
        obtain ⟨x2, y0, y1, y2, hok⟩ := hyy.out w6 hB6.out
        have hok := hid hok
        go_wp2_with fail
        refine (rclaim_two a.ks hT6.out hB6.out.size hok.out.1 hzk.out.1 (by have := hpk.out.1; omega)).mono ?_
        rintro e w7 ⟨rfl, hT7, hb7, hf7⟩
        have hB7 := hid (hB6.out.trans hb7)
        have hT7 := hid hT7
        have c0 : w7.cell? ⟨w4.heap.size, 0, none⟩ = some (.int .i64 a.kind) := (blk_far k6.out hf7 hs4.out).cell 0
        clear hb7 hf7 x2 y0 y1 y2
        go_wp2_with fail
        go_roundw
        case rel => exact hfin.out _ (by rw [hac.out]; exact hT7.out) hB7.out
        case measure => simp [intOf]; omega
      · have t1 : (a.kind == 1) = false := by simpa using e1
        clear e1
        by_cases e2 : a.kind = 2
        · have t2 : (a.kind == 2) = true := by simpa using e2
          have hac : Hid (actS s a = applyS s a.ws) := hid (by unfold actS; rw [if_neg (by simpa using t1), if_pos e2])
          clear e2
          have c2 : w5.cell? ⟨w4.heap.size, 2, none⟩ = some (.slice B2 a.ws.length d2) := k9.out.cell 2
          go_wp2_with fail
          refine (apply_two a.ws hT5.out hB5.out.size hr2.out hzk.out.2 (by have := hpk.out.2; omega)).mono ?_
          rintro e w6 ⟨rfl, hT6, hb6, hf6⟩
          have hB6 := hid (hB5.out.trans hb6)
          have hT6 := hid hT6
          clear hb6 hf6 c2 c0
          obtain ⟨x2, y0, y1, y2, hok⟩ := hyy.out w6 hB6.out
          have hok := hid hok
          go_wp2_with fail
          refine (rapply_two a.ws hT6.out hB6.out.size hok.out.2 hzk.out.2 (by have := hpk.out.2; omega)).mono ?_
          rintro e w7 ⟨rfl, hT7, hb7, hf7⟩
          have hB7 := hid (hB6.out.trans hb7)
          have hT7 := hid hT7
          clear hb7 hf7 x2 y0 y1 y2
          go_wp2_with fail
          go_roundw
          case rel => exact hfin.out _ (by rw [hac.out]; exact hT7.out) hB7.out
          case measure => simp [intOf]; omega
        · have t2 : (a.kind == 2) = false := by simpa using e2
          have hac : Hid (actS s a = s) := hid (by unfold actS; rw [if_neg (by simpa using t1), if_neg e2])
          clear e2
          go_wp2_with fail
          go_roundw
          case rel => exact hfin.out _ (by rw [hac.out]; exact hT5.out.two) hB5.out
          case measure => simp [intOf]; omega
    · obtain rfl : k = us.length := by omega
      have hfb : Hid (Below m w wr) := hid (hB.out.trans (R.out.bel.mono (by have := hB.out.size; omega)))
      have hTf : Hid (Two m wr g g' (playS ⟨p, r, []⟩ us)) := hid (by
        have h0 := R.out.two
        rw [List.take_length] at h0
        obtain ⟨S, S2, h1, h2, h3, h4, h5⟩ := h0
        exact ⟨S, S2, h1, h2, fun j hj => by have := h3 j hj; have := hB.out.size; omega, fun j hj => by have := h4 j hj; have := hB.out.size; omega, h5⟩)
      generalize us.length = n at *
      clear hlt
      go_wp2_with fail
      go_ret2
      exact ⟨g, g', rfl, hm ▸ hTf.out, hm ▸ hfb.out⟩
end
end Go.Proofs.YtphglnenafdkaaaGreatDoor

namespace Go.Proofs.YtphglnenafdkaaaGreatDoor
open Go.RowKit
set_option linter.unusedVariables false
set_option linter.unusedSimpArgs false

/-- partition p's keys; those of the partitions below i -/
def keysP (n p : Nat) (L : List Kv) : List ByteArray := (L.filter fun x => decide (partK n x.1 = p)).map (·.1)
def keysTo (n i : Nat) (L : List Kv) : List ByteArray := (L.filter fun x => decide (partK n x.1 < i)).map (·.1)
def encK (k : ByteArray) : Value × Value := (.string k, .int .i64 1)
theorem keysTo_zero (n : Nat) (L : List Kv) : keysTo n 0 L = [] := by simp [keysTo]
theorem keysTo_all {n : Nat} (hn : 0 < n) (L : List Kv) : keysTo n n L = L.map (·.1) := by
  unfold keysTo
  congr 1
  exact List.filter_eq_self.2 fun x _ => by simpa using partK_lt x.1 hn
theorem filter_step {α : Type} (f : α → Nat) (i : Nat) : ∀ L : List α, ((L.filter fun x => decide (f x < i)) ++ (L.filter fun x => decide (f x = i))).Perm (L.filter fun x => decide (f x < i + 1))
  | [] => List.Perm.refl _
  | a :: L => by
    have ih := filter_step f i L
    by_cases h1 : f a < i
    · rw [List.filter_cons_of_pos (by simpa using h1), List.filter_cons_of_neg (by simp; omega), List.filter_cons_of_pos (by simp; omega)]
      exact ih.cons _
    · by_cases h2 : f a = i
      · rw [List.filter_cons_of_neg (by simpa using h1), List.filter_cons_of_pos (by simpa using h2), List.filter_cons_of_pos (by simp; omega)]
        exact List.perm_middle.trans (ih.cons _)
      · rw [List.filter_cons_of_neg (by simpa using h1), List.filter_cons_of_neg (by simpa using h2), List.filter_cons_of_neg (by simp; omega)]
        exact ih
theorem keysTo_step (n i : Nat) (L : List Kv) : (keysTo n i L ++ keysP n i L).Perm (keysTo n (i + 1) L) := by
  unfold keysTo keysP
  rw [← List.map_append]
  exact (filter_step (fun x : Kv => partK n x.1) i L).map _
theorem keysP_mem {n p : Nat} {L : List Kv} {k : ByteArray} : k ∈ keysP n p L ↔ hasK k L = true ∧ partK n k = p := by
  unfold keysP
  rw [hasK_mem]
  constructor
  · intro h
    obtain ⟨x, hx, rfl⟩ := List.mem_map.1 h
    obtain ⟨h1, h2⟩ := List.mem_filter.1 hx
    exact ⟨⟨x, h1, rfl⟩, by simpa using h2⟩
  · rintro ⟨⟨x, hx, rfl⟩, h2⟩
    exact List.mem_map.2 ⟨x, List.mem_filter.2 ⟨hx, by simpa using h2⟩, rfl⟩
theorem keysP_nodup {n p : Nat} {L : List Kv} (ha : Asc L) : (keysP n p L).Nodup := (List.filter_sublist.map _).nodup (asc_nodup ha)
theorem kp1_inj : ∀ a b : ByteArray, ((a, Value.int .i64 1) : ByteArray × Value) = (b, Value.int .i64 1) → a = b := fun a b e => by injection e
theorem claims_perm {w : World} {b n p : Nat} {L : List Kv} {l : List (ByteArray × Value)} (ha : Asc L) (h : MapIs strE w b l) (hd : ∀ x, getK x l = Dc L n p x) : l.Perm ((keysP n p L).map fun k => (k, Value.int .i64 1)) :=
  (List.perm_ext_iff_of_nodup (nodup_of_map _ h.nodup) (nodup_map kp1_inj (keysP_nodup ha))).2 fun q => by
    obtain ⟨y, u⟩ := q
    rw [← getK_mem h.nodup, hd]
    unfold Dc
    constructor
    · intro hy
      by_cases hc : hasK y L = true ∧ partK n y = p
      · rw [if_pos hc] at hy
        injection hy with hy
        exact List.mem_map.2 ⟨y, keysP_mem.2 hc, by rw [hy]⟩
      · rw [if_neg hc] at hy; cases hy
    · intro hy
      obtain ⟨k, hk, e⟩ := List.mem_map.1 hy
      injection e with e1 e2
      subst e1
      rw [if_pos (keysP_mem.1 hk), e2]
theorem claims_len {w : World} {b n p : Nat} {L : List Kv} {l : List (ByteArray × Value)} (ha : Asc L) (h : MapIs strE w b l) (hd : ∀ x, getK x l = Dc L n p x) : l.length = (keysP n p L).length := by
  rw [(claims_perm ha h hd).length_eq, List.length_map]
theorem done_claims {w : World} {b n p : Nat} {L : List Kv} {l : List (ByteArray × Value)} {es : Array MapEntry} {out : List ByteArray} (ha : Asc L) (h : MapIs strE w b l) (hd : ∀ x, getK x l = Dc L n p x) (hpr : pairs es.toList = encs strE l) (ho : (pairs es.toList).Perm (out.map encK)) : out.Perm (keysP n p L) := by
  have e1 : out.map encK = encs strE (out.map fun k => (k, Value.int .i64 1)) := by unfold encs; rw [List.map_map]; rfl
  rw [hpr, e1] at ho
  have h4 := (encs_inj w ho).symm.trans (claims_perm ha h hd)
  exact encs_inj.perm_of_map (f := fun k : ByteArray => (k, Value.int .i64 1)) (fun a b e => kp1_inj a b e) h4
theorem bl_lt : ∀ a b : List UInt8, Op.bytesLess a b = decide (a < b)
  | _, [] => by simp [Op.bytesLess]
  | [], _ :: _ => by simp [Op.bytesLess]
  | a :: x, b :: y => by
    have ih := bl_lt x y
    unfold Op.bytesLess
    rw [ih]
    by_cases h1 : a < b
    · simp [h1, List.cons_lt_cons_iff]
    · by_cases h2 : a = b
      · subst h2; simp [List.cons_lt_cons_iff]
      · simp [h1, h2, List.cons_lt_cons_iff]
/-- slices.Sort on the keys, in whatever order they come -/
theorem sort_keys {L : List Kv} {out : List ByteArray} (ha : Asc L) (hp : out.Perm (L.map (·.1))) : (out.map ByteArray.toList).mergeSort (fun x y => decide (x ≤ y)) = L.map fun x => x.1.toList := by
  have h1 : ((out.map ByteArray.toList).mergeSort (fun x y => decide (x ≤ y))).Perm (L.map fun x => x.1.toList) := by
    refine (List.mergeSort_perm _ _).trans ?_
    have := hp.map ByteArray.toList
    rw [List.map_map] at this
    exact this
  have h2 := List.pairwise_mergeSort (le := fun x y : List UInt8 => decide (x ≤ y)) (fun a b c h1 h2 => by simp only [decide_eq_true_eq] at *; exact List.le_trans h1 h2) (fun a b => by simp only [Bool.or_eq_true, decide_eq_true_eq]; exact List.le_total a b) (out.map ByteArray.toList)
  have h3 : (L.map fun x => x.1.toList).Pairwise fun a b => decide (a ≤ b) = true := by
    rw [List.pairwise_map]
    refine ha.imp fun {a b} h => ?_
    unfold ltB at h
    rw [bl_lt] at h
    simp only [decide_eq_true_eq] at *
    exact List.le_of_lt h
  exact List.Perm.eq_of_pairwise (fun a b _ _ h1 h2 => by simp only [decide_eq_true_eq] at *; exact List.le_antisymm h1 h2) h2 h3 h1
end Go.Proofs.YtphglnenafdkaaaGreatDoor

namespace Go.Proofs.YtphglnenafdkaaaGreatDoor
open Go.Shelf
def lays190_ren : Go.Shelf.Ren := ⟨fun | 190 => 70 | 125 => 92 | 258 => 91 | 128 => 124 | 129 => 125 | 302 => 115 | 303 => 116 | 304 => 117 | 305 => 118 | 306 => 119 | 307 => 120 | 308 => 121 | 309 => 122 | 310 => 123 | 333 => 150 | 329 => 151 | 330 => 152 | 334 => 153 | 335 => 154 | 336 => 155 | 344 => 168 | n => n, fun | 31 => 25 | 9 => 9 | 3 => 3 | 46 => 136 | 0 => 0 | 51 => 159 | 53 => 118 | 4 => 4 | 183 => 152 | 182 => 151 | 131 => 95 | 5 => 5 | 218 => 174 | 222 => 178 | 228 => 190 | 229 => 191 | n => n, fun | n => n⟩
theorem lays190 : Go.Proofs.Lays.n190 Tryz.prog lays190_ren := {
  mixed := by kernel_rfl
  f125 := Tryz.func92.trans (congrArg some (by kernel_rfl))
  f128 := Tryz.func124.trans (congrArg some (by kernel_rfl))
  f129 := Tryz.func125.trans (congrArg some (by kernel_rfl))
  f190 := Tryz.func70.trans (congrArg some (by kernel_rfl))
  f258 := Tryz.func91.trans (congrArg some (by kernel_rfl))
  f302 := Tryz.func115.trans (congrArg some (by kernel_rfl))
  f303 := Tryz.func116.trans (congrArg some (by kernel_rfl))
  f304 := Tryz.func117.trans (congrArg some (by kernel_rfl))
  f305 := Tryz.func118.trans (congrArg some (by kernel_rfl))
  f306 := Tryz.func119.trans (congrArg some (by kernel_rfl))
  f307 := Tryz.func120.trans (congrArg some (by kernel_rfl))
  f308 := Tryz.func121.trans (congrArg some (by kernel_rfl))
  f309 := Tryz.func122.trans (congrArg some (by kernel_rfl))
  f310 := Tryz.func123.trans (congrArg some (by kernel_rfl))
  f329 := Tryz.func151.trans (congrArg some (by kernel_rfl))
  f330 := Tryz.func152.trans (congrArg some (by kernel_rfl))
  f333 := Tryz.func150.trans (congrArg some (by kernel_rfl))
  f334 := Tryz.func153.trans (congrArg some (by kernel_rfl))
  f335 := Tryz.func154.trans (congrArg some (by kernel_rfl))
  f336 := Tryz.func155.trans (congrArg some (by kernel_rfl))
  f344 := Tryz.func168.trans (congrArg some (by kernel_rfl))
  t0 := Tryz.underlying0
  a0 := Tryz.isAgg0
  z0 := Tryz.sizeOf0
  v0 := Tryz.zeroValue0
  t3 := Tryz.underlying3
  a3 := Tryz.isAgg3
  z3 := Tryz.sizeOf3
  v3 := Tryz.zeroValue3
  t4 := Tryz.underlying4
  a4 := Tryz.isAgg4
  z4 := Tryz.sizeOf4
  v4 := Tryz.zeroValue4
  t5 := Tryz.underlying5
  a5 := Tryz.isAgg5
  z5 := Tryz.sizeOf5
  v5 := Tryz.zeroValue5
  t9 := Tryz.underlying9
  a9 := Tryz.isAgg9
  z9 := Tryz.sizeOf9
  v9 := Tryz.zeroValue9
  t31 := Tryz.underlying25
  a31 := Tryz.isAgg25
  z31 := Tryz.sizeOf25
  v31 := Tryz.zeroValue25
  t46 := Tryz.underlying136
  a46 := Tryz.isAgg136
  z46 := Tryz.sizeOf136
  v46 := Tryz.zeroValue136
  t51 := Tryz.underlying159
  a51 := Tryz.isAgg159
  z51 := Tryz.sizeOf159
  v51 := Tryz.zeroValue159
  t53 := Tryz.underlying118
  a53 := Tryz.isAgg118
  z53 := Tryz.sizeOf118
  v53 := Tryz.zeroValue118
  t131 := Tryz.underlying95
  a131 := Tryz.isAgg95
  z131 := Tryz.sizeOf95
  v131 := Tryz.zeroValue95
  t182 := Tryz.underlying151
  a182 := Tryz.isAgg151
  z182 := Tryz.sizeOf151
  v182 := Tryz.zeroValue151
  t183 := Tryz.underlying152
  a183 := Tryz.isAgg152
  z183 := Tryz.sizeOf152
  v183 := Tryz.zeroValue152
  t218 := Tryz.underlying174
  a218 := Tryz.isAgg174
  z218 := Tryz.sizeOf174
  v218 := Tryz.zeroValue174
  t222 := Tryz.underlying178
  a222 := Tryz.isAgg178
  z222 := Tryz.sizeOf178
  v222 := Tryz.zeroValue178
  t228 := Tryz.underlying190
  a228 := Tryz.isAgg190
  z228 := Tryz.sizeOf190
  v228 := Tryz.zeroValue190
  t229 := Tryz.underlying191
  a229 := Tryz.isAgg191
  z229 := Tryz.sizeOf191
  v229 := Tryz.zeroValue191 }
open Go.Sort Go.RowKit in
theorem slices_Sort_string (blk off cap : Nat) (ss : List (List UInt8)) (w : World) (hH : Holds encStr w blk off ss.toArray) (hblk : blk < w.heap.size) (hsz : ss.length < 4611686018427387904) :
    Calls Tryz.prog 70 #[.slice (some ⟨blk, off, none⟩) ss.length cap] w fun e w' =>
      e = .returned (.tuple #[]) ∧ ∃ n os, w' = grow (putRow encStr (Sort.ahead w n) blk off (ss.mergeSort fun x y => decide (x ≤ y)).toArray) os := Any.slices_Sort_string lays190 blk off cap ss w hH hblk hsz
open Go.RowKit Go.Sort in
/-- .. and plain. (LAID: no walk: one application.) -/
theorem slices_Sort_string_none (p : Option Addr) (cap : Nat) (w : World) :
    Calls Tryz.prog 70 #[.slice p 0 cap] w fun e w' => e = .returned (.tuple #[]) ∧ w' = w := Any.slices_Sort_string_none lays190 p cap w
end Go.Proofs.YtphglnenafdkaaaGreatDoor

namespace Go.Proofs.YtphglnenafdkaaaGreatDoor
open Go.RowKit Go.Sort Go.Shelf
set_option linter.unusedVariables false
set_option linter.unusedSimpArgs false

theorem enc_of (k : ByteArray) : encStr k.toList = .string k := by
  rw [ByteArray.toList_eq]
theorem strs_get {l : List ByteArray} {j : Nat} (hj : j < l.length) : (strs l)[j]? = some (encStr ((l.map ByteArray.toList).toArray[j]!)) := by
  have h1 : (l.map ByteArray.toList).toArray[j]! = l[j].toList := by simp [hj]
  rw [h1, enc_of]
  simp [strs, hj]
theorem holds_strs {w : World} {g : Nat} {cur : Array Value} {e : TypeId} {l : List ByteArray} (hb : w.heap[g]? = some (.cells cur e (0, 0))) (ht : cur.toList.take (l.length * 1) = strs l) : Holds encStr w g 0 (l.map ByteArray.toList).toArray := by
  intro j hj
  have hj' : j < l.length := by simpa using hj
  have h1 := strs_get hj'
  rw [← ht, List.getElem?_take_of_lt (by omega), Array.getElem?_toList] at h1
  refine ⟨?_, by simp [World.frozen?, hb]⟩
  simp only [World.cell?, hb, Nat.zero_add, Option.isSome_none, Bool.false_eq_true, if_false]
  exact h1
theorem heap_sortedS {w : World} {g n : Nat} {os : Array Obj} {cur : Array Value} {e : TypeId} {fr : Nat × Nat} (d : Array (List UInt8)) (hb : w.heap[g]? = some (.cells cur e fr)) :
    (grow (putRow encStr (Sort.ahead w n) g 0 d) os).heap[g]? = some (.cells (putCells encStr 0 d cur) e fr) := by
  have hg : g < w.heap.size := (Array.getElem?_eq_some_iff.1 hb).1
  rw [heap_grow_old _ _ (by simpa using hg)]
  simp [putRow, mapBlock, Sort.ahead, Array.getElem?_modify, hb, onCells]
theorem grownBy_sortedS {w : World} {g n : Nat} {os : Array Obj} (d : Array (List UInt8)) : w.grownBy (grow (putRow encStr (Sort.ahead w n) g 0 d) os) (some g) := by
  refine ⟨rfl, rfl, rfl, by simp, fun k hk hne => ?_⟩
  rw [heap_grow_old _ _ (by simpa using hk)]
  have : g ≠ k := fun e => hne (by rw [e])
  simp [putRow, mapBlock, Sort.ahead, Array.getElem?_modify, this]
theorem ownsRow_sortedS {w : World} {base g cap n : Nat} {e : TypeId} {os : Array Obj} {cur : Array Value} {ss ts : List ByteArray} (hl : ts.length = ss.length) (hbase : base ≤ g) (hb : w.heap[g]? = some (.cells cur e (0, 0)))
    (h1 : ss.length ≤ cap) (h2 : cap ≤ maxLen) (h3 : cur.size = cap * 1) :
    (grow (putRow encStr (Sort.ahead w n) g 0 (ts.map ByteArray.toList).toArray) os).ownsRow base e 1 (.slice (some ⟨g, 0, none⟩) ss.length cap) ss.length (strs ts) := by
  refine ⟨by simp [strs, hl], .inr ⟨g, cap, _, rfl, hbase, heap_sortedS _ hb, h1, h2, by simp [putCells, h3], ?_⟩⟩
  apply List.ext_getElem?
  intro j
  by_cases hj : j < ts.length
  · rw [List.getElem?_take_of_lt (by omega), Array.getElem?_toList, strs_get hj]
    simp [putCells, hj, show j < cur.size by omega]
  · rw [List.getElem?_take_eq_none (by omega), List.getElem?_eq_none (by simp [strs]; omega)]
theorem sortk_any {base : Nat} {A : Option Addr} {c : Nat} (out : List ByteArray) (L : List Kv) (w : World) (ha : Asc L) (hp : out.Perm (L.map (·.1))) (hn : out.length ≤ 262144) (hown : w.ownsRow base 9 1 (.slice A out.length c) out.length (strs out)) :
    Calls Tryz.prog 70 #[.slice A out.length c] w fun e w' => e = .returned (.tuple #[]) ∧ w'.ownsRow base 9 1 (.slice A out.length c) out.length (strs (L.map (·.1))) ∧ w.grownBy w' (Value.slice A out.length c).ownBlock := by
  have hlen := hp.length_eq
  rcases hown.2 with ⟨hnil, h0⟩ | ⟨g, cap, cur, hv, hbase, hb, h1, h2, h3, h4⟩
  · rw [h0] at hown ⊢
    refine (slices_Sort_string_none A c w).mono ?_
    rintro e w' ⟨rfl, rfl⟩
    obtain rfl := List.eq_nil_of_length_eq_zero h0
    have : L.map (·.1) = [] := List.eq_nil_of_length_eq_zero hlen.symm
    rw [this]
    exact ⟨rfl, hown, World.grownBy.refl _ _⟩
  · injection hv with hA hn2 hc
    subst hA
    have hlt : g < w.heap.size := (Array.getElem?_eq_some_iff.1 hb).1
    have hcon := slices_Sort_string g 0 c (out.map ByteArray.toList) w (holds_strs hb h4) hlt (by simp; omega)
    rw [sort_keys ha hp, List.length_map] at hcon
    refine hcon.mono ?_
    rintro e w' ⟨rfl, n, os, rfl⟩
    refine ⟨rfl, ?_, grownBy_sortedS _⟩
    have := ownsRow_sortedS (n := n) (os := os) (ss := out) (ts := L.map (·.1)) hlen.symm hbase hb h1 h2 h3
    rw [hc]
    rw [List.map_map] at this
    exact this
end Go.Proofs.YtphglnenafdkaaaGreatDoor

namespace Go.Proofs.YtphglnenafdkaaaGreatDoor
open Go.RowKit
set_option linter.unusedVariables false
set_option linter.unusedSimpArgs false

theorem info_strK : (Tryz.prog.info? 9).map (fun i => (i.zero, i.size, i.bytes)) = some (some (.string ⟨#[]⟩), 1, 16) := by kernel_rfl
theorem strs_snoc (l : List ByteArray) (k : ByteArray) : strs (l ++ [k]) = strs l ++ [.string k] := by simp [strs]
theorem keysTo_len {n i : Nat} {L : List Kv} (hL : L.length ≤ 262144) : (keysTo n i L).length ≤ 262144 := by
  unfold keysTo
  rw [List.length_map]
  exact Nat.le_trans (List.length_filter_le _ _) hL
theorem own_updC {M : Nat → Prop} {w w' : World} {base : Nat} {e : TypeId} {size n : Nat} {v : Value} {xs : List Value} (h : w.ownsRow base e size v n xs) (hu : Upd M w w') (hM : ∀ k, M k → ∃ a b c d, w.heap[k]? = some (.mapIter a b c d)) : w'.ownsRow base e size v n xs := by
  refine ⟨h.1, ?_⟩
  rcases h.2 with hn | ⟨g, cap, cur, rfl, hg, hh, rest⟩
  · exact .inl hn
  · have hl : g < w.heap.size := (Array.getElem?_eq_some_iff.1 hh).1
    exact .inr ⟨g, cap, cur, rfl, hg, (hu.block g hl fun hm => by obtain ⟨_, _, _, _, h1⟩ := hM g hm; rw [hh] at h1; cases h1).trans hh, rest⟩
theorem own_not {w : World} {base b : Nat} {e : TypeId} {size n : Nat} {v : Value} {xs : List Value} {m : Option Nat} {a d : Nat} {q : Array Nat} (h : w.ownsRow base e size v n xs) (hb : w.heap[b]? = some (.mapIter m a q d)) : v.ownBlock ≠ some b := by
  intro e
  rcases h.2 with ⟨rfl, _⟩ | ⟨g, cap, cur, rfl, hg, hh, rest⟩
  · cases e
  · injection e with e
    simp only at e
    rw [e, hb] at hh; cases hh
section
variable {S : Nat → Prop} {w : World} {g : Nat} {s : St}
set_option maxRecDepth 100000 in
set_option maxHeartbeats 4000000 in
theorem keys_any (h : PAt S w g s) : Calls Tryz.prog 43 #[.pointer (some ⟨g, 0, none⟩)] w fun e w' => ∃ A c, e = .returned (.slice A s.L.length c) ∧ w'.ownsRow w.heap.size 9 1 (.slice A s.L.length c) s.L.length (strs (s.L.map (·.1))) ∧ Below w.heap.size w w' := by
  obtain ⟨cb, cc, mb, vb, h⟩ := h
  have HH := hid h
  have c1 := h.cells.2.1
  obtain ⟨i0, hi0, hz0, hz1, hz2⟩ := info_parts info_strK
  have hlen := hid h.ok.len
  have hpr := hid h.ok.parts
  have hP : (s.parts : Int) ≤ 64 := by have := h.ok.parts; omega
  clear h
  go_enter Tryz.func43, Tryz.ntmps43
  go_wp2_with fail
  go_loopw [3, 14] (fun u v wr => ∃ (i : Nat) (out : List ByteArray) (A : Option Addr) (c : Nat), u = .slice A out.length c ∧ v = .int .i64 i ∧ i ≤ s.parts ∧ wr.ownsRow w.heap.size 9 1 (.slice A out.length c) out.length (strs out) ∧ Below w.heap.size w wr ∧ out.Perm (keysTo s.parts i s.L)) (fun _ v _ => s.parts - (intOf v).toNat)
  case atStart => exact ⟨0, [], none, 0, rfl, rfl, Nat.zero_le _, World.ownsRow_nil _ _ _ _, Below.refl _ _, by rw [keysTo_zero]⟩
  case round =>
    obtain ⟨i, out, A, c, rfl, rfl, hi, hown0, hb0, hpm0⟩ := hrel
    have hO := hid hown0
    have hB := hid hb0
    have hpm := hid hpm0
    have hol := hid (show out.length ≤ 262144 by rw [hpm0.length_eq]; exact keysTo_len hlen.out)
    by_cases hlt : i < s.parts
    · have i1 : (i : Int) < (s.parts : Int) := by omega
      obtain ⟨l, hml, hd⟩ := HH.out.cl i hlt
      obtain ⟨es, clock, hes, hprs, hst⟩ := id hml
      have hlm := hid (HH.out.lt _ (HH.out.inS.2.2.2 i hlt))
      have hesr0 : wr.heap[mb i]? = some (.map es clock) := (hb0.block _ hlm.out).trans hes
      have hrg := run_range_map (P := Tryz.prog) wr 78 9 3 (mb i) es clock Tryz.underlying78 hesr0
      have y0 : wr.cell? ⟨cb, i, none⟩ = some (.map (some (mb i))) := ((Upd.of_below (M := fun j => w.heap.size ≤ j) hb0 fun _ _ h => h).cell (HH.out.rowc i hlt) (by have := HH.out.lt _ HH.out.inS.2.1; omega))
      have hM := hid hml
      have hD := hid hd
      have hPr := hid hprs
      have hS := hid hst
      have hE := hid hes
      have hll := hid (show l.length ≤ 262144 by rw [claims_len HH.out.ok.asc hml hd]; unfold keysP; rw [List.length_map]; exact Nat.le_trans (List.length_filter_le _ _) hlen.out)
      have hsum := hid (show ∀ new : List ByteArray, new.length ≤ l.length → (out ++ new).length ≤ 524288 from fun new hn => by have := hol.out; have := hll.out; simp; omega)
      clear hml hd hprs hst hes hown0 hb0 hpm0 hesr0
      go_wp2_with fail
      rename World => W1
      clear hrg y0 c1
      have hitl := hid hB.out.size
      go_loopw [3] (fun v wr => ∃ (seen : Array Nat) (c0 : Nat) (new : List ByteArray) (A : Option Addr) (c : Nat), v = .slice A (out ++ new).length c ∧ wr.heap[W1.heap.size]? = some (.mapIter (some (mb i)) clock seen c0) ∧ clock ≤ c0 ∧ wr.ownsRow w.heap.size 9 1 (.slice A (out ++ new).length c) (out ++ new).length (strs (out ++ new)) ∧ Below w.heap.size w wr ∧ (doneOf es seen).Perm (new.map encK)) (fun _ wr => (leftOf es (wr.iterSeen W1.heap.size)).size)
      case atStart => exact ⟨#[], clock, [], A, c, by rw [List.append_nil], heap_alloc_new _ _, Nat.le_refl _, by rw [List.append_nil]; exact hO.out.alloc _, hB.out.alloc hB.out.size _, by rw [done_none]; exact List.Perm.nil⟩
      case round =>
        obtain ⟨seen, c0, new, A2, c2, rfl, hr, hc0, hown, hB0, hdone⟩ := hrel
        have hesr := (hB0.block _ hlm.out).trans hE.out
        have hseen0 := hid (seen_of hr)
        have hnl : new.length ≤ l.length := by
          have h1 := hdone.length_eq
          have h2 := done_le (E := strE) (seen := seen) hPr.out
          simp at h1
          omega
        have hol2 := hid (hsum.out new hnl)
        clear hnl
        rcases range_step (P := Tryz.prog) hr hesr hS.out hc0 with ⟨h0, hnx⟩ | ⟨e, wn, he, hns, hsh, hun, hszn, hrn, hesn, hnx, hent⟩
        · have hperm : new.Perm (keysP s.parts i s.L) := done_claims HH.out.ok.asc hM.out hD.out hPr.out (by rw [← done_all h0]; exact hdone)
          have hpm2 := hid ((hpm.out.append hperm).trans (keysTo_step s.parts i s.L))
          have hB2 := hid hB0
          have hO2 := hid hown
          have hj : IntKind.i64.wrap ((i : Int) + 1) = (i : Int) + 1 := by rw [IntKind.wrap_i64]; omega
          generalize out ++ new = out2 at *
          clear hperm h0 hr hesr hown hB0 hdone hsum
          go_wp2_with fail
          go_roundw
          case rel => exact ⟨i + 1, out2, A2, c2, rfl, by simp, hlt, hO2.out, hB2.out, hpm2.out⟩
          case measure => simp [intOf]; omega
        · obtain ⟨p, hp, hek, hev⟩ := done_list (E := strE) (w := w) (b := mb i) (clock := clock) hPr.out he
          have hget := (getK_mem hM.out.nodup).2 (show (p.1, p.2) ∈ l from hp)
          rw [hD.out] at hget
          obtain ⟨y, hy⟩ : ∃ y, y = p.1 := ⟨_, rfl⟩
          have hek : e.key = .string y := by rw [hek, hy]; rfl
          have hev : e.val = .int .i64 1 := by
            rw [hev]
            unfold Dc at hget
            split at hget
            · injection hget with hget; exact hget.symm
            · cases hget
          have hpush := hid ((done_push hS.out.2.1 he hns).trans (hdone.cons _))
          rw [hek, hev] at hnx hent hpush
          have hownn : wn.ownsRow w.heap.size 9 1 (.slice A2 (out ++ new).length c2) (out ++ new).length (strs (out ++ new)) := own_updC hown hun fun k e => ⟨_, _, _, _, (congrArg (fun j => wr.heap[j]?) (show k = W1.heap.size from e)).trans hr⟩
          have hBn : Below w.heap.size w wn := hB0.trans (hun.below (B := w.heap.size) hB0.size fun k hk e => by have := hitl.out; omega)
          have hHB := hid hBn
          have hHO := hid hownn
          have hHr := hid hrn
          have hsh' := hid hsh
          clear hp hget hek hev hy hown hB0 hdone hr hesr hun hrn hesn hBn hownn he hns hsh hszn hsum
          have hlo := hid (show (out ++ new).length + 1 ≤ 1000000 by have := hol2.out; omega)
          have hne := hid (own_not hHO.out hHr.out)
          have hrl := hid (show W1.heap.size < wn.heap.size from (Array.getElem?_eq_some_iff.1 hHr.out).1)
          go_wp2_with (
            at_builtin
            refine wpList_append_rd _ rfl (.tmp 24) (.tmp 26) 25 rfl w.heap.size 9 i0 _ 1 16 Tryz.underlying25 hi0 hz0 hz1 hz2 rfl (by omega) (.slice A2 (out ++ new).length c2) (out ++ new).length (strs (out ++ new)) rfl (hHO.out.alloc _) (fun b => b = wn.heap.size) (some ⟨wn.heap.size, 0, none⟩) 1 1 [.string y] rfl (Rd.new _ 9 1 1 #[.string y] _ rfl rfl) (by simp [Value.oneCell']) (by have := hlo.out; simp only [maxLen]; omega) (by have := hlo.out; omega) (by have h1 := hHB.out.size; simp; omega) ?_
            intro v3 w3 hown3 hg3 hat3
            obtain ⟨A3, c3, rfl, hc3, _⟩ := own_form hown3)
          have hr3 : w3.heap[W1.heap.size]? = some (.mapIter (some (mb i)) clock (seen.push e.born) clock) := (hg3.block _ (by have := hrl.out; simp; omega) (Ne.symm hne.out)).trans ((Below.heap_alloc _ _ _ hrl.out).trans hHr.out)
          go_roundw
          case rel =>
            refine ⟨seen.push e.born, clock, new ++ [y], A3, c3, by simp [Nat.add_assoc], hr3, Nat.le_refl _, ?_, ?_, ?_⟩
            · rw [← List.append_assoc, strs_snoc, List.length_append]; exact hown3
            · exact (hHB.out.alloc hHB.out.size _).grown hg3 (by have := hHB.out.size; simp; omega) fun k hk => (hHO.out.lt k hk).1
            · rw [List.map_append]
              exact hpush.out.trans (List.perm_append_comm (l₁ := [encK y]) (l₂ := new.map encK))
          case measure =>
            rw [seen_of hr3, hseen0.out]
            exact hsh'.out
    · obtain rfl : i = s.parts := by omega
      have hso := hid (sortk_any (c := c) out s.L wr HH.out.ok.asc (by rw [← keysTo_all (n := s.parts) (by have := hpr.out; omega)]; exact hpm.out) hol.out hO.out)
      have hln := hid (show out.length = s.L.length by have := hpm.out.length_eq; rw [keysTo_all (by have := hpr.out; omega)] at this; simpa using this)
      clear hlt hown0 hb0 hpm0 c1
      generalize s.parts = np at *
      go_wp2_with fail
      refine hso.out.mono ?_
      rintro e w3 ⟨rfl, hown3, hg3⟩
      have hfin : Hid (w3.ownsRow w.heap.size 9 1 (.slice A out.length c) out.length (strs (s.L.map (·.1))) ∧ Below w.heap.size w w3) := hid ⟨hown3, hB.out.grown hg3 hB.out.size fun k hk => (hO.out.lt k hk).1⟩
      clear hown3 hg3
      go_wp2_with fail
      go_ret
      rw [hln.out] at hfin ⊢
      exact ⟨A, c, rfl, hfin.out.1, hfin.out.2⟩
end
end Go.Proofs.YtphglnenafdkaaaGreatDoor

namespace Go.Proofs.YtphglnenafdkaaaGreatDoor
open Go.Shelf
def laysM173_ren : Go.Shelf.Ren := ⟨fun | 173 => 69 | 246 => 90 | 283 => 111 | 284 => 112 | 285 => 113 | 286 => 114 | 129 => 125 | 317 => 146 | 318 => 147 | 319 => 148 | 320 => 149 | 337 => 166 | 338 => 167 | n => n, fun | 2 => 2 | 3 => 3 | 9 => 9 | 4 => 4 | 171 => 145 | 0 => 0 | 53 => 118 | 37 => 41 | 5 => 5 | 173 => 148 | 212 => 171 | 51 => 159 | 20 => 20 | 213 => 172 | 46 => 136 | 232 => 203 | 233 => 204 | n => n, fun | 17 => 2 | 18 => 7 | 19 => 8 | n => n⟩
theorem laysM173 : Go.Proofs.LaysM.n173 Tryz.prog laysM173_ren := {
  mixed := by kernel_rfl
  f129 := Tryz.func125.trans (congrArg some (by kernel_rfl))
  f173 := Tryz.func69.trans (congrArg some (by kernel_rfl))
  f246 := Tryz.func90.trans (congrArg some (by kernel_rfl))
  f283 := Tryz.func111.trans (congrArg some (by kernel_rfl))
  f284 := Tryz.func112.trans (congrArg some (by kernel_rfl))
  f285 := Tryz.func113.trans (congrArg some (by kernel_rfl))
  f286 := Tryz.func114.trans (congrArg some (by kernel_rfl))
  f317 := Tryz.func146.trans (congrArg some (by kernel_rfl))
  f318 := Tryz.func147.trans (congrArg some (by kernel_rfl))
  f319 := Tryz.func148.trans (congrArg some (by kernel_rfl))
  f320 := Tryz.func149.trans (congrArg some (by kernel_rfl))
  f337 := Tryz.func166.trans (congrArg some (by kernel_rfl))
  f338 := Tryz.func167.trans (congrArg some (by kernel_rfl))
  t0 := Tryz.underlying0
  a0 := Tryz.isAgg0
  z0 := Tryz.sizeOf0
  v0 := Tryz.zeroValue0
  t2 := Tryz.underlying2
  a2 := Tryz.isAgg2
  z2 := Tryz.sizeOf2
  v2 := Tryz.zeroValue2
  t3 := Tryz.underlying3
  a3 := Tryz.isAgg3
  z3 := Tryz.sizeOf3
  v3 := Tryz.zeroValue3
  t4 := Tryz.underlying4
  a4 := Tryz.isAgg4
  z4 := Tryz.sizeOf4
  v4 := Tryz.zeroValue4
  t5 := Tryz.underlying5
  a5 := Tryz.isAgg5
  z5 := Tryz.sizeOf5
  v5 := Tryz.zeroValue5
  t9 := Tryz.underlying9
  a9 := Tryz.isAgg9
  z9 := Tryz.sizeOf9
  v9 := Tryz.zeroValue9
  t20 := Tryz.underlying20
  a20 := Tryz.isAgg20
  z20 := Tryz.sizeOf20
  v20 := Tryz.zeroValue20
  t37 := Tryz.underlying41
  a37 := Tryz.isAgg41
  z37 := Tryz.sizeOf41
  v37 := Tryz.zeroValue41
  t46 := Tryz.underlying136
  a46 := Tryz.isAgg136
  z46 := Tryz.sizeOf136
  v46 := Tryz.zeroValue136
  t51 := Tryz.underlying159
  a51 := Tryz.isAgg159
  z51 := Tryz.sizeOf159
  v51 := Tryz.zeroValue159
  t53 := Tryz.underlying118
  a53 := Tryz.isAgg118
  z53 := Tryz.sizeOf118
  v53 := Tryz.zeroValue118
  t171 := Tryz.underlying145
  a171 := Tryz.isAgg145
  z171 := Tryz.sizeOf145
  v171 := Tryz.zeroValue145
  t173 := Tryz.underlying148
  a173 := Tryz.isAgg148
  z173 := Tryz.sizeOf148
  v173 := Tryz.zeroValue148
  t212 := Tryz.underlying171
  a212 := Tryz.isAgg171
  z212 := Tryz.sizeOf171
  v212 := Tryz.zeroValue171
  t213 := Tryz.underlying172
  a213 := Tryz.isAgg172
  z213 := Tryz.sizeOf172
  t232 := Tryz.underlying203
  a232 := Tryz.isAgg203
  z232 := Tryz.sizeOf203
  v232 := Tryz.zeroValue203
  t233 := Tryz.underlying204
  a233 := Tryz.isAgg204
  z233 := Tryz.sizeOf204
  v233 := Tryz.zeroValue204
  g17 := by kernel_rfl
  g18 := by kernel_rfl
  g19 := by kernel_rfl
  i0 := by kernel_rfl
  i2 := by kernel_rfl
  i3 := by kernel_rfl
  i4 := by kernel_rfl
  i5 := by kernel_rfl
  i9 := by kernel_rfl
  i20 := by kernel_rfl
  i37 := by kernel_rfl
  i46 := by kernel_rfl
  i51 := by kernel_rfl
  i53 := by kernel_rfl
  i171 := by kernel_rfl
  i173 := by kernel_rfl
  i212 := by kernel_rfl
  i232 := by kernel_rfl
  i233 := by kernel_rfl
  m17 := by kernel_rfl
  m18 := by kernel_rfl
  m19 := by kernel_rfl }
def laysM183_ren : Go.Shelf.Ren := ⟨fun | 183 => 45 | n => n, fun | 130 => 120 | 37 => 41 | 0 => 0 | 93 => 83 | 3 => 3 | 5 => 5 | 91 => 81 | n => n, fun | n => n⟩
theorem laysM183 : Go.Proofs.LaysM.n183 Tryz.prog laysM183_ren := {
  mixed := by kernel_rfl
  f183 := Tryz.func45.trans (congrArg some (by kernel_rfl))
  t0 := Tryz.underlying0
  a0 := Tryz.isAgg0
  z0 := Tryz.sizeOf0
  v0 := Tryz.zeroValue0
  t3 := Tryz.underlying3
  a3 := Tryz.isAgg3
  z3 := Tryz.sizeOf3
  v3 := Tryz.zeroValue3
  t37 := Tryz.underlying41
  a37 := Tryz.isAgg41
  z37 := Tryz.sizeOf41
  v37 := Tryz.zeroValue41
  t93 := Tryz.underlying83
  a93 := Tryz.isAgg83
  z93 := Tryz.sizeOf83
  v93 := Tryz.zeroValue83
  t130 := Tryz.underlying120
  a130 := Tryz.isAgg120
  z130 := Tryz.sizeOf120
  v130 := Tryz.zeroValue120
  t5 := Tryz.underlying5
  a5 := Tryz.isAgg5
  z5 := Tryz.sizeOf5
  v5 := Tryz.zeroValue5
  t91 := Tryz.underlying81
  a91 := Tryz.isAgg81
  z91 := Tryz.sizeOf81
  v91 := Tryz.zeroValue81
  i0 := by kernel_rfl
  i3 := by kernel_rfl
  i5 := by kernel_rfl
  i37 := by kernel_rfl
  i91 := by kernel_rfl
  i93 := by kernel_rfl
  i130 := by kernel_rfl }
def laysM178_ren : Go.Shelf.Ren := ⟨fun | 178 => 40 | 251 => 67 | 252 => 68 | 181 => 87 | 184 => 88 | 290 => 89 | 324 => 110 | n => n, fun | 130 => 120 | 9 => 9 | 3 => 3 | 75 => 85 | 0 => 0 | 93 => 83 | 91 => 81 | 131 => 95 | 4 => 4 | 37 => 41 | 20 => 20 | 80 => 101 | 5 => 5 | n => n, fun | 14 => 0 | n => n⟩
theorem laysM178 : Go.Proofs.LaysM.n178 Tryz.prog laysM178_ren := {
  mixed := by kernel_rfl
  f178 := Tryz.func40.trans (congrArg some (by kernel_rfl))
  f181 := Tryz.func87.trans (congrArg some (by kernel_rfl))
  f184 := Tryz.func88.trans (congrArg some (by kernel_rfl))
  f251 := Tryz.func67.trans (congrArg some (by kernel_rfl))
  f252 := Tryz.func68.trans (congrArg some (by kernel_rfl))
  f290 := Tryz.func89.trans (congrArg some (by kernel_rfl))
  f324 := Tryz.func110.trans (congrArg some (by kernel_rfl))
  t0 := Tryz.underlying0
  a0 := Tryz.isAgg0
  z0 := Tryz.sizeOf0
  v0 := Tryz.zeroValue0
  t3 := Tryz.underlying3
  a3 := Tryz.isAgg3
  z3 := Tryz.sizeOf3
  v3 := Tryz.zeroValue3
  t4 := Tryz.underlying4
  a4 := Tryz.isAgg4
  z4 := Tryz.sizeOf4
  v4 := Tryz.zeroValue4
  t9 := Tryz.underlying9
  a9 := Tryz.isAgg9
  z9 := Tryz.sizeOf9
  v9 := Tryz.zeroValue9
  t20 := Tryz.underlying20
  a20 := Tryz.isAgg20
  z20 := Tryz.sizeOf20
  v20 := Tryz.zeroValue20
  t37 := Tryz.underlying41
  a37 := Tryz.isAgg41
  z37 := Tryz.sizeOf41
  v37 := Tryz.zeroValue41
  t75 := Tryz.underlying85
  a75 := Tryz.isAgg85
  z75 := Tryz.sizeOf85
  v75 := Tryz.zeroValue85
  t91 := Tryz.underlying81
  a91 := Tryz.isAgg81
  z91 := Tryz.sizeOf81
  v91 := Tryz.zeroValue81
  t93 := Tryz.underlying83
  a93 := Tryz.isAgg83
  z93 := Tryz.sizeOf83
  v93 := Tryz.zeroValue83
  t130 := Tryz.underlying120
  a130 := Tryz.isAgg120
  z130 := Tryz.sizeOf120
  v130 := Tryz.zeroValue120
  t131 := Tryz.underlying95
  a131 := Tryz.isAgg95
  z131 := Tryz.sizeOf95
  v131 := Tryz.zeroValue95
  g14 := by kernel_rfl
  t5 := Tryz.underlying5
  a5 := Tryz.isAgg5
  z5 := Tryz.sizeOf5
  v5 := Tryz.zeroValue5
  t80 := Tryz.underlying101
  a80 := Tryz.isAgg101
  z80 := Tryz.sizeOf101
  v80 := Tryz.zeroValue101
  i0 := by kernel_rfl
  i3 := by kernel_rfl
  i4 := by kernel_rfl
  i5 := by kernel_rfl
  i9 := by kernel_rfl
  i20 := by kernel_rfl
  i37 := by kernel_rfl
  i75 := by kernel_rfl
  i80 := by kernel_rfl
  i91 := by kernel_rfl
  i93 := by kernel_rfl
  i130 := by kernel_rfl
  i131 := by kernel_rfl
  m14 := by kernel_rfl }
open Go.RowKit Go.Sort Go.Lib in
/-- strconv.FormatInt: "FormatInt returns the string representation of i in the given base": AT BASE 10: i's decimal numeral, for every int64. (LAID: no walk: one application.) -/
theorem strconv_FormatInt_10 (n : Int) (h0 : -9223372036854775808 ≤ n) (h1 : n ≤ 9223372036854775807) (w : World) (htab : Lib.TabIs Tryz.prog w "internal/strconv.uint64pow10" .u64 Lib.pow10Tab) :
    Calls Tryz.prog 69 #[.int .i64 n, .int .i64 10] w fun e w' => e = .returned (.string ⟨(Lib.itoa n).toArray⟩) ∧ ∃ k os, w' = grow (w.drewN k) os := Any.strconv_FormatInt_10 laysM173 n h0 h1 w htab
open Go.RowKit in
/-- (*bytes.Buffer).Bytes: "Bytes returns a slice of length b.Len() holding the unread portion of the buffer. .. The slice aliases the buffer content at least until the next buffer modification": A SLICE THAT OWNS THE CELLS bs ('World.ownsRow': nil where nothing was ever written). The world is as it was but for the count of draws. (LAID: no walk: one application.) -/
theorem Buffer_Bytes (B b : Nat) (bs : List Value) (w : World) (h : Lib.IsBuffer 83 5 B b bs w) :
    Calls Tryz.prog 45 #[.pointer (some ⟨b, 0, none⟩)] w fun e w' => ∃ v, e = .returned v ∧ w'.ownsRow B 5 1 v bs.length bs ∧ ∃ n, w' = w.drewN n := Any.Buffer_Bytes laysM183 B b bs w h
open Go.RowKit in
theorem Buffer_WriteString_k (B b : Nat) (bs : List Value) (s : ByteArray) (w : World) (h : Lib.IsBuffer 83 5 B b bs w) (hBw : B ≤ w.heap.size) (h1 : ∀ v ∈ bs, v.oneCell' = true) (hlim : bs.length + s.size ≤ 140737488355328) :
    Calls Tryz.prog 40 #[.pointer (some ⟨b, 0, none⟩), .string s] w fun e w' => e = .returned (.tuple #[.int .i64 s.size, .nilIface]) ∧ Lib.IsBuffer 83 5 B b (bs ++ Lib.byteCells s.data.toList) w' ∧ Below B w w' ∧ Lib.OthersKept 5 (some b) w w' := Any.Buffer_WriteString_k laysM178 B b bs s w h hBw h1 hlim
end Go.Proofs.YtphglnenafdkaaaGreatDoor

