/- Texts of the proof, joined: SKeys, YData, YRead, YClaim, YClaimW, STurnP, STurnQ, YApply, YBegin. -/
import Derived.Test.YtefigpmkiemfhaaDoorN05
import Derived.Test.YtefigpmkiemfhaaDoorN04
import Derived.BigRegion
namespace Go.Proofs.YtefigpmkiemfhaaDoor
open Go.RowKit
set_option linter.unusedVariables false
set_option linter.unusedSimpArgs false

theorem info_strK : (Tryd.prog.info? 9).map (fun i => (i.zero, i.size, i.bytes)) = some (some (.string ⟨#[]⟩), 1, 16) := by kernel_rfl
theorem strs_snoc (l : List ByteArray) (k : ByteArray) : strs (l ++ [k]) = strs l ++ [.string k] := by simp [strs]
theorem keysTo_len {n i : Nat} {L : List Kv} (hL : L.length ≤ 262144) : (keysTo n i L).length ≤ 262144 := by
  unfold keysTo
  rw [List.length_map]
  exact Nat.le_trans (List.length_filter_le _ _) hL
theorem own_updC {M : Nat → Prop} {w w' : World} {base : Nat} {e : TypeId} {size n : Nat} {v : Value} {xs : List Value} (h : w.ownsRow base e size v n xs) (hu : Upd M w w') (hM : ∀ k, M k → ∃ a b c d, w.heap[k]? = some (.mapIter a b c d)) : w'.ownsRow base e size v n xs := by
  refine ⟨h.1, ?_⟩
  rcases h.2 with hn | ⟨g, cap, cur, rfl, hg, hh, rest⟩
  · exact .inl hn
  · have hl : g < w.heap.size := (Array.getElem?_eq_some_iff.1 hh).1
    exact .inr ⟨g, cap, cur, rfl, hg, (hu.block g hl fun hm => by obtain ⟨_, _, _, _, h1⟩ := hM g hm; rw [hh] at h1; cases h1).trans hh, rest⟩
theorem own_not {w : World} {base b : Nat} {e : TypeId} {size n : Nat} {v : Value} {xs : List Value} {m : Option Nat} {a d : Nat} {q : Array Nat} (h : w.ownsRow base e size v n xs) (hb : w.heap[b]? = some (.mapIter m a q d)) : v.ownBlock ≠ some b := by
  intro e
  rcases h.2 with ⟨rfl, _⟩ | ⟨g, cap, cur, rfl, hg, hh, rest⟩
  · cases e
  · injection e with e
    simp only at e
    rw [e, hb] at hh; cases hh
section
variable {S : Nat → Prop} {w : World} {g : Nat} {s : St}
set_option maxRecDepth 100000 in
set_option maxHeartbeats 4000000 in
theorem keys_any (h : PAt S w g s) : Calls Tryd.prog 22 #[.pointer (some ⟨g, 0, none⟩)] w fun e w' => ∃ A c, e = .returned (.slice A s.L.length c) ∧ w'.ownsRow w.heap.size 9 1 (.slice A s.L.length c) s.L.length (strs (s.L.map (·.1))) ∧ Below w.heap.size w w' := by
  obtain ⟨cb, cc, mb, vb, h⟩ := h
  have HH := hid h
  have c1 := h.cells.2.1
  obtain ⟨i0, hi0, hz0, hz1, hz2⟩ := info_parts info_strK
  have hlen := hid h.ok.len
  have hpr := hid h.ok.parts
  have hP : (s.parts : Int) ≤ 64 := by have := h.ok.parts; omega
  clear h
  go_enter Tryd.func22, Tryd.ntmps22
  go_wp2_with fail
  go_loopw [3, 14] (fun u v wr => ∃ (i : Nat) (out : List ByteArray) (A : Option Addr) (c : Nat), u = .slice A out.length c ∧ v = .int .i64 i ∧ i ≤ s.parts ∧ wr.ownsRow w.heap.size 9 1 (.slice A out.length c) out.length (strs out) ∧ Below w.heap.size w wr ∧ out.Perm (keysTo s.parts i s.L)) (fun _ v _ => s.parts - (intOf v).toNat)
  case atStart => exact ⟨0, [], none, 0, rfl, rfl, Nat.zero_le _, World.ownsRow_nil _ _ _ _, Below.refl _ _, by rw [keysTo_zero]⟩
  case round =>
    obtain ⟨i, out, A, c, rfl, rfl, hi, hown0, hb0, hpm0⟩ := hrel
    have hO := hid hown0
    have hB := hid hb0
    have hpm := hid hpm0
    have hol := hid (show out.length ≤ 262144 by rw [hpm0.length_eq]; exact keysTo_len hlen.out)
    by_cases hlt : i < s.parts
    · have i1 : (i : Int) < (s.parts : Int) := by omega
      obtain ⟨l, hml, hd⟩ := HH.out.cl i hlt
      obtain ⟨es, clock, hes, hprs, hst⟩ := id hml
      have hlm := hid (HH.out.lt _ (HH.out.inS.2.2.2 i hlt))
      have hesr0 : wr.heap[mb i]? = some (.map es clock) := (hb0.block _ hlm.out).trans hes
      have hrg := run_range_map (P := Tryd.prog) wr 82 9 3 (mb i) es clock Tryd.underlying82 hesr0
      have y0 : wr.cell? ⟨cb, i, none⟩ = some (.map (some (mb i))) := ((Upd.of_below (M := fun j => w.heap.size ≤ j) hb0 fun _ _ h => h).cell (HH.out.rowc i hlt) (by have := HH.out.lt _ HH.out.inS.2.1; omega))
      have hM := hid hml
      have hD := hid hd
      have hPr := hid hprs
      have hS := hid hst
      have hE := hid hes
      have hll := hid (show l.length ≤ 262144 by rw [claims_len HH.out.ok.asc hml hd]; unfold keysP; rw [List.length_map]; exact Nat.le_trans (List.length_filter_le _ _) hlen.out)
      have hsum := hid (show ∀ new : List ByteArray, new.length ≤ l.length → (out ++ new).length ≤ 524288 from fun new hn => by have := hol.out; have := hll.out; simp; omega)
      clear hml hd hprs hst hes hown0 hb0 hpm0 hesr0
      go_wp2_with fail
      rename World => W1
      clear hrg y0 c1
      have hitl := hid hB.out.size
      go_loopw [3] (fun v wr => ∃ (seen : Array Nat) (c0 : Nat) (new : List ByteArray) (A : Option Addr) (c : Nat), v = .slice A (out ++ new).length c ∧ wr.heap[W1.heap.size]? = some (.mapIter (some (mb i)) clock seen c0) ∧ clock ≤ c0 ∧ wr.ownsRow w.heap.size 9 1 (.slice A (out ++ new).length c) (out ++ new).length (strs (out ++ new)) ∧ Below w.heap.size w wr ∧ (doneOf es seen).Perm (new.map encK)) (fun _ wr => (leftOf es (wr.iterSeen W1.heap.size)).size)
      case atStart => exact ⟨#[], clock, [], A, c, by rw [List.append_nil], heap_alloc_new _ _, Nat.le_refl _, by rw [List.append_nil]; exact hO.out.alloc _, hB.out.alloc hB.out.size _, by rw [done_none]; exact List.Perm.nil⟩
      case round =>
        obtain ⟨seen, c0, new, A2, c2, rfl, hr, hc0, hown, hB0, hdone⟩ := hrel
        have hesr := (hB0.block _ hlm.out).trans hE.out
        have hseen0 := hid (seen_of hr)
        have hnl : new.length ≤ l.length := by
          have h1 := hdone.length_eq
          have h2 := done_le (E := strE) (seen := seen) hPr.out
          simp at h1
          omega
        have hol2 := hid (hsum.out new hnl)
        clear hnl
        rcases range_step (P := Tryd.prog) hr hesr hS.out hc0 with ⟨h0, hnx⟩ | ⟨e, wn, he, hns, hsh, hun, hszn, hrn, hesn, hnx, hent⟩
        · have hperm : new.Perm (keysP s.parts i s.L) := done_claims HH.out.ok.asc hM.out hD.out hPr.out (by rw [← done_all h0]; exact hdone)
          have hpm2 := hid ((hpm.out.append hperm).trans (keysTo_step s.parts i s.L))
          have hB2 := hid hB0
          have hO2 := hid hown
          have hj : IntKind.i64.wrap ((i : Int) + 1) = (i : Int) + 1 := by rw [IntKind.wrap_i64]; omega
          generalize out ++ new = out2 at *
          clear hperm h0 hr hesr hown hB0 hdone hsum
          go_wp2_with fail
          go_roundw
          case rel => exact ⟨i + 1, out2, A2, c2, rfl, by simp, hlt, hO2.out, hB2.out, hpm2.out⟩
          case measure => simp [intOf]; omega
        · obtain ⟨p, hp, hek, hev⟩ := done_list (E := strE) (w := w) (b := mb i) (clock := clock) hPr.out he
          have hget := (getK_mem hM.out.nodup).2 (show (p.1, p.2) ∈ l from hp)
          rw [hD.out] at hget
          obtain ⟨y, hy⟩ : ∃ y, y = p.1 := ⟨_, rfl⟩
          have hek : e.key = .string y := by rw [hek, hy]; rfl
          have hev : e.val = .int .i64 1 := by
            rw [hev]
            unfold Dc at hget
            split at hget
            · injection hget with hget; exact hget.symm
            · cases hget
          have hpush := hid ((done_push hS.out.2.1 he hns).trans (hdone.cons _))
          rw [hek, hev] at hnx hent hpush
          have hownn : wn.ownsRow w.heap.size 9 1 (.slice A2 (out ++ new).length c2) (out ++ new).length (strs (out ++ new)) := own_updC hown hun fun k e => ⟨_, _, _, _, (congrArg (fun j => wr.heap[j]?) (show k = W1.heap.size from e)).trans hr⟩
          have hBn : Below w.heap.size w wn := hB0.trans (hun.below (B := w.heap.size) hB0.size fun k hk e => by have := hitl.out; omega)
          have hHB := hid hBn
          have hHO := hid hownn
          have hHr := hid hrn
          have hsh' := hid hsh
          clear hp hget hek hev hy hown hB0 hdone hr hesr hun hrn hesn hBn hownn he hns hsh hszn hsum
          have hlo := hid (show (out ++ new).length + 1 ≤ 1000000 by have := hol2.out; omega)
          have hne := hid (own_not hHO.out hHr.out)
          have hrl := hid (show W1.heap.size < wn.heap.size from (Array.getElem?_eq_some_iff.1 hHr.out).1)
          go_wp2_with (
            at_builtin
            refine wpList_append_rd _ rfl (.tmp 24) (.tmp 26) 26 rfl w.heap.size 9 i0 _ 1 16 Tryd.underlying26 hi0 hz0 hz1 hz2 rfl (by omega) (.slice A2 (out ++ new).length c2) (out ++ new).length (strs (out ++ new)) rfl (hHO.out.alloc _) (fun b => b = wn.heap.size) (some ⟨wn.heap.size, 0, none⟩) 1 1 [.string y] rfl (Rd.new _ 9 1 1 #[.string y] _ rfl rfl) (by simp [Value.oneCell']) (by have := hlo.out; simp only [maxLen]; omega) (by have := hlo.out; omega) (by have h1 := hHB.out.size; simp; omega) ?_
            intro v3 w3 hown3 hg3 hat3
            obtain ⟨A3, c3, rfl, hc3, _⟩ := own_form hown3)
          have hr3 : w3.heap[W1.heap.size]? = some (.mapIter (some (mb i)) clock (seen.push e.born) clock) := (hg3.block _ (by have := hrl.out; simp; omega) (Ne.symm hne.out)).trans ((Below.heap_alloc _ _ _ hrl.out).trans hHr.out)
          go_roundw
          case rel =>
            refine ⟨seen.push e.born, clock, new ++ [y], A3, c3, by simp [Nat.add_assoc], hr3, Nat.le_refl _, ?_, ?_, ?_⟩
            · rw [← List.append_assoc, strs_snoc, List.length_append]; exact hown3
            · exact (hHB.out.alloc hHB.out.size _).grown hg3 (by have := hHB.out.size; simp; omega) fun k hk => (hHO.out.lt k hk).1
            · rw [List.map_append]
              exact hpush.out.trans (List.perm_append_comm (l₁ := [encK y]) (l₂ := new.map encK))
          case measure =>
            rw [seen_of hr3, hseen0.out]
            exact hsh'.out
    · obtain rfl : i = s.parts := by omega
      have hso := hid (sortk_any (c := c) out s.L wr HH.out.ok.asc (by rw [← keysTo_all (n := s.parts) (by have := hpr.out; omega)]; exact hpm.out) hol.out hO.out)
      have hln := hid (show out.length = s.L.length by have := hpm.out.length_eq; rw [keysTo_all (by have := hpr.out; omega)] at this; simpa using this)
      clear hlt hown0 hb0 hpm0 c1
      generalize s.parts = np at *
      go_wp2_with fail
      refine hso.out.mono ?_
      rintro e w3 ⟨rfl, hown3, hg3⟩
      have hfin : Hid (w3.ownsRow w.heap.size 9 1 (.slice A out.length c) out.length (strs (s.L.map (·.1))) ∧ Below w.heap.size w w3) := hid ⟨hown3, hB.out.grown hg3 hB.out.size fun k hk => (hO.out.lt k hk).1⟩
      clear hown3 hg3
      go_wp2_with fail
      go_ret
      rw [hln.out] at hfin ⊢
      exact ⟨A, c, rfl, hfin.out.1, hfin.out.2⟩
end
end Go.Proofs.YtefigpmkiemfhaaDoor

namespace Go.Proofs.YtefigpmkiemfhaaDoor
open Go.RowKit
set_option linter.unusedVariables false
set_option linter.unusedSimpArgs false

def ceCells (c : Ce) : Array Value := #[.int .i64 c.c0.k, .int .i64 c.c0.n, .string c.c0.s, .int .i64 c.c1.k, .int .i64 c.c1.n, .string c.c1.s, .int .i64 (bI c.r), .int .i64 (bI c.w)]
/-- what the cells' map has -/
def Dz (L : List Kv) (b : ByteArray → Nat) (k : ByteArray) : Option Value := if hasK k L = true then some (.pointer (some ⟨b k, 0, none⟩)) else none
/-- a row's block: none of the Zig's others -/
def LQ (T SS : Nat → Prop) (g cm : Nat) (b : ByteArray → Nat) (L : List Kv) (q : Nat) : Prop := T q ∧ ¬ SS q ∧ q ≠ g ∧ q ≠ cm ∧ ∀ k, hasK k L = true → q ≠ b k
/-- the Zig lies at block g; its store at sg with the blocks SS; its cells' map at cm, a key's cell at b k; all its blocks are in T -/
structure ZIn (T SS : Nat → Prop) (w : World) (g sg cm : Nat) (b : ByteArray → Nat) (A1 : Option Addr) (c1 : Nat) (A2 : Option Addr) (c2 : Nat) (z : Zg) : Prop where
  blk : Blk w g 71 #[.int .i64 z.s.parts, .int .i64 z.s.room, .pointer (some ⟨sg, 0, none⟩), .map (some cm), .bool z.under, .int .i64 z.mark, .slice A1 z.left.length c1, .slice A2 z.taken.length c2]
  st : PAt SS w sg z.s
  mp : MapF strE w cm (Dz z.s.L b)
  cl : ∀ k, hasK k z.s.L = true → Blk w (b k) 75 (ceCells (z.f k))
  inj : ∀ k j, hasK k z.s.L = true → hasK j z.s.L = true → b k = b j → k = j
  left : Rd (fun q => LQ T SS g cm b z.s.L q ∧ (Value.slice A2 z.taken.length c2).ownBlock ≠ some q) w 1 A1 z.left.length (strs z.left)
  taken : w.ownsRow 0 77 4 (.slice A2 z.taken.length c2) z.taken.length (kvCells z.taken)
  tIn : ∀ q, (Value.slice A2 z.taken.length c2).ownBlock = some q → LQ T SS g cm b z.s.L q
  inT : T g ∧ T cm ∧ (∀ k, hasK k z.s.L = true → T (b k)) ∧ ∀ q, SS q → T q
  nS : ¬ SS g ∧ ¬ SS cm ∧ ∀ k, hasK k z.s.L = true → ¬ SS (b k)
  lt : ∀ q, T q → q < w.heap.size
  len : z.left.length ≤ 1000000 ∧ z.taken.length ≤ 1000000
  lc : z.left.length ≤ c1 ∧ c1 ≤ 9223372036854775807
  ok : z.Ok
def ZAt (T : Nat → Prop) (w : World) (g : Nat) (z : Zg) : Prop := ∃ SS sg cm b A1 c1 A2 c2, ZIn T SS w g sg cm b A1 c1 A2 c2 z
/-- a method has gone on: what it wrote is its own, what is new is new -/
def ZGo (T : Nat → Prop) (w : World) (g : Nat) (z' : Zg) (w' : World) : Prop := ∃ T', ZAt T' w' g z' ∧ (∀ q, T' q → T q ∨ w.heap.size ≤ q) ∧ (∀ q, T q → T' q) ∧ Upd T w w'
section
variable {T SS : Nat → Prop} {w w' : World} {g sg cm : Nat} {b : ByteArray → Nat} {A1 A2 : Option Addr} {c1 c2 : Nat} {z : Zg}
theorem own_keep {base : Nat} {e : TypeId} {size n : Nat} {v : Value} {xs : List Value} (h : w.ownsRow base e size v n xs) (hk : ∀ q, v.ownBlock = some q → w'.heap[q]? = w.heap[q]?) : w'.ownsRow base e size v n xs := by
  obtain ⟨h1, h2⟩ := h
  refine ⟨h1, ?_⟩
  rcases h2 with h0 | ⟨q, cap, cur, hv, hb, hh, hr⟩
  · exact .inl h0
  · subst hv
    exact .inr ⟨q, cap, cur, rfl, hb, (hk q rfl).trans hh, hr⟩
theorem ZIn.keep (h : ZIn T SS w g sg cm b A1 c1 A2 c2 z) (hk : ∀ q, T q → w'.heap[q]? = w.heap[q]?) (hs : w.heap.size ≤ w'.heap.size) : ZIn T SS w' g sg cm b A1 c1 A2 c2 z := by
  obtain ⟨_, _, _, _, hp⟩ := h.st
  exact ⟨(hk _ h.inT.1).trans h.blk, ⟨_, _, _, _, hp.keep (fun q hq => hk q (h.inT.2.2.2 q hq)) hs⟩, h.mp.keep (hk _ h.inT.2.1), fun k hh => (hk _ (h.inT.2.2.1 k hh)).trans (h.cl k hh), h.inj, h.left.keep (fun q hq _ => hk q hq.1.1), own_keep h.taken (fun q hq => hk q (h.tIn q hq).1), h.tIn, h.inT, h.nS, fun q hq => Nat.lt_of_lt_of_le (h.lt q hq) hs, h.len, h.lc, h.ok⟩
theorem ZIn.below (h : ZIn T SS w g sg cm b A1 c1 A2 c2 z) (hb : Below w.heap.size w w') : ZIn T SS w' g sg cm b A1 c1 A2 c2 z := h.keep (fun q hq => hb.block q (h.lt q hq)) hb.size
theorem ZIn.upd {M : Nat → Prop} (h : ZIn T SS w g sg cm b A1 c1 A2 c2 z) (hu : Upd M w w') (hM : ∀ q, T q → ¬ M q) : ZIn T SS w' g sg cm b A1 c1 A2 c2 z := h.keep (fun q hq => hu.block q (h.lt q hq) (hM q hq)) hu.size
theorem ZAt.below {z : Zg} (h : ZAt T w g z) (hb : Below w.heap.size w w') : ZAt T w' g z := by obtain ⟨_, _, _, _, _, _, _, _, h⟩ := h; exact ⟨_, _, _, _, _, _, _, _, h.below hb⟩
theorem ZAt.upd {M : Nat → Prop} {z : Zg} (h : ZAt T w g z) (hu : Upd M w w') (hM : ∀ q, T q → ¬ M q) : ZAt T w' g z := by obtain ⟨_, _, _, _, _, _, _, _, h⟩ := h; exact ⟨_, _, _, _, _, _, _, _, h.upd hu hM⟩
theorem ZAt.lt {z : Zg} (h : ZAt T w g z) : ∀ q, T q → q < w.heap.size := by obtain ⟨_, _, _, _, _, _, _, _, h⟩ := h; exact h.lt
theorem ZAt.ok {z : Zg} (h : ZAt T w g z) : z.Ok := by obtain ⟨_, _, _, _, _, _, _, _, h⟩ := h; exact h.ok
theorem ZAt.go {z : Zg} (h : ZAt T w g z) (hb : Below w.heap.size w w') : ZGo T w g z w' := ⟨T, h.below hb, fun _ h => .inl h, fun _ h => h, (Upd.of_below (M := T) hb fun k hk h => by omega)⟩
theorem ZIn.cells (h : ZIn T SS w g sg cm b A1 c1 A2 c2 z) : w.cell? ⟨g, 0, none⟩ = some (.int .i64 z.s.parts) ∧ w.cell? ⟨g, 1, none⟩ = some (.int .i64 z.s.room) ∧ w.cell? ⟨g, 2, none⟩ = some (.pointer (some ⟨sg, 0, none⟩)) ∧ w.cell? ⟨g, 3, none⟩ = some (.map (some cm)) ∧ w.cell? ⟨g, 4, none⟩ = some (.bool z.under) ∧ w.cell? ⟨g, 5, none⟩ = some (.int .i64 z.mark) ∧ w.cell? ⟨g, 6, none⟩ = some (.slice A1 z.left.length c1) ∧ w.cell? ⟨g, 7, none⟩ = some (.slice A2 z.taken.length c2) :=
  ⟨h.blk.cell 0, h.blk.cell 1, h.blk.cell 2, h.blk.cell 3, h.blk.cell 4, h.blk.cell 5, h.blk.cell 6, h.blk.cell 7⟩
theorem zero_ptr (w : World) : (zeroValue 72).run Tryd.prog w = .ok (.pointer none) w := by kernel_rfl
/-- a key's cell, or none -/
theorem ZIn.look (h : ZIn T SS w g sg cm b A1 c1 A2 c2 z) (k : ByteArray) : (Instr.lookup 68 (.map (some cm)) (.string k) false).run Tryd.prog w = .ok (if hasK k z.s.L = true then .pointer (some ⟨b k, 0, none⟩) else .pointer none) w := by
  have hl := h.mp.lookup Tryd.underlying68 (z := .pointer none) zero_ptr k
  refine Eq.trans hl ?_
  unfold Dz
  split <;> rfl
theorem ZIn.look_t (h : ZIn T SS w g sg cm b A1 c1 A2 c2 z) {k : ByteArray} (hk : hasK k z.s.L = true) : (Instr.lookup 68 (.map (some cm)) (.string k) false).run Tryd.prog w = .ok (.pointer (some ⟨b k, 0, none⟩)) w := by
  rw [h.look k, if_pos hk]
theorem ZIn.look_f (h : ZIn T SS w g sg cm b A1 c1 A2 c2 z) {k : ByteArray} (hk : hasK k z.s.L = false) : (Instr.lookup 68 (.map (some cm)) (.string k) false).run Tryd.prog w = .ok (.pointer none) w := by
  rw [h.look k, if_neg (by simp [hk])]
theorem ZIn.ccells (h : ZIn T SS w g sg cm b A1 c1 A2 c2 z) {k : ByteArray} (hk : hasK k z.s.L = true) :
    (w.cell? ⟨b k, 0, none⟩ = some (.int .i64 (z.f k).c0.k) ∧ w.cell? ⟨b k, 1, none⟩ = some (.int .i64 (z.f k).c0.n) ∧ w.cell? ⟨b k, 2, none⟩ = some (.string (z.f k).c0.s)) ∧ (w.cell? ⟨b k, 3, none⟩ = some (.int .i64 (z.f k).c1.k) ∧ w.cell? ⟨b k, 4, none⟩ = some (.int .i64 (z.f k).c1.n) ∧ w.cell? ⟨b k, 5, none⟩ = some (.string (z.f k).c1.s)) ∧ w.cell? ⟨b k, 6, none⟩ = some (.int .i64 (bI (z.f k).r)) ∧ w.cell? ⟨b k, 7, none⟩ = some (.int .i64 (bI (z.f k).w)) := by
  have hb := h.cl k hk
  exact ⟨⟨hb.cell 0, hb.cell 1, hb.cell 2⟩, ⟨hb.cell 3, hb.cell 4, hb.cell 5⟩, hb.cell 6, hb.cell 7⟩
/-- the copy of a bit -/
theorem ZIn.copy (h : ZIn T SS w g sg cm b A1 c1 A2 c2 z) {k : ByteArray} (hk : hasK k z.s.L = true) (x : Bool) :
    w.cell? ⟨b k, if x then 3 else 0, none⟩ = some (.int .i64 ((z.f k).at_ x).k) ∧ w.cell? ⟨b k, (if x then 3 else 0) + 1, none⟩ = some (.int .i64 ((z.f k).at_ x).n) ∧ w.cell? ⟨b k, (if x then 3 else 0) + 2, none⟩ = some (.string ((z.f k).at_ x).s) := by
  obtain ⟨h0, h1, _⟩ := h.ccells hk
  cases x
  · exact h0
  · exact h1
end
end Go.Proofs.YtefigpmkiemfhaaDoor

namespace Go.Proofs.YtefigpmkiemfhaaDoor
open Go.RowKit
set_option linter.unusedVariables false
set_option linter.unusedSimpArgs false

section
variable {T SS : Nat → Prop} {w w' : World} {g sg cm : Nat} {b : ByteArray → Nat} {A1 A2 : Option Addr} {c1 c2 : Nat} {z : Zg}
theorem znew_bad (p r : Int) (w : World) (h : goodPR p r = false) : Calls Tryd.prog 9 #[.int .i64 p, .int .i64 r] w fun e w' => e = .returned (.tuple #[.pointer none, .int .i64 2]) ∧ w' = w := by
  have hn := hid (new_bad p r w h)
  clear h
  go_enter Tryd.func9, Tryd.ntmps9
  go_wp2_with fail
  refine hn.out.mono ?_
  rintro e wq ⟨rfl, hwq⟩
  obtain rfl := hwq.symm
  go_wp2_with fail
  go_ret2
  exact ⟨rfl, rfl⟩
set_option maxRecDepth 100000 in
theorem znew_ok (p r : Nat) (w : World) (hp : 1 ≤ p ∧ p ≤ 64) (hr : 1 ≤ r ∧ r ≤ 4096) : Calls Tryd.prog 9 #[.int .i64 p, .int .i64 r] w fun e w' => ∃ T g, e = .returned (.tuple #[.pointer (some ⟨g, 0, none⟩), .int .i64 0]) ∧ ZAt T w' g (zg0 p r) ∧ (∀ q, T q → w.heap.size ≤ q) ∧ Below w.heap.size w w' := by
  have hn := hid (new_ok p r w hp hr)
  have hpp := hid hp
  have hrr := hid hr
  have hmm := @run_makeMap Tryd.prog
  clear hp hr
  go_enter Tryd.func9, Tryd.ntmps9
  go_wp2_with fail
  refine hn.out.mono ?_
  rintro e w1 ⟨SS, sg, rfl, hP, hS, hb⟩
  have hP := hid hP
  have hS := hid hS
  have hb1 := hid hb
  clear hb hn
  go_wp2_with fail
  go_ret2
  have hs := hb1.out.size
  have hbx : Below w1.heap.size w1 ((w1.alloc (.map #[] 0)).alloc (.cells #[.int .i64 p, .int .i64 r, .pointer (some ⟨sg, 0, none⟩), .map (some w1.heap.size), .bool false, .int .i64 0, .slice none 0 0, .slice none 0 0] 71)) := ((Below.refl _ _).alloc (Nat.le_refl _) _).alloc (by simp) _
  refine ⟨fun q => SS q ∨ q = w1.heap.size ∨ q = w1.heap.size + 1, w1.heap.size + 1, by simp, ⟨SS, sg, w1.heap.size, fun _ => 0, none, 0, none, 0, ⟨Blk.new' _ _ _ (by simp), hP.out.below hbx, ((MapF.new w1).keep (Below.heap_alloc _ _ _ (by simp))).congr fun k => rfl, fun k hk => (by cases hk), fun k j hk => (by cases hk), Rd.nil_, World.ownsRow_nil _ _ _ _, fun q hq => (by cases hq), ⟨.inr (.inr rfl), .inr (.inl rfl), fun k hk => (by cases hk), fun q hq => .inl hq⟩, ⟨fun h => ?_, fun h => ?_, fun k hk => (by cases hk)⟩, ?_, ⟨by simp [zg0], by simp [zg0]⟩, ⟨by simp [zg0], by simp⟩, zg0_ok hpp.out hrr.out (st_ok hpp.out hrr.out)⟩⟩, ?_, ?_⟩
  · have := hP.out.lt _ h; omega
  · have := hP.out.lt _ h; omega
  · rintro q (h | h | h)
    · have := hP.out.lt _ h; simp; omega
    · simp; omega
    · simp; omega
  · rintro q (h | h | h)
    · exact hS.out q h
    · omega
    · omega
  · exact hb1.out.trans (hbx.mono hs)
set_option maxRecDepth 100000 in
theorem zrest_any (h : ZAt T w g z) : Calls Tryd.prog 29 #[.pointer (some ⟨g, 0, none⟩)] w fun e w' => e = .returned (.int .i64 (if z.under = true then z.left.length else 0 : Nat)) ∧ w' = w := by
  obtain ⟨_, _, _, _, _, _, _, _, h⟩ := h
  obtain ⟨_, _, _, _, x4, _, x6, _⟩ := h.cells
  clear h
  cases hu : z.under with
  | true =>
    rw [hu] at x4
    clear hu
    go_enter Tryd.func29, Tryd.ntmps29
    go_wp2_with fail
    go_ret
    exact ⟨rfl, rfl⟩
  | false =>
    rw [hu] at x4
    clear hu
    go_enter Tryd.func29, Tryd.ntmps29
    go_wp2_with fail
    go_ret
    exact ⟨rfl, rfl⟩
set_option maxRecDepth 100000 in
theorem zget_none (k : ByteArray) (h : ZIn T SS w g sg cm b A1 c1 A2 c2 z) (hk : hasK k z.s.L = false) : Calls Tryd.prog 18 #[.pointer (some ⟨g, 0, none⟩), .string k] w fun e w' => e = .returned (.agg #[.int .i64 0, .int .i64 0, .string ⟨#[]⟩]) ∧ Below w.heap.size w w' := by
  have hB0 : Below w.heap.size w (w.alloc (.cells #[.int .i64 0, .int .i64 0, .string ⟨#[]⟩] 47)) := (Below.refl _ _).alloc (Nat.le_refl _) _
  have kb := hid (Blk.new w 47 #[.int .i64 0, .int .i64 0, .string ⟨#[]⟩])
  have H := hid (h.below hB0)
  have hB := hid hB0
  have hl := H.out.look_f hk
  clear h hB0 hk
  go_enter Tryd.func18, Tryd.ntmps18
  go_upto_region 1 with fail
  generalize w.alloc (.cells #[.int .i64 0, .int .i64 0, .string ⟨#[]⟩] 47) = w1 at *
  obtain ⟨_, _, _, x3, _⟩ := H.out.cells
  have fz := fun q => kb.out.frozen q
  have z0 : w1.cell? ⟨w.heap.size, 0, none⟩ = some (.int .i64 0) := kb.out.cell 0
  have z1 : w1.cell? ⟨w.heap.size, 1, none⟩ = some (.int .i64 0) := kb.out.cell 1
  have z2 : w1.cell? ⟨w.heap.size, 2, none⟩ = some (.string ⟨#[]⟩) := kb.out.cell 2
  have hlt := kb.out.lt
  go_wp2_with fail
  refine bodyPost_ret (v := .agg #[.int .i64 0, .int .i64 0, .string ⟨#[]⟩]) ?_ rfl ⟨rfl, ?_⟩
  · exact results_cell_row (P := Tryd.prog) rfl _ _ w.heap.size 47 _ (0, 0) _ rfl (show Blk _ _ _ #[.int .i64 0, .int .i64 0, .string ⟨#[]⟩] from by simpa using ((kb.out.set_ 0 (.int .i64 0)).set_ 1 (.int .i64 0)).set_ 2 (.string ⟨#[]⟩)) Tryd.underlying47 rfl (by kernel_rfl)
  · exact ((hB.out.setCell (p := ⟨w.heap.size, 0, none⟩) (Nat.le_refl _) _).setCell (p := ⟨w.heap.size, 1, none⟩) (Nat.le_refl _) _).setCell (p := ⟨w.heap.size, 2, none⟩) (Nat.le_refl _) _
set_option maxRecDepth 100000 in
theorem zget_c0 (k : ByteArray) (h : ZIn T SS w g sg cm b A1 c1 A2 c2 z) (hk : hasK k z.s.L = true) (hr : (z.f k).r = false) : Calls Tryd.prog 18 #[.pointer (some ⟨g, 0, none⟩), .string k] w fun e w' => e = .returned (.agg #[.int .i64 (z.f k).c0.k, .int .i64 (z.f k).c0.n, .string (z.f k).c0.s]) ∧ Below w.heap.size w w' := by
  have hB0 : Below w.heap.size w (w.alloc (.cells #[.int .i64 0, .int .i64 0, .string ⟨#[]⟩] 47)) := (Below.refl _ _).alloc (Nat.le_refl _) _
  have kb := hid (Blk.new w 47 #[.int .i64 0, .int .i64 0, .string ⟨#[]⟩])
  have H := hid (h.below hB0)
  have hB := hid hB0
  have hl := H.out.look_t hk
  obtain ⟨⟨y0, y1, y2⟩, ⟨y3, y4, y5⟩, y6, _⟩ := H.out.ccells hk
  rw [hr] at y6
  have y6' : (w.alloc (.cells #[.int .i64 0, .int .i64 0, .string ⟨#[]⟩] 47)).cell? ⟨b k, 6, none⟩ = some (.int .i64 0) := y6
  have hne : ¬ (w.heap.size = b k) := Blk.ne_ kb.out (H.out.cl k hk) (by decide)
  have hne2 : ¬ (b k = w.heap.size) := fun e => hne e.symm
  clear h hB0 hk hr y6
  go_enter Tryd.func18, Tryd.ntmps18
  go_upto_region 1 with fail
  generalize w.alloc (.cells #[.int .i64 0, .int .i64 0, .string ⟨#[]⟩] 47) = w1 at *
  obtain ⟨_, _, _, x3, _⟩ := H.out.cells
  have fz := fun q => kb.out.frozen q
  have z0 : w1.cell? ⟨w.heap.size, 0, none⟩ = some (.int .i64 0) := kb.out.cell 0
  have z1 : w1.cell? ⟨w.heap.size, 1, none⟩ = some (.int .i64 0) := kb.out.cell 1
  have z2 : w1.cell? ⟨w.heap.size, 2, none⟩ = some (.string ⟨#[]⟩) := kb.out.cell 2
  have hlt := kb.out.lt
  go_upto_region 4 with fail
  go_region
  all_goals
    go_wp2_with fail
    refine bodyPost_ret (v := .agg #[.int .i64 (z.f k).c0.k, .int .i64 (z.f k).c0.n, .string (z.f k).c0.s]) ?_ rfl ⟨rfl, ?_⟩
    · exact results_cell_row (P := Tryd.prog) rfl _ _ w.heap.size 47 _ (0, 0) _ rfl (Blk.drew (show Blk _ _ _ #[.int .i64 (z.f k).c0.k, .int .i64 (z.f k).c0.n, .string (z.f k).c0.s] from by simpa using ((kb.out.set_ 0 (.int .i64 (z.f k).c0.k)).set_ 1 (.int .i64 (z.f k).c0.n)).set_ 2 (.string (z.f k).c0.s))) Tryd.underlying47 rfl (by kernel_rfl)
    · exact (((hB.out.setCell (p := ⟨w.heap.size, 0, none⟩) (Nat.le_refl _) _).setCell (p := ⟨w.heap.size, 1, none⟩) (Nat.le_refl _) _).setCell (p := ⟨w.heap.size, 2, none⟩) (Nat.le_refl _) _).drew
set_option maxRecDepth 100000 in
theorem zget_c1 (k : ByteArray) (h : ZIn T SS w g sg cm b A1 c1 A2 c2 z) (hk : hasK k z.s.L = true) (hr : (z.f k).r = true) : Calls Tryd.prog 18 #[.pointer (some ⟨g, 0, none⟩), .string k] w fun e w' => e = .returned (.agg #[.int .i64 (z.f k).c1.k, .int .i64 (z.f k).c1.n, .string (z.f k).c1.s]) ∧ Below w.heap.size w w' := by
  have hB0 : Below w.heap.size w (w.alloc (.cells #[.int .i64 0, .int .i64 0, .string ⟨#[]⟩] 47)) := (Below.refl _ _).alloc (Nat.le_refl _) _
  have kb := hid (Blk.new w 47 #[.int .i64 0, .int .i64 0, .string ⟨#[]⟩])
  have H := hid (h.below hB0)
  have hB := hid hB0
  have hl := H.out.look_t hk
  obtain ⟨⟨y0, y1, y2⟩, ⟨y3, y4, y5⟩, y6, _⟩ := H.out.ccells hk
  rw [hr] at y6
  have y6' : (w.alloc (.cells #[.int .i64 0, .int .i64 0, .string ⟨#[]⟩] 47)).cell? ⟨b k, 6, none⟩ = some (.int .i64 1) := y6
  have hne : ¬ (w.heap.size = b k) := Blk.ne_ kb.out (H.out.cl k hk) (by decide)
  have hne2 : ¬ (b k = w.heap.size) := fun e => hne e.symm
  clear h hB0 hk hr y6
  go_enter Tryd.func18, Tryd.ntmps18
  go_upto_region 1 with fail
  generalize w.alloc (.cells #[.int .i64 0, .int .i64 0, .string ⟨#[]⟩] 47) = w1 at *
  obtain ⟨_, _, _, x3, _⟩ := H.out.cells
  have fz := fun q => kb.out.frozen q
  have z0 : w1.cell? ⟨w.heap.size, 0, none⟩ = some (.int .i64 0) := kb.out.cell 0
  have z1 : w1.cell? ⟨w.heap.size, 1, none⟩ = some (.int .i64 0) := kb.out.cell 1
  have z2 : w1.cell? ⟨w.heap.size, 2, none⟩ = some (.string ⟨#[]⟩) := kb.out.cell 2
  have hlt := kb.out.lt
  go_upto_region 4 with fail
  go_region
  all_goals
    go_wp2_with fail
    refine bodyPost_ret (v := .agg #[.int .i64 (z.f k).c1.k, .int .i64 (z.f k).c1.n, .string (z.f k).c1.s]) ?_ rfl ⟨rfl, ?_⟩
    · exact results_cell_row (P := Tryd.prog) rfl _ _ w.heap.size 47 _ (0, 0) _ rfl (Blk.drew (show Blk _ _ _ #[.int .i64 (z.f k).c1.k, .int .i64 (z.f k).c1.n, .string (z.f k).c1.s] from by simpa using ((kb.out.set_ 0 (.int .i64 (z.f k).c1.k)).set_ 1 (.int .i64 (z.f k).c1.n)).set_ 2 (.string (z.f k).c1.s))) Tryd.underlying47 rfl (by kernel_rfl)
    · exact (((hB.out.setCell (p := ⟨w.heap.size, 0, none⟩) (Nat.le_refl _) _).setCell (p := ⟨w.heap.size, 1, none⟩) (Nat.le_refl _) _).setCell (p := ⟨w.heap.size, 2, none⟩) (Nat.le_refl _) _).drew
theorem zget_any (k : ByteArray) (h : ZAt T w g z) : Calls Tryd.prog 18 #[.pointer (some ⟨g, 0, none⟩), .string k] w fun e w' => e = .returned (.agg #[.int .i64 (z.get k).k, .int .i64 (z.get k).n, .string (z.get k).s]) ∧ Below w.heap.size w w' := by
  obtain ⟨SS, sg, cm, b, A1, c1, A2, c2, h⟩ := h
  cases hk : hasK k z.s.L with
  | false =>
    have hg : z.get k = vl0 := by unfold Zg.get; rw [if_neg (by simp [hk])]
    rw [hg]; exact zget_none k h hk
  | true =>
    cases hr : (z.f k).r with
    | false =>
      have hg : z.get k = (z.f k).c0 := by unfold Zg.get Ce.get Ce.at_; rw [if_pos hk, hr]; rfl
      rw [hg]; exact zget_c0 k h hk hr
    | true =>
      have hg : z.get k = (z.f k).c1 := by unfold Zg.get Ce.get Ce.at_; rw [if_pos hk, hr]; rfl
      rw [hg]; exact zget_c1 k h hk hr
theorem zbits_any (k : ByteArray) (h : ZAt T w g z) : Calls Tryd.prog 25 #[.pointer (some ⟨g, 0, none⟩), .string k] w fun e w' => e = .returned (.tuple (if hasK k z.s.L = true then #[.int .i64 (bI (z.f k).r), .int .i64 (bI (z.f k).w)] else #[.int .i64 0, .int .i64 0])) ∧ Below w.heap.size w w' := by
  obtain ⟨SS, sg, cm, b, A1, c1, A2, c2, h⟩ := h
  obtain ⟨_, _, _, x3, _⟩ := h.cells
  cases hk : hasK k z.s.L with
  | false =>
    have hl := h.look_f hk
    rw [if_neg (by simp)]
    clear h hk
    go_enter Tryd.func25, Tryd.ntmps25
    go_wp2_with fail
    go_ret2
    exact ⟨rfl, Below.refl _ _⟩
  | true =>
    have hl := h.look_t hk
    obtain ⟨_, _, y6, y7⟩ := h.ccells hk
    have hd := fun n => hid (((h.keep (w' := w.drewN n) (fun _ _ => rfl) (Nat.le_refl _))).look_t hk)
    rw [if_pos rfl]
    clear h hk
    generalize bI (z.f k).r = r at *
    generalize bI (z.f k).w = v at *
    go_enter Tryd.func25, Tryd.ntmps25
    go_upto_region 3 with fail
    have hd2 := fun n => (hd n).out
    go_quiet (fail)
    go_wp2_with fail
    go_ret2
    exact ⟨rfl, below_drewN (Below.refl _ _) _⟩
/-- two results in cells of their own -/
theorem two_cells {W : World} {n m : Nat} {a b : Vl} {tmps : Array Value} (ha : Blk W n 47 #[.int .i64 a.k, .int .i64 a.n, .string a.s]) (hb : Blk W m 47 #[.int .i64 b.k, .int .i64 b.n, .string b.s]) (h4 : tmps.getD 4 undef = .pointer (some ⟨n, 0, none⟩)) (h5 : tmps.getD 5 undef = .pointer (some ⟨m, 0, none⟩)) :
    (results Tryd.f36 tmps).run Tryd.prog W = .ok (.tuple #[.agg #[.int .i64 a.k, .int .i64 a.n, .string a.s], .agg #[.int .i64 b.k, .int .i64 b.n, .string b.s]]) W := by
  have x0 := ha.cell 0
  have x1 := ha.cell 1
  have x2 := ha.cell 2
  have y0 := hb.cell 0
  have y1 := hb.cell 1
  have y2 := hb.cell 2
  simp only [List.getElem?_toArray, List.getElem?_cons_zero, List.getElem?_cons_succ] at x0 x1 x2 y0 y1 y2
  have g4 : tmps[4]?.getD undef = .pointer (some ⟨n, 0, none⟩) := by simpa using h4
  have g5 : tmps[5]?.getD undef = .pointer (some ⟨m, 0, none⟩) := by simpa using h5
  simp [Go.results, Tryd.results36, asAddr, g4, g5, go_sem, x0, x1, x2, y0, y1, y2]
set_option maxRecDepth 100000 in
theorem zcopies_none (k : ByteArray) (h : ZIn T SS w g sg cm b A1 c1 A2 c2 z) (hk : hasK k z.s.L = false) : Calls Tryd.prog 36 #[.pointer (some ⟨g, 0, none⟩), .string k] w fun e w' => e = .returned (.tuple #[.agg #[.int .i64 0, .int .i64 0, .string ⟨#[]⟩], .agg #[.int .i64 0, .int .i64 0, .string ⟨#[]⟩]]) ∧ Below w.heap.size w w' := by
  have hB0 : Below w.heap.size w ((w.alloc (.cells #[.int .i64 0, .int .i64 0, .string ⟨#[]⟩] 47)).alloc (.cells #[.int .i64 0, .int .i64 0, .string ⟨#[]⟩] 47)) := below_two _ _
  have kA : Hid (Blk ((w.alloc (.cells #[.int .i64 0, .int .i64 0, .string ⟨#[]⟩] 47)).alloc (.cells #[.int .i64 0, .int .i64 0, .string ⟨#[]⟩] 47)) w.heap.size 47 #[.int .i64 0, .int .i64 0, .string ⟨#[]⟩]) := hid ((Blk.new w _ _).alloc _)
  have kB : Hid (Blk ((w.alloc (.cells #[.int .i64 0, .int .i64 0, .string ⟨#[]⟩] 47)).alloc (.cells #[.int .i64 0, .int .i64 0, .string ⟨#[]⟩] 47)) (w.heap.size + 1) 47 #[.int .i64 0, .int .i64 0, .string ⟨#[]⟩]) := hid (Blk.new' _ _ _ (by simp))
  have H := hid (h.below hB0)
  have hB := hid hB0
  have hl := H.out.look_f hk
  clear h hB0 hk
  go_enter Tryd.func36, Tryd.ntmps36
  go_upto_region 1 with fail
  generalize ((w.alloc (.cells #[.int .i64 0, .int .i64 0, .string ⟨#[]⟩] 47)).alloc (.cells #[.int .i64 0, .int .i64 0, .string ⟨#[]⟩] 47)) = w1 at *
  obtain ⟨_, _, _, x3, _⟩ := H.out.cells
  have fz := fun q => kA.out.frozen q
  have fy := fun q => kB.out.frozen q
  have z0 : w1.cell? ⟨w.heap.size, 0, none⟩ = some (.int .i64 0) := kA.out.cell 0
  have z1 : w1.cell? ⟨w.heap.size, 1, none⟩ = some (.int .i64 0) := kA.out.cell 1
  have z2 : w1.cell? ⟨w.heap.size, 2, none⟩ = some (.string ⟨#[]⟩) := kA.out.cell 2
  have u0 : w1.cell? ⟨w.heap.size + 1, 0, none⟩ = some (.int .i64 0) := kB.out.cell 0
  have u1 : w1.cell? ⟨w.heap.size + 1, 1, none⟩ = some (.int .i64 0) := kB.out.cell 1
  have u2 : w1.cell? ⟨w.heap.size + 1, 2, none⟩ = some (.string ⟨#[]⟩) := kB.out.cell 2
  have hlt := kA.out.lt
  have hlu := kB.out.lt
  go_wp2_with fail
  have KA : Blk _ _ _ _ := show Blk _ _ _ #[.int .i64 0, .int .i64 0, .string ⟨#[]⟩] from by simpa using ((((((kA.out.set_ 0 (.int .i64 0)).set_ 1 (.int .i64 0)).set_ 2 (.string ⟨#[]⟩)).far (p := ⟨w.heap.size + 1, 0, none⟩) (by show w.heap.size ≠ w.heap.size + 1; omega) (.int .i64 0)).far (p := ⟨w.heap.size + 1, 1, none⟩) (by show w.heap.size ≠ w.heap.size + 1; omega) (.int .i64 0)).far (p := ⟨w.heap.size + 1, 2, none⟩) (by show w.heap.size ≠ w.heap.size + 1; omega) (.string ⟨#[]⟩))
  have KB : Blk _ _ _ _ := show Blk _ _ _ #[.int .i64 0, .int .i64 0, .string ⟨#[]⟩] from by simpa using ((((((kB.out.far (p := ⟨w.heap.size, 0, none⟩) (by show w.heap.size + 1 ≠ w.heap.size; omega) (.int .i64 0)).far (p := ⟨w.heap.size, 1, none⟩) (by show w.heap.size + 1 ≠ w.heap.size; omega) (.int .i64 0)).far (p := ⟨w.heap.size, 2, none⟩) (by show w.heap.size + 1 ≠ w.heap.size; omega) (.string ⟨#[]⟩)).set_ 0 (.int .i64 0)).set_ 1 (.int .i64 0)).set_ 2 (.string ⟨#[]⟩))
  refine bodyPost_ret (v := .tuple #[.agg #[.int .i64 0, .int .i64 0, .string ⟨#[]⟩], .agg #[.int .i64 0, .int .i64 0, .string ⟨#[]⟩]]) ?_ rfl ⟨rfl, ((((((hB.out.setCell (p := ⟨w.heap.size, 0, none⟩) (Nat.le_refl _) _).setCell (p := ⟨w.heap.size, 1, none⟩) (Nat.le_refl _) _).setCell (p := ⟨w.heap.size, 2, none⟩) (Nat.le_refl _) _).setCell (p := ⟨w.heap.size + 1, 0, none⟩) (Nat.le_succ _) _).setCell (p := ⟨w.heap.size + 1, 1, none⟩) (Nat.le_succ _) _).setCell (p := ⟨w.heap.size + 1, 2, none⟩) (Nat.le_succ _) _)⟩
  exact two_cells (a := vl0) (b := vl0) KA KB rfl rfl
set_option maxRecDepth 100000 in
theorem zcopies_some (k : ByteArray) (h : ZIn T SS w g sg cm b A1 c1 A2 c2 z) (hk : hasK k z.s.L = true) : Calls Tryd.prog 36 #[.pointer (some ⟨g, 0, none⟩), .string k] w fun e w' => e = .returned (.tuple #[.agg #[.int .i64 (z.f k).c0.k, .int .i64 (z.f k).c0.n, .string (z.f k).c0.s], .agg #[.int .i64 (z.f k).c1.k, .int .i64 (z.f k).c1.n, .string (z.f k).c1.s]]) ∧ Below w.heap.size w w' := by
  have hB0 : Below w.heap.size w ((w.alloc (.cells #[.int .i64 0, .int .i64 0, .string ⟨#[]⟩] 47)).alloc (.cells #[.int .i64 0, .int .i64 0, .string ⟨#[]⟩] 47)) := below_two _ _
  have kA : Hid (Blk ((w.alloc (.cells #[.int .i64 0, .int .i64 0, .string ⟨#[]⟩] 47)).alloc (.cells #[.int .i64 0, .int .i64 0, .string ⟨#[]⟩] 47)) w.heap.size 47 #[.int .i64 0, .int .i64 0, .string ⟨#[]⟩]) := hid ((Blk.new w _ _).alloc _)
  have kB : Hid (Blk ((w.alloc (.cells #[.int .i64 0, .int .i64 0, .string ⟨#[]⟩] 47)).alloc (.cells #[.int .i64 0, .int .i64 0, .string ⟨#[]⟩] 47)) (w.heap.size + 1) 47 #[.int .i64 0, .int .i64 0, .string ⟨#[]⟩]) := hid (Blk.new' _ _ _ (by simp))
  have H := hid (h.below hB0)
  have hB := hid hB0
  have hl := H.out.look_t hk
  obtain ⟨⟨y0, y1, y2⟩, ⟨y3, y4, y5⟩, _⟩ := H.out.ccells hk
  have hne : ¬ (w.heap.size = b k) := Blk.ne_ kA.out (H.out.cl k hk) (by decide)
  have hne2 : ¬ (b k = w.heap.size) := fun e => hne e.symm
  have hme : ¬ (w.heap.size + 1 = b k) := Blk.ne_ kB.out (H.out.cl k hk) (by decide)
  have hme2 : ¬ (b k = w.heap.size + 1) := fun e => hme e.symm
  clear h hB0 hk
  go_enter Tryd.func36, Tryd.ntmps36
  go_upto_region 1 with fail
  generalize ((w.alloc (.cells #[.int .i64 0, .int .i64 0, .string ⟨#[]⟩] 47)).alloc (.cells #[.int .i64 0, .int .i64 0, .string ⟨#[]⟩] 47)) = w1 at *
  obtain ⟨_, _, _, x3, _⟩ := H.out.cells
  have fz := fun q => kA.out.frozen q
  have fy := fun q => kB.out.frozen q
  have z0 : w1.cell? ⟨w.heap.size, 0, none⟩ = some (.int .i64 0) := kA.out.cell 0
  have z1 : w1.cell? ⟨w.heap.size, 1, none⟩ = some (.int .i64 0) := kA.out.cell 1
  have z2 : w1.cell? ⟨w.heap.size, 2, none⟩ = some (.string ⟨#[]⟩) := kA.out.cell 2
  have u0 : w1.cell? ⟨w.heap.size + 1, 0, none⟩ = some (.int .i64 0) := kB.out.cell 0
  have u1 : w1.cell? ⟨w.heap.size + 1, 1, none⟩ = some (.int .i64 0) := kB.out.cell 1
  have u2 : w1.cell? ⟨w.heap.size + 1, 2, none⟩ = some (.string ⟨#[]⟩) := kB.out.cell 2
  have hlt := kA.out.lt
  have hlu := kB.out.lt
  go_upto_region 4 with fail
  go_region
  all_goals
    go_wp2_with fail
    have KA : Blk _ _ _ _ := Blk.drew (show Blk _ _ _ #[.int .i64 (z.f k).c0.k, .int .i64 (z.f k).c0.n, .string (z.f k).c0.s] from by simpa using ((((((kA.out.set_ 0 (.int .i64 (z.f k).c0.k)).set_ 1 (.int .i64 (z.f k).c0.n)).set_ 2 (.string (z.f k).c0.s)).far (p := ⟨w.heap.size + 1, 0, none⟩) (by show w.heap.size ≠ w.heap.size + 1; omega) (.int .i64 (z.f k).c1.k)).far (p := ⟨w.heap.size + 1, 1, none⟩) (by show w.heap.size ≠ w.heap.size + 1; omega) (.int .i64 (z.f k).c1.n)).far (p := ⟨w.heap.size + 1, 2, none⟩) (by show w.heap.size ≠ w.heap.size + 1; omega) (.string (z.f k).c1.s)))
    have KB : Blk _ _ _ _ := Blk.drew (show Blk _ _ _ #[.int .i64 (z.f k).c1.k, .int .i64 (z.f k).c1.n, .string (z.f k).c1.s] from by simpa using ((((((kB.out.far (p := ⟨w.heap.size, 0, none⟩) (by show w.heap.size + 1 ≠ w.heap.size; omega) (.int .i64 (z.f k).c0.k)).far (p := ⟨w.heap.size, 1, none⟩) (by show w.heap.size + 1 ≠ w.heap.size; omega) (.int .i64 (z.f k).c0.n)).far (p := ⟨w.heap.size, 2, none⟩) (by show w.heap.size + 1 ≠ w.heap.size; omega) (.string (z.f k).c0.s)).set_ 0 (.int .i64 (z.f k).c1.k)).set_ 1 (.int .i64 (z.f k).c1.n)).set_ 2 (.string (z.f k).c1.s)))
    refine bodyPost_ret (v := .tuple #[.agg #[.int .i64 (z.f k).c0.k, .int .i64 (z.f k).c0.n, .string (z.f k).c0.s], .agg #[.int .i64 (z.f k).c1.k, .int .i64 (z.f k).c1.n, .string (z.f k).c1.s]]) ?_ rfl ⟨rfl, ((((((hB.out.setCell (p := ⟨w.heap.size, 0, none⟩) (Nat.le_refl _) _).setCell (p := ⟨w.heap.size, 1, none⟩) (Nat.le_refl _) _).setCell (p := ⟨w.heap.size, 2, none⟩) (Nat.le_refl _) _).setCell (p := ⟨w.heap.size + 1, 0, none⟩) (Nat.le_succ _) _).setCell (p := ⟨w.heap.size + 1, 1, none⟩) (Nat.le_succ _) _).setCell (p := ⟨w.heap.size + 1, 2, none⟩) (Nat.le_succ _) _).drew⟩
    exact two_cells KA KB rfl rfl
theorem zcopies_any (k : ByteArray) (h : ZAt T w g z) : Calls Tryd.prog 36 #[.pointer (some ⟨g, 0, none⟩), .string k] w fun e w' => e = .returned (.tuple (if hasK k z.s.L = true then #[.agg #[.int .i64 (z.f k).c0.k, .int .i64 (z.f k).c0.n, .string (z.f k).c0.s], .agg #[.int .i64 (z.f k).c1.k, .int .i64 (z.f k).c1.n, .string (z.f k).c1.s]] else #[.agg #[.int .i64 0, .int .i64 0, .string ⟨#[]⟩], .agg #[.int .i64 0, .int .i64 0, .string ⟨#[]⟩]])) ∧ Below w.heap.size w w' := by
  obtain ⟨SS, sg, cm, b, A1, c1, A2, c2, h⟩ := h
  cases hk : hasK k z.s.L with
  | false => exact zcopies_none k h hk
  | true => exact zcopies_some k h hk
end
end Go.Proofs.YtefigpmkiemfhaaDoor

namespace Go.Proofs.YtefigpmkiemfhaaDoor
open Go.RowKit
set_option linter.unusedVariables false
set_option linter.unusedSimpArgs false

def anyB (k : ByteArray) (ds : List ByteArray) : Bool := ds.any fun j => decide (j = k)
theorem anyB_snoc (k x : ByteArray) (ds : List ByteArray) : anyB k (ds ++ [x]) = (anyB k ds || decide (x = k)) := by unfold anyB; simp
/-- under way: the keys ds have their cells -/
structure CR (w1 wr : World) (L : List Kv) (cm : Nat) (b b' : ByteArray → Nat) (f : ByteArray → Ce) (fr : Ce) (ds : List ByteArray) : Prop where
  mp : MapF strE wr cm (fun k => if (hasK k L || anyB k ds) = true then some (.pointer (some ⟨b' k, 0, none⟩)) else none)
  cl : ∀ k, (hasK k L || anyB k ds) = true → Blk wr (b' k) 75 (ceCells (if hasK k L = true then f k else fr))
  old : ∀ k, hasK k L = true → b' k = b k
  new : ∀ k, hasK k L = false → anyB k ds = true → w1.heap.size ≤ b' k ∧ b' k < wr.heap.size
  inj : ∀ k j, (hasK k L || anyB k ds) = true → (hasK j L || anyB j ds) = true → b' k = b' j → k = j
  upd : Upd (fun q => q = cm) w1 wr
section
variable {w1 wr : World} {L : List Kv} {cm : Nat} {b b' : ByteArray → Nat} {f : ByteArray → Ce} {fr : Ce} {ds : List ByteArray}
theorem CR.look (h : CR w1 wr L cm b b' f fr ds) (k : ByteArray) : (Instr.lookup 68 (.map (some cm)) (.string k) false).run Tryd.prog wr = .ok (if (hasK k L || anyB k ds) = true then .pointer (some ⟨b' k, 0, none⟩) else .pointer none) wr := by
  have hl := h.mp.lookup Tryd.underlying68 (z := .pointer none) zero_ptr k
  refine Eq.trans hl ?_
  split <;> rfl
theorem CR.skip (h : CR w1 wr L cm b b' f fr ds) {x : ByteArray} (hx : (hasK x L || anyB x ds) = true) : CR w1 wr L cm b b' f fr (ds ++ [x]) := by
  have e : ∀ k, (hasK k L || anyB k (ds ++ [x])) = (hasK k L || anyB k ds) := fun k => by
    rw [anyB_snoc]
    by_cases h1 : x = k
    · subst h1; rw [← Bool.or_assoc, hx]; rfl
    · simp [h1]
  refine ⟨h.mp.congr fun k => by rw [e], fun k hk => h.cl k (by rw [← e]; exact hk), h.old, fun k h1 h2 => h.new k h1 ?_, fun k j hk hj => h.inj k j (by rw [← e]; exact hk) (by rw [← e]; exact hj), h.upd⟩
  have := e k
  rw [h1, Bool.false_or, Bool.false_or] at this
  rw [← this]; exact h2
/-- a new cell is laid, the map has it -/
theorem CR.add (h : CR w1 wr L cm b b' f fr ds) {x : ByteArray} (hx : (hasK x L || anyB x ds) = false) {wu wf : World} (hm : MapF strE wu cm (fun y => if y = x then some (.pointer (some ⟨wr.heap.size, 0, none⟩)) else if (hasK y L || anyB y ds) = true then some (.pointer (some ⟨b' y, 0, none⟩)) else none))
    (hu : Upd (fun q => q = cm) wr wu) (hf : Upd (fun q => q = wr.heap.size) wu wf) (hc : cm < wr.heap.size) (hs : wr.heap.size < wf.heap.size) (hn : Blk wf wr.heap.size 75 (ceCells fr)) :
    CR w1 wf L cm b (fun k => if k = x then wr.heap.size else b' k) f fr (ds ++ [x]) := by
  have hx' := Bool.or_eq_false_iff.1 hx
  have e : ∀ k, k ≠ x → (hasK k L || anyB k (ds ++ [x])) = (hasK k L || anyB k ds) := fun k hk => by
    rw [anyB_snoc]
    have h9 : ¬ x = k := fun h => hk h.symm
    rw [decide_eq_false h9, Bool.or_false]
  have ex : (hasK x L || anyB x (ds ++ [x])) = true := by rw [anyB_snoc]; simp
  have hlt : ∀ k, (hasK k L || anyB k ds) = true → b' k < wr.heap.size := fun k hk => (h.cl k hk).lt
  have hne : ∀ k, (hasK k L || anyB k ds) = true → b' k ≠ cm := fun k hk => (h.mp.ne_blk (h.cl k hk)).symm
  have hkeep : ∀ q, q < wr.heap.size → q ≠ cm → wf.heap[q]? = wr.heap[q]? := fun q h1 h2 => (hf.block q (Nat.lt_of_lt_of_le h1 hu.size) (by omega)).trans (hu.block q h1 h2)
  refine ⟨?_, ?_, ?_, ?_, ?_, ?_⟩
  · refine (hm.upd hf (by omega)).congr fun k => ?_
    by_cases hk : k = x
    · subst hk; rw [if_pos rfl, if_pos ex, if_pos rfl]
    · rw [if_neg hk, e k hk, if_neg hk]
  · intro k hk
    by_cases hkx : k = x
    · subst hkx
      rw [if_pos rfl, if_neg (by simp [hx'.1])]
      exact hn
    · rw [if_neg hkx]
      rw [e k hkx] at hk
      exact (hkeep _ (hlt k hk) (hne k hk)).trans (h.cl k hk)
  · intro k hk
    have hkx : k ≠ x := by rintro rfl; rw [hx'.1] at hk; cases hk
    rw [if_neg hkx]; exact h.old k hk
  · intro k h1 h2
    by_cases hkx : k = x
    · rw [if_pos hkx]; have := h.upd.size; exact ⟨this, hs⟩
    · rw [if_neg hkx]
      have h3 := e k hkx
      rw [h1, Bool.false_or, Bool.false_or] at h3
      have := h.new k h1 (by rw [← h3]; exact h2)
      have := hu.size; have := hf.size
      omega
  · intro k j hk hj hb
    by_cases hkx : k = x
    · by_cases hjx : j = x
      · rw [hkx, hjx]
      · rw [if_pos hkx, if_neg hjx] at hb
        rw [e j hjx] at hj
        have := hlt j hj; omega
    · rw [if_neg hkx] at hb
      rw [e k hkx] at hk
      by_cases hjx : j = x
      · rw [if_pos hjx] at hb
        have := hlt k hk; omega
      · rw [if_neg hjx] at hb
        rw [e j hjx] at hj
        exact h.inj k j hk hj hb
  · exact (h.upd.trans hu fun _ _ h => h).trans hf fun q hq e => by have := h.upd.size; omega
end
section
variable {T SS : Nat → Prop} {w w' : World} {g sg cm : Nat} {b : ByteArray → Nat} {A1 A2 : Option Addr} {c1 c2 : Nat} {z : Zg}
/-- the store is refused: the Zig stands -/
theorem ZIn.refused (h : ZIn T SS w g sg cm b A1 c1 A2 c2 z) (hp : PAt SS w' sg z.s) (hu : Upd SS w w') : ZGo T w g z w' := by
  have hg := hu.block g (h.lt _ h.inT.1) h.nS.1
  refine ⟨T, ⟨SS, sg, cm, b, A1, c1, A2, c2, ⟨hg.trans h.blk, hp, h.mp.upd hu h.nS.2.1, fun k hk => (h.cl k hk).upd hu (h.nS.2.2 k hk), h.inj, h.left.upd hu (fun q hq => hq.1.2.1), own_keep h.taken (fun q hq => hu.block q (h.lt q (h.tIn q hq).1) (h.tIn q hq).2.1), h.tIn, h.inT, h.nS, fun q hq => Nat.lt_of_lt_of_le (h.lt q hq) hu.size, h.len, h.lc, h.ok⟩⟩, fun q hq => .inl hq, fun q hq => hq, hu.mono fun q _ hq => h.inT.2.2.2 q hq⟩
/-- the keys have their places: the Zig behind a claim -/
theorem ZIn.claimed {w1 wr : World} {ks : List ByteArray} {b' : ByteArray → Nat} (h : ZIn T SS w g sg cm b A1 c1 A2 c2 z) (he : claimE z.s ks = 0) (hp : PAt SS w1 sg (claimS z.s ks)) (hu : Upd SS w w1) (hc : CR w1 wr z.s.L cm b b' z.f z.fresh ks) : ZGo T w g (z.claim ks) wr := by
  have hz : z.claim ks = { z with s := claimS z.s ks, f := newF z.s.L z.fresh z.f ks } := by unfold Zg.claim; rw [if_pos he]
  have hk' : ∀ k, hasK k (claimS z.s ks).L = (hasK k z.s.L || anyB k ks) := fun k => by rw [claim_hasK he, Bool.or_comm]; rfl
  have hsz := hu.size
  have hS : ∀ q, SS q → q < w1.heap.size := hp.lt
  have hS0 : ∀ q, SS q → q < w.heap.size := h.st.lt
  have hold : ∀ q, T q → ¬ SS q → q ≠ cm → wr.heap[q]? = w.heap[q]? := fun q hq hn hc' => (hc.upd.block q (Nat.lt_of_lt_of_le (h.lt q hq) hsz) hc').trans (hu.block q (h.lt q hq) hn)
  have hgm : g ≠ cm := fun e => h.mp.ne_blk h.blk e.symm
  have hcmS := h.nS.2.1
  have hne : ∀ k, hasK k (claimS z.s ks).L = true → ¬ SS (b' k) := fun k hk hs => by
    rw [hk'] at hk
    cases hh : hasK k z.s.L with
    | true => rw [hc.old k hh] at hs; exact h.nS.2.2 k hh hs
    | false =>
      rw [hh, Bool.false_or] at hk
      have := (hc.new k hh hk).1
      have := hS0 _ hs
      omega
  have hlq : ∀ q, LQ T SS g cm b z.s.L q → LQ (fun q => T q ∨ (w.heap.size ≤ q ∧ q < wr.heap.size)) SS g cm b' (z.claim ks).s.L q := fun q hq => by
    refine ⟨.inl hq.1, hq.2.1, hq.2.2.1, hq.2.2.2.1, fun k hk e => ?_⟩
    rw [hz] at hk
    rw [hk'] at hk
    cases hh : hasK k z.s.L with
    | true => rw [hc.old k hh] at e; exact hq.2.2.2.2 k hh e
    | false =>
      rw [hh, Bool.false_or] at hk
      have := (hc.new k hh hk).1
      have := h.lt q hq.1
      omega
  rw [hz] at hlq
  refine ⟨fun q => T q ∨ (w.heap.size ≤ q ∧ q < wr.heap.size), ⟨SS, sg, cm, b', A1, c1, A2, c2, ?_⟩, fun q hq => hq.imp id And.left, fun q hq => .inl hq, ?_⟩
  · rw [hz]
    refine ⟨?_, ?_, ?_, fun k hk => ?_, fun k j hk hj => hc.inj k j (by rw [← hk']; exact hk) (by rw [← hk']; exact hj), ?_, ?_, fun q hq => hlq q (h.tIn q hq), ⟨.inl h.inT.1, .inl h.inT.2.1, fun k hk => ?_, fun q hq => .inl (h.inT.2.2.2 q hq)⟩, ⟨h.nS.1, h.nS.2.1, hne⟩, ?_, h.len, h.lc, ?_⟩
    · have := (hold g h.inT.1 h.nS.1 hgm).trans h.blk
      have e1 : (claimS z.s ks).parts = z.s.parts := by unfold claimS; split <;> rfl
      have e2 : (claimS z.s ks).room = z.s.room := by unfold claimS; split <;> rfl
      simp only [e1, e2]
      exact this
    · exact hp.upd hc.upd fun q hq e => hcmS (e ▸ hq)
    · refine hc.mp.congr fun k => ?_
      unfold Dz
      rw [hk']
    · have := hc.cl k (by rw [← hk']; exact hk)
      have e : (if hasK k z.s.L = true then z.f k else z.fresh) = newF z.s.L z.fresh z.f ks k := by
        unfold newF
        cases hh : hasK k z.s.L with
        | true => simp
        | false =>
          have hk2 : (hasK k z.s.L || anyB k ks) = true := by rw [← hk']; exact hk
          rw [hh, Bool.false_or] at hk2
          have hk3 : ks.any (fun j => decide (j = k)) = true := hk2
          simp [hk3]
      rw [e] at this
      exact this
    · exact (h.left.keep (w' := wr) fun q hq hl => hold q hq.1.1 hq.1.2.1 hq.1.2.2.2.1).more fun q hq _ => ⟨hlq q hq.1, hq.2⟩
    · exact own_keep h.taken fun q hq => hold q (h.tIn q hq).1 (h.tIn q hq).2.1 (h.tIn q hq).2.2.2.1
    · rcases Bool.eq_false_or_eq_true (hasK k z.s.L) with hh | hh
      · rw [hc.old k hh]; exact .inl (h.inT.2.2.1 k hh)
      · rw [hk', hh, Bool.false_or] at hk
        have := hc.new k hh hk
        exact .inr ⟨by omega, this.2⟩
    · rintro q (hq | hq)
      · have := h.lt q hq; have := hc.upd.size; omega
      · exact hq.2
    · have := Zg.claim_ok h.ok ks
      rw [hz] at this
      exact this
  · exact hu.mono (fun q _ hq => h.inT.2.2.2 q hq) |>.trans hc.upd fun q _ e => e ▸ h.inT.2.1
end
end Go.Proofs.YtefigpmkiemfhaaDoor

namespace Go.Proofs.YtefigpmkiemfhaaDoor
open Go.RowKit
set_option linter.unusedVariables false
set_option linter.unusedSimpArgs false

section
variable {T SS : Nat → Prop} {w w' : World} {g sg cm : Nat} {b : ByteArray → Nat} {A1 A2 : Option Addr} {c1 c2 : Nat} {z : Zg}
set_option maxRecDepth 100000 in
set_option maxHeartbeats 4000000 in
theorem zclaim_any {Sk : Nat → Prop} {A : Option Addr} {c : Nat} (ks : List ByteArray) (h : ZAt T w g z) (hr : Rd Sk w 1 A ks.length (strs ks)) (hd : ∀ q, Sk q → ¬ T q) (hs : ∀ k ∈ ks, k.size ≤ 9223372036854775806) (hn : ks.length ≤ 1000000) :
    Calls Tryd.prog 12 #[.pointer (some ⟨g, 0, none⟩), .slice A ks.length c] w fun e w' => e = .returned (.int .i64 (claimE z.s ks)) ∧ ZGo T w g (z.claim ks) w' := by
  obtain ⟨SS, sg, cm, b, A1, c1, A2, c2, h⟩ := h
  have hcl := hid (claim_any (c := c) ks h.st hr (fun q hq hS => hd q hq (h.inT.2.2.2 q hS)) hs hn)
  have H := hid h
  have HR := hid hr
  have HD := hid hd
  have HS := hid hs
  have HN := hid hn
  have hN : (ks.length : Int) ≤ 1000000 := by omega
  obtain ⟨_, _, x2, _⟩ := h.cells
  clear h hr hd hs hn
  go_enter Tryd.func12, Tryd.ntmps12
  go_wp2_with fail
  refine hcl.out.mono ?_
  rintro e w1 ⟨rfl, hp0, hu0⟩
  have hP := hid hp0
  have hU := hid hu0
  have hHd := HD.out
  clear hcl hp0 hu0 x2 hHd
  by_cases he : claimE z.s ks = 0
  · have he := hid he
    have HR1 := hid (HR.out.upd hU.out (fun q hq hS => HD.out q hq (H.out.inT.2.2.2 q hS)))
    have kg : Hid (Blk w1 g 71 #[.int .i64 z.s.parts, .int .i64 z.s.room, .pointer (some ⟨sg, 0, none⟩), .map (some cm), .bool z.under, .int .i64 z.mark, .slice A1 z.left.length c1, .slice A2 z.taken.length c2]) := hid (H.out.blk.upd hU.out H.out.nS.1)
    have R0 : Hid (CR w1 w1 z.s.L cm b b z.f z.fresh []) := hid (by
      refine ⟨(H.out.mp.upd hU.out H.out.nS.2.1).congr fun k => ?_, fun k hk => ?_, fun k _ => rfl, fun k _ hk => (by cases hk), fun k j hk hj => ?_, Upd.refl _ _⟩
      · unfold Dz anyB; simp
      · have hk : hasK k z.s.L = true := by simpa [anyB] using hk
        rw [if_pos hk]
        exact (H.out.cl k hk).upd hU.out (H.out.nS.2.2 k hk)
      · exact H.out.inj k j (by simpa [anyB] using hk) (by simpa [anyB] using hj))
    rw [he.out]
    have hcg : Hid (g ≠ cm) := hid fun e => H.out.mp.ne_blk H.out.blk e.symm
    have hTS : Hid (∀ q, Sk q → q ≠ cm) := hid fun q hq e => HD.out q hq (e ▸ H.out.inT.2.1)
    have hcm : Hid (cm < w1.heap.size) := hid (by have := H.out.mp.lt; have := hU.out.size; omega)
    clear HR
    go_wp2_with fail
    go_loopw [21] (fun v wr => ∃ (i : Nat) (b' : ByteArray → Nat), v = .int .i64 i ∧ i ≤ ks.length ∧ CR w1 wr z.s.L cm b b' z.f z.fresh (ks.take i)) (fun v _ => ks.length - (intOf v).toNat)
    case atStart => exact ⟨0, b, rfl, Nat.zero_le _, R0.out⟩
    case round =>
      clear R0
      obtain ⟨i, b', rfl, hi, R0⟩ := hrel
      have R := hid R0
      clear R0
      by_cases hlt : i < ks.length
      · have i1 : (i : Int) < (ks.length : Int) := by omega
        obtain ⟨q0, o0, rfl, hq0, _, hc1⟩ := rd_strs (HR1.out.upd R.out.upd hTS.out) hlt
        have htk := hid (take_snoc hlt)
        obtain ⟨x, hx⟩ : ∃ x, x = ks[i] := ⟨_, rfl⟩
        rw [← hx] at hc1 htk
        have kr := hid (kg.out.upd R.out.upd hcg.out)
        have x3 : wr.cell? ⟨g, 3, none⟩ = some (.map (some cm)) := kr.out.cell 3
        have x4 : wr.cell? ⟨g, 4, none⟩ = some (.bool z.under) := kr.out.cell 4
        have i2 : IntKind.i64.wrap ((i : Int) + 1) = (i : Int) + 1 := by rw [IntKind.wrap_i64]; omega
        clear hx
        cases hdm : (hasK x z.s.L || anyB x (ks.take i)) with
        | true =>
          have hl := R.out.look x
          rw [if_pos hdm] at hl
          have hfin : Hid (CR w1 wr z.s.L cm b b' z.f z.fresh (ks.take (i + 1))) := hid (by rw [htk.out]; exact R.out.skip hdm)
          clear hdm
          go_wp2_with fail
          go_roundw
          case rel => exact ⟨i + 1, b', by go_num, hlt, hfin.out⟩
          case measure => simp [intOf]; omega
        | false =>
          have hl := R.out.look x
          rw [if_neg (by simp [hdm])] at hl
          have hdm := hid hdm
          have hcr : cm < wr.heap.size := by have := R.out.upd.size; have := hcm.out; omega
          obtain ⟨wu, hmu0, hm6, hg6, hz6⟩ := (R.out.mp.keep (w' := wr.alloc (.cells #[.int .i64 0, .int .i64 0, .string ⟨#[]⟩, .int .i64 0, .int .i64 0, .string ⟨#[]⟩, .int .i64 0, .int .i64 0] 75)) (Below.heap_alloc _ _ _ hcr)).update Tryd.underlying68 x (.pointer (some ⟨wr.heap.size, 0, none⟩))
          have hmu : (Instr.mapUpdate 68 (.map (some cm)) (.string x) (.pointer (some ⟨wr.heap.size, 0, none⟩))).run Tryd.prog (wr.alloc (.cells #[.int .i64 0, .int .i64 0, .string ⟨#[]⟩, .int .i64 0, .int .i64 0, .string ⟨#[]⟩, .int .i64 0, .int .i64 0] 75)) = .ok () wu := hmu0
          have hgc : ¬ g = wr.heap.size := by have := kr.out.lt; omega
          have kn := (Blk.new wr 75 #[.int .i64 0, .int .i64 0, .string ⟨#[]⟩, .int .i64 0, .int .i64 0, .string ⟨#[]⟩, .int .i64 0, .int .i64 0]).grown hg6 (by intro e; injection e with e; omega)
          have kr6 := (kr.out.alloc (.cells #[.int .i64 0, .int .i64 0, .string ⟨#[]⟩, .int .i64 0, .int .i64 0, .string ⟨#[]⟩, .int .i64 0, .int .i64 0] 75)).grown hg6 (by intro e; injection e with e; exact hcg.out e)
          have hum : Hid (Upd (fun q => q = cm) wr wu) := hid (((Upd.refl _ wr).alloc _).grown hg6 fun k hk _ => by injection hk with hk; exact hk.symm)
          have hl2 : (Instr.lookup 68 (.map (some cm)) (.string x) false).run Tryd.prog wu = .ok (.pointer (some ⟨wr.heap.size, 0, none⟩)) wu := by
            have h9 := hm6.lookup Tryd.underlying68 (z := .pointer none) zero_ptr x
            rw [if_pos rfl] at h9
            exact h9
          have x3u : wu.cell? ⟨g, 3, none⟩ = some (.map (some cm)) := kr6.cell 3
          have x4u : wu.cell? ⟨g, 4, none⟩ = some (.bool z.under) := kr6.cell 4
          have k7 : wu.cell? ⟨wr.heap.size, 7, none⟩ = some (.int .i64 0) := kn.cell 7
          have f7 := kn.frozen 7
          have hkn := hid kn
          have hm6 := hid hm6
          have hsu : Hid (wr.heap.size < wu.heap.size) := hid hkn.out.lt
          have htk := htk
          clear hmu0 hg6 hz6 kn kr6
          cases hun : z.under with
          | false =>
            rw [hun] at x4u
            have hfin : Hid (CR w1 wu z.s.L cm b (fun k => if k = x then wr.heap.size else b' k) z.f z.fresh (ks.take (i + 1))) := hid (by
              rw [htk.out]
              refine R.out.add hdm.out hm6.out hum.out (Upd.refl _ _) hcr hsu.out ?_
              have e : z.fresh = ce0 := by unfold Zg.fresh ce0; rw [hun]
              rw [e]
              exact hkn.out)
            clear hun
            go_wp2_with fail
            go_roundw
            case rel => exact ⟨i + 1, _, by go_num, hlt, hfin.out⟩
            case measure => simp [intOf]; omega
          | true =>
            rw [hun] at x4u
            have hfin : Hid (CR w1 (wu.setCell ⟨wr.heap.size, 7, none⟩ (.int .i64 1)) z.s.L cm b (fun k => if k = x then wr.heap.size else b' k) z.f z.fresh (ks.take (i + 1))) := hid (by
              rw [htk.out]
              refine R.out.add hdm.out hm6.out hum.out ((Upd.refl (fun q => q = wr.heap.size) wu).setCell (p := ⟨wr.heap.size, 7, none⟩) (fun _ => rfl) _) hcr (by simpa [World.setCell] using hsu.out) ?_
              have e : z.fresh = ⟨vl0, vl0, false, true⟩ := by unfold Zg.fresh; rw [hun]
              rw [e]
              have := hkn.out.set_ 7 (.int .i64 1)
              show Blk _ _ _ #[.int .i64 0, .int .i64 0, .string ⟨#[]⟩, .int .i64 0, .int .i64 0, .string ⟨#[]⟩, .int .i64 0, .int .i64 1]
              simpa using this)
            clear hun
            go_wp2_with fail
            go_roundw
            case rel => exact ⟨i + 1, _, by go_num, hlt, hfin.out⟩
            case measure => simp [intOf]; omega
      · obtain rfl : i = ks.length := by omega
        have hgo : Hid (ZGo T w g (z.claim ks) wr) := hid (by
          have := R.out
          rw [List.take_length] at this
          exact H.out.claimed he.out hP.out hU.out this)
        clear R hlt
        go_wp2_with fail
        go_ret
        exact ⟨by rw [he.out]; rfl, hgo.out⟩
  · have hz : z.claim ks = z := by unfold Zg.claim; rw [if_neg he]
    have hgo : Hid (ZGo T w g (z.claim ks) w1) := hid (by
      rw [hz]
      have hps := hP.out
      rw [claimS_no he] at hps
      exact H.out.refused hps hU.out)
    have t1 : (claimE z.s ks != 0) = true := by simpa using he
    clear he hz
    go_wp2_with fail
    go_ret
    exact ⟨rfl, hgo.out⟩
end
end Go.Proofs.YtefigpmkiemfhaaDoor

namespace Go.Proofs.YtefigpmkiemfhaaDoor
open Go.RowKit
set_option linter.unusedVariables false
set_option linter.unusedSimpArgs false

theorem asc_mem {L : List Kv} (h : Asc L) {x : Kv} : x ∈ L ↔ hasK x.1 L = true ∧ valK x.1 L = x.2 := by
  constructor
  · intro hx
    exact ⟨hasK_mem.2 ⟨x, hx, rfl⟩, valK_mem h hx⟩
  · rintro ⟨h1, h2⟩
    obtain ⟨y, hy, e⟩ := hasK_mem.1 h1
    have h3 := valK_mem h hy
    rw [e] at h3
    have : x = y := Prod.ext e.symm (by rw [← h2, h3])
    rw [this]; exact hy
theorem asc_nd {L : List Kv} (h : Asc L) : L.Nodup := by
  have h1 := asc_nodup h
  rw [List.nodup_iff_pairwise_ne, List.pairwise_map] at h1
  rw [List.nodup_iff_pairwise_ne]
  exact h1.imp fun h e => h (by rw [e])
theorem asc_ext {L M : List Kv} (hL : Asc L) (hM : Asc M) (h1 : ∀ k, hasK k L = hasK k M) (h2 : ∀ k, valK k L = valK k M) : L = M :=
  asc_eq hL hM ((List.perm_ext_iff_of_nodup (asc_nd hL) (asc_nd hM)).2 fun x => by rw [asc_mem hL, asc_mem hM, h1, h2])
/-- claims in whatever order -/
theorem insAll_order {L : List Kv} (h : Asc L) {ks js : List ByteArray} (hk : ∀ k, k ∈ ks ↔ k ∈ js) : insAll L ks = insAll L js := by
  refine asc_ext (insAll_asc h) (insAll_asc h) (fun k => ?_) fun k => by rw [insAll_val h, insAll_val h]
  rw [insAll_has, insAll_has]
  congr 1
  rw [Bool.eq_iff_iff, List.any_eq_true, List.any_eq_true]
  constructor <;> rintro ⟨j, hj, e⟩
  · exact ⟨j, (hk j).1 hj, e⟩
  · exact ⟨j, (hk j).2 hj, e⟩
/-- the i-th of a list that begins at t, round about -/
theorem rot_mem {α : Type} (l : List α) (t : Nat) : ∀ k, k ∈ (l.drop t ++ l.take t) ↔ k ∈ l := fun k => by
  rw [List.mem_append]
  conv => rhs; rw [← List.take_append_drop t l, List.mem_append]
  exact Or.comm
theorem nodup_le {α : Type} [DecidableEq α] : ∀ {l m : List α}, l.Nodup → (∀ x ∈ l, x ∈ m) → l.length ≤ m.length
  | [], _, _, _ => Nat.zero_le _
  | a :: l, m, hn, hs => by
    have h1 := List.nodup_cons.1 hn
    have ha := hs a (List.mem_cons_self ..)
    have h2 := nodup_le (l := l) (m := m.erase a) h1.2 fun x hx => (List.mem_erase_of_ne (show x ≠ a from fun e => h1.1 (by rw [← e]; exact hx))).2 (hs x (List.mem_cons_of_mem _ hx))
    rw [List.length_erase_of_mem ha] at h2
    have := List.length_pos_of_mem ha
    rw [List.length_cons]
    omega
theorem cnt_mono {n p : Nat} {L M : List Kv} (hL : Asc L) (h : ∀ k, hasK k L = true → hasK k M = true) : cntP n p L ≤ cntP n p M := by
  have e : ∀ X : List Kv, cntP n p X = ((X.filter fun x => decide (partK n x.1 = p)).map (·.1)).length := fun X => by
    unfold cntP
    rw [List.length_map, List.countP_eq_length_filter]
  rw [e, e]
  refine nodup_le ((List.filter_sublist.map _).nodup (asc_nodup hL)) fun k hk => ?_
  obtain ⟨x, hx, rfl⟩ := List.mem_map.1 hk
  obtain ⟨h1, h2⟩ := List.mem_filter.1 hx
  obtain ⟨y, hy, e⟩ := hasK_mem.1 (h x.1 (hasK_mem.2 ⟨x, h1, rfl⟩))
  exact List.mem_map.2 ⟨y, List.mem_filter.2 ⟨hy, by rw [e]; exact h2⟩, e⟩
/-- each of claims that all fit fits by itself, some of them having come -/
theorem claim_one {s : St} (hok : s.Ok) {l js : List ByteArray} {k : ByteArray} (h : claimE s l = 0) (hj : ∀ j ∈ js, j ∈ l) (hk : k ∈ l) : claimE { s with L := insAll s.L js } [k] = 0 := by
  have hS := claim_ok hok l
  have hSL : (claimS s l).L = insAll s.L l := by unfold claimS; rw [if_pos h]
  have hSp : (claimS s l).parts = s.parts ∧ (claimS s l).room = s.room := by unfold claimS; rw [if_pos h]; exact ⟨rfl, rfl⟩
  have hval : (l.any fun k => !validK k) = false := by
    cases e : l.any (fun k => !validK k) with
    | false => rfl
    | true => rw [claimE_key e] at h; cases h
  refine claimE_ok ?_ rfl fun p hp hc => ?_
  · rw [List.any_eq_false] at hval
    simpa using hval k hk
  · obtain ⟨h1, h2⟩ := hc
    have ha := insAll_asc (ks := js) hok.asc
    have hm : cntP s.parts p (insK k (insAll s.L js)) ≤ cntP s.parts p (insAll s.L l) := cnt_mono (ins_asc ha) fun y hy => by
      rw [insAll_has]
      rw [hasK_ins, insAll_has] at hy
      simp only [Bool.or_eq_true, decide_eq_true_eq, List.any_eq_true] at hy ⊢
      rcases hy with rfl | ⟨j, hj1, rfl⟩ | hy
      · exact .inl ⟨k, hk, rfl⟩
      · exact .inl ⟨j, hj j hj1, rfl⟩
      · exact .inr hy
    have hr := hS.cnt p (by rw [hSp.1]; exact hp)
    rw [hSL, hSp.1, hSp.2] at hr
    rw [cnt_ins ha] at hm
    have e : moreK { s with L := insAll s.L js } [k] p = if hasK k (insAll s.L js) = false ∧ partK s.parts k = p then 1 else 0 := by
      unfold moreK
      rw [List.countP_cons, List.countP_nil]
      simp only
      cases hasK k (insAll s.L js) <;> by_cases h9 : partK s.parts k = p <;> simp [h9]
    simp only at h2 e
    rw [e] at h2
    omega
/-- the rotation's i-th -/
theorem rot_get {α : Type} (l : List α) {t i : Nat} (ht : t < l.length) (hi : i < l.length) : (l.drop t ++ l.take t)[i]? = l[(i + t) % l.length]? := by
  by_cases h : i < l.length - t
  · rw [List.getElem?_append_left (by rw [List.length_drop]; exact h), List.getElem?_drop, Nat.mod_eq_of_lt (by omega), Nat.add_comm]
  · rw [List.getElem?_append_right (by rw [List.length_drop]; omega), List.length_drop, List.getElem?_take_of_lt (by omega)]
    have e : (i + t) % l.length = i + t - l.length := by
      rw [Nat.mod_eq_sub_mod (by omega), Nat.mod_eq_of_lt (by omega)]
    rw [e]
    congr 1
    omega
end Go.Proofs.YtefigpmkiemfhaaDoor

namespace Go.Proofs.YtefigpmkiemfhaaDoor
open Go.RowKit
set_option linter.unusedVariables false
set_option linter.unusedSimpArgs false

theorem upAll_out : ∀ {ws : List Wr} {L : List Kv} {j : ByteArray}, (∀ x ∈ ws, x.key ≠ j) → valK j (upAll L ws) = valK j L
  | [], _, _, _ => rfl
  | x :: ws, L, j, h => by
    show valK j (upAll (upK x.key x.v L) ws) = _
    rw [upAll_out (fun y hy => h y (List.mem_cons_of_mem _ hy)), valK_up, if_neg fun e => h x (List.mem_cons_self ..) e.1]
theorem upAll_in : ∀ {ws : List Wr} {L : List Kv} {x : Wr}, (ws.map (·.key)).Nodup → x ∈ ws → hasK x.key L = true → valK x.key (upAll L ws) = x.v
  | y :: ws, L, x, hn, hx, hk => by
    have hn' := List.nodup_cons.1 hn
    show valK x.key (upAll (upK y.key y.v L) ws) = _
    rcases List.mem_cons.1 hx with rfl | hx
    · rw [upAll_out (fun z hz e => hn'.1 (List.mem_map.2 ⟨z, hz, e⟩)), valK_up, if_pos ⟨rfl, hk⟩]
    · exact upAll_in hn'.2 hx (by rw [hasK_up]; exact hk)
/-- writes of unlike keys in whatever order -/
theorem upAll_order {L : List Kv} (h : Asc L) {ws js : List Wr} (hn : (ws.map (·.key)).Nodup) (hm : (js.map (·.key)).Nodup) (he : ∀ x, x ∈ ws ↔ x ∈ js) (hk : ∀ x ∈ ws, hasK x.key L = true) : upAll L ws = upAll L js := by
  have ha : ∀ l, Asc (upAll L l) := fun l => asc_keys upAll_keys h
  refine asc_ext (ha _) (ha _) (fun k => by rw [upAll_has, upAll_has]) fun k => ?_
  by_cases hx : ∃ x ∈ ws, x.key = k
  · obtain ⟨x, hx, rfl⟩ := hx
    rw [upAll_in hn hx (hk x hx), upAll_in hm ((he x).1 hx) (hk x hx)]
  · rw [upAll_out (fun x h1 h2 => hx ⟨x, h1, h2⟩), upAll_out (fun x h1 h2 => hx ⟨x, (he x).2 h1, h2⟩)]
/-- each of writes that may all be applied may be by itself, some of them having come -/
theorem apply_one {s : St} {ws js : List Wr} {x : Wr} (h : applyE s ws = 0) (hx : x ∈ ws) : applyE { s with L := upAll s.L js } [x] = 0 := by
  have hz : ∀ j, j < ws.length → wrE s ws j = 0 := fun j hj => (scan_zero _ _ _).1 h j (Nat.zero_le _) (by omega)
  obtain ⟨j, hj, e⟩ := List.mem_iff_getElem.1 hx
  have h1 := hz j hj
  rw [wrE_at (x := x) (y := ws.getD (j - 1) wr0) (by simp [List.getD_eq_getElem?_getD, hj, e]) rfl] at h1
  refine applyE_zero fun k hk => ?_
  have hk0 : k = 0 := by simp at hk; omega
  subst hk0
  rw [wrE_at (x := x) (y := x) rfl rfl]
  simp only [upAll_has]
  split at h1
  · cases h1
  · rename_i g1
    split at h1
    · cases h1
    · split at h1
      · cases h1
      · rename_i g3
        split at h1
        · cases h1
        · rename_i g4
          split at h1
          · cases h1
          · rename_i g5
            rw [if_neg g1, if_neg (by simp), if_neg g3, if_neg g4, if_neg g5]
theorem apply_keys {s : St} {ws : List Wr} (h : applyE s ws = 0) : (ws.map (·.key)).Nodup ∧ ∀ x ∈ ws, hasK x.key s.L = true := by
  have hz : ∀ j, j < ws.length → wrE s ws j = 0 := fun j hj => (scan_zero _ _ _).1 h j (Nat.zero_le _) (by omega)
  have hc : ∀ j (hj : j < ws.length), hasK ws[j].key s.L = true ∧ (0 < j → ltB (ws.getD (j - 1) wr0).key ws[j].key = true) := fun j hj => by
    have h1 := hz j hj
    rw [wrE_at (x := ws[j]) (y := ws.getD (j - 1) wr0) (by simp [List.getD_eq_getElem?_getD, hj]) rfl] at h1
    split at h1
    · cases h1
    · split at h1
      · cases h1
      · rename_i g2
        split at h1
        · cases h1
        · rename_i g3
          refine ⟨by simpa using g3, fun h0 => ?_⟩
          cases e : ltB (ws.getD (j - 1) wr0).key ws[j].key with
          | true => rfl
          | false => exact absurd ⟨h0, e⟩ g2
  have hlt : ∀ i j (hj : j < ws.length) (hij : i < j), ltB (ws[i]'(by omega)).key ws[j].key = true := by
    intro i j
    induction j with
    | zero => intro hj hij; omega
    | succ j ih =>
      intro hj hij
      have h1 := (hc (j + 1) hj).2 (by omega)
      have e : ws.getD (j + 1 - 1) wr0 = ws[j]'(by omega) := by simp [List.getD_eq_getElem?_getD, show j < ws.length by omega]
      rw [e] at h1
      rcases Nat.lt_or_ge i j with h2 | h2
      · exact ltB_trans (ih (by omega) h2) h1
      · obtain rfl : i = j := by omega
        exact h1
  refine ⟨?_, fun x hx => ?_⟩
  · rw [List.nodup_iff_pairwise_ne, List.pairwise_map, List.pairwise_iff_getElem]
    intro i j hi hj hij
    exact ltB_ne (hlt i j hj hij)
  · obtain ⟨j, hj, rfl⟩ := List.mem_iff_getElem.1 hx
    exact (hc j hj).1
end Go.Proofs.YtefigpmkiemfhaaDoor

namespace Go.Proofs.YtefigpmkiemfhaaDoor
open Go.RowKit
set_option linter.unusedVariables false
set_option linter.unusedSimpArgs false

/-- under way: some of the writes have come to their cells -/
structure AR (w1 wr : World) (L : List Kv) (b : ByteArray → Nat) (f : ByteArray → Ce) : Prop where
  cl : ∀ k, hasK k L = true → Blk wr (b k) 75 (ceCells (f k))
  upd : Upd (fun q => ∃ k, hasK k L = true ∧ q = b k) w1 wr
section
variable {w1 wr wn : World} {L : List Kv} {b : ByteArray → Nat} {f : ByteArray → Ce}
/-- what reads alone, or makes memory -/
theorem AR.below (h : AR w1 wr L b f) (hb : Below wr.heap.size wr wn) : AR w1 wn L b f := ⟨fun k hk => (h.cl k hk).below_all hb, h.upd.trans (Upd.of_below (M := fun q => ∃ k, hasK k L = true ∧ q = b k) hb fun k hk h => by omega) fun _ _ h => h⟩
theorem AR.write (h : AR w1 wr L b f) (hinj : ∀ k j, hasK k L = true → hasK j L = true → b k = b j → k = j) {x : Wr} (hx : hasK x.key L = true) (hu : Upd (fun q => q = b x.key) wr wn) (hn : Blk wn (b x.key) 75 (ceCells ((f x.key).put x.v))) : AR w1 wn L b (putFz f x) := by
  refine ⟨fun k hk => ?_, h.upd.trans hu fun q _ e => ⟨x.key, hx, e⟩⟩
  unfold putFz
  by_cases e : k = x.key
  · subst e; rw [if_pos rfl]; exact hn
  · rw [if_neg e]
    exact (h.cl k hk).upd hu fun e2 => e (hinj k x.key hk hx e2)
end
theorem putAll_take (f : ByteArray → Ce) {ws : List Wr} {i : Nat} (h : i < ws.length) : putAll f (ws.take (i + 1)) = putFz (putAll f (ws.take i)) ws[i] := by
  unfold putAll
  rw [List.take_succ_eq_append_getElem h, List.foldl_append]; rfl
section
variable {T SS : Nat → Prop} {w w' : World} {g sg cm : Nat} {b : ByteArray → Nat} {A1 A2 : Option Addr} {c1 c2 : Nat} {z : Zg}
theorem applyS_hasK {s : St} (ws : List Wr) (k : ByteArray) : hasK k (applyS s ws).L = hasK k s.L := by
  unfold applyS
  split
  · exact upAll_has
  · rfl
theorem ZIn.applied {w1 wr : World} {ws : List Wr} (h : ZIn T SS w g sg cm b A1 c1 A2 c2 z) (he : applyE z.s ws = 0) (hp : PAt SS w1 sg (applyS z.s ws)) (hu : Upd SS w w1) (hc : AR w1 wr z.s.L b (putAll z.f ws)) : ZGo T w g (z.apply ws) wr := by
  have hz : z.apply ws = { z with s := applyS z.s ws, f := putAll z.f ws } := by unfold Zg.apply; rw [if_pos he]
  have hk' : ∀ k, hasK k (applyS z.s ws).L = hasK k z.s.L := fun k => applyS_hasK ws k
  have hsz := hu.size
  have hold : ∀ q, T q → ¬ SS q → (∀ k, hasK k z.s.L = true → q ≠ b k) → wr.heap[q]? = w.heap[q]? := fun q hq hn hc' => (hc.upd.block q (Nat.lt_of_lt_of_le (h.lt q hq) hsz) (fun ⟨k, hk, e⟩ => hc' k hk e)).trans (hu.block q (h.lt q hq) hn)
  have hgb : ∀ k, hasK k z.s.L = true → g ≠ b k := fun k hk => Blk.ne_ h.blk (h.cl k hk) (by decide)
  have hmb : ∀ k, hasK k z.s.L = true → cm ≠ b k := fun k hk => h.mp.ne_blk (h.cl k hk)
  have hlq : ∀ q, LQ T SS g cm b z.s.L q → LQ T SS g cm b (applyS z.s ws).L q := fun q hq => ⟨hq.1, hq.2.1, hq.2.2.1, hq.2.2.2.1, fun k hk => hq.2.2.2.2 k (by rw [← hk']; exact hk)⟩
  refine ⟨T, ⟨SS, sg, cm, b, A1, c1, A2, c2, ?_⟩, fun q hq => .inl hq, fun q hq => hq, ?_⟩
  · rw [hz]
    refine ⟨?_, ?_, ?_, fun k hk => hc.cl k (by rw [← hk']; exact hk), fun k j hk hj => h.inj k j (by rw [← hk']; exact hk) (by rw [← hk']; exact hj), ?_, ?_, fun q hq => hlq q (h.tIn q hq), ⟨h.inT.1, h.inT.2.1, fun k hk => h.inT.2.2.1 k (by rw [← hk']; exact hk), h.inT.2.2.2⟩, ⟨h.nS.1, h.nS.2.1, fun k hk => h.nS.2.2 k (by rw [← hk']; exact hk)⟩, fun q hq => by have := h.lt q hq; have := hc.upd.size; omega, h.len, h.lc, ?_⟩
    · have := (hold g h.inT.1 h.nS.1 hgb).trans h.blk
      have e1 : (applyS z.s ws).parts = z.s.parts := by unfold applyS; split <;> rfl
      have e2 : (applyS z.s ws).room = z.s.room := by unfold applyS; split <;> rfl
      simp only [e1, e2]
      exact this
    · exact hp.upd hc.upd fun q hq ⟨k, hk, e⟩ => h.nS.2.2 k hk (e ▸ hq)
    · refine (h.mp.keep (hold cm h.inT.2.1 h.nS.2.1 hmb)).congr fun k => ?_
      unfold Dz
      rw [hk']
    · exact (h.left.keep (w' := wr) fun q hq hl => hold q hq.1.1 hq.1.2.1 hq.1.2.2.2.2).more fun q hq _ => ⟨hlq q hq.1, hq.2⟩
    · exact own_keep h.taken fun q hq => hold q (h.tIn q hq).1 (h.tIn q hq).2.1 (h.tIn q hq).2.2.2.2
    · have := Zg.apply_ok h.ok ws
      rw [hz] at this
      exact this
  · exact hu.mono (fun q _ hq => h.inT.2.2.2 q hq) |>.trans hc.upd fun q _ ⟨k, hk, e⟩ => e ▸ h.inT.2.2.1 k hk
end
section
variable {T SS : Nat → Prop} {w w' : World} {g sg cm : Nat} {b : ByteArray → Nat} {A1 A2 : Option Addr} {c1 c2 : Nat} {z : Zg}
set_option maxRecDepth 100000 in
set_option maxHeartbeats 4000000 in
theorem zapply_any {Sk : Nat → Prop} {A : Option Addr} {c : Nat} (ws : List Wr) (h : ZAt T w g z) (hr : Rd Sk w 5 A ws.length (wrCells ws)) (hd : ∀ q, Sk q → ¬ T q) (hs : ∀ x ∈ ws, x.key.size ≤ 9223372036854775806 ∧ x.v.s.size ≤ 9223372036854775806) (hn : ws.length ≤ 1000000) :
    Calls Tryd.prog 13 #[.pointer (some ⟨g, 0, none⟩), .slice A ws.length c] w fun e w' => e = .returned (.int .i64 (applyE z.s ws)) ∧ ZGo T w g (z.apply ws) w' := by
  obtain ⟨SS, sg, cm, b, A1, c1, A2, c2, h⟩ := h
  have hcl := hid (apply_any (c := c) ws h.st hr (fun q hq hS => hd q hq (h.inT.2.2.2 q hS)) hs hn)
  have H := hid h
  have HR := hid hr
  have HD := hid hd
  have HN := hid hn
  have hN : (ws.length : Int) ≤ 1000000 := by omega
  obtain ⟨_, _, x2, _⟩ := h.cells
  clear h hr hd hs hn
  go_enter Tryd.func13, Tryd.ntmps13
  go_wp2_with fail
  refine hcl.out.mono ?_
  rintro e w1 ⟨rfl, hp0, hu0⟩
  have hP := hid hp0
  have hU := hid hu0
  clear hcl hp0 hu0 x2
  by_cases he : applyE z.s ws = 0
  · have he := hid he
    have HR1 := hid (HR.out.upd hU.out (fun q hq hS => HD.out q hq (H.out.inT.2.2.2 q hS)))
    have kg : Hid (Blk w1 g 71 #[.int .i64 z.s.parts, .int .i64 z.s.room, .pointer (some ⟨sg, 0, none⟩), .map (some cm), .bool z.under, .int .i64 z.mark, .slice A1 z.left.length c1, .slice A2 z.taken.length c2]) := hid (H.out.blk.upd hU.out H.out.nS.1)
    have R0 : Hid (AR w1 w1 z.s.L b (putAll z.f [])) := hid ⟨fun k hk => (H.out.cl k hk).upd hU.out (H.out.nS.2.2 k hk), Upd.refl _ _⟩
    rw [he.out]
    have hcg : Hid (∀ k, hasK k z.s.L = true → g ≠ b k) := hid fun k hk => Blk.ne_ H.out.blk (H.out.cl k hk) (by decide)
    have hmb : Hid (∀ k, hasK k z.s.L = true → cm ≠ b k) := hid fun k hk => H.out.mp.ne_blk (H.out.cl k hk)
    have hTS : Hid (∀ q, Sk q → ¬ ∃ k, hasK k z.s.L = true ∧ q = b k) := hid fun q hq ⟨k, hk, e⟩ => HD.out q hq (e ▸ H.out.inT.2.2.1 k hk)
    have hmp : Hid (MapF strE w1 cm (Dz z.s.L b)) := hid (H.out.mp.upd hU.out H.out.nS.2.1)
    have hkk : Hid (∀ x ∈ ws, hasK x.key z.s.L = true) := hid ((apply_keys he.out).2)
    clear HR
    go_wp2_with fail
    go_loopw [22] (fun v wr => ∃ i : Nat, v = .int .i64 i ∧ i ≤ ws.length ∧ AR w1 wr z.s.L b (putAll z.f (ws.take i))) (fun v _ => ws.length - (intOf v).toNat)
    case atStart => exact ⟨0, rfl, Nat.zero_le _, R0.out⟩
    case round =>
      clear R0
      obtain ⟨i, rfl, hi, R0⟩ := hrel
      have R := hid R0
      clear R0
      by_cases hlt : i < ws.length
      · have i1 : (i : Int) < (ws.length : Int) := by omega
        obtain ⟨q0, o0, rfl, hq0, _, y0, y1, y2, y3, y4⟩ := rd_wr (HR1.out.upd R.out.upd hTS.out) hlt
        have htk := hid (putAll_take z.f hlt)
        have hkx := hid (hkk.out _ (List.getElem_mem hlt))
        obtain ⟨x, hx⟩ : ∃ x, x = ws[i] := ⟨_, rfl⟩
        rw [← hx] at y0 y1 y2 y3 y4 htk hkx
        have i2 : IntKind.i64.wrap ((i : Int) + 1) = (i : Int) + 1 := by rw [IntKind.wrap_i64]; omega
        clear hx
        go_upto_region 9 with fail
        have hbA : Below wr.heap.size wr (wr.alloc (.cells #[.string x.key, .bool x.gone, .int .i64 x.v.k, .int .i64 x.v.n, .string x.v.s] 67)) := (Below.refl _ _).alloc (Nat.le_refl _) _
        have kw := hid (Blk.new wr 67 #[.string x.key, .bool x.gone, .int .i64 x.v.k, .int .i64 x.v.n, .string x.v.s])
        have RA := hid (R.out.below hbA)
        generalize hwa : wr.alloc (.cells #[.string x.key, .bool x.gone, .int .i64 x.v.k, .int .i64 x.v.n, .string x.v.s] 67) = wa at *
        have hsz := kw.out.lt
        have w0 : wa.cell? ⟨wr.heap.size, 0, none⟩ = some (.string x.key) := kw.out.cell 0
        have w2 : wa.cell? ⟨wr.heap.size, 2, none⟩ = some (.int .i64 x.v.k) := kw.out.cell 2
        have w3 : wa.cell? ⟨wr.heap.size, 3, none⟩ = some (.int .i64 x.v.n) := kw.out.cell 3
        have w4 : wa.cell? ⟨wr.heap.size, 4, none⟩ = some (.string x.v.s) := kw.out.cell 4
        have kga := hid (kg.out.upd RA.out.upd fun ⟨k, hk, e⟩ => hcg.out k hk e)
        have x3 : wa.cell? ⟨g, 3, none⟩ = some (.map (some cm)) := kga.out.cell 3
        have hmpa := hid (hmp.out.upd RA.out.upd fun ⟨k, hk, e⟩ => hmb.out k hk e)
        have hl : ∀ n, (Instr.lookup 68 (.map (some cm)) (.string x.key) false).run Tryd.prog (wa.drewN n) = .ok (.pointer (some ⟨b x.key, 0, none⟩)) (wa.drewN n) := fun n => by
          have h9 := (hmpa.out.keep (w' := wa.drewN n) rfl).lookup Tryd.underlying68 (z := .pointer none) zero_ptr x.key
          unfold Dz at h9
          rw [if_pos hkx.out] at h9
          exact h9
        clear hwa kga hmpa hbA y0 y1 y2 y3 y4
        go_quiet (fail)
        have hbq : Below wa.heap.size wa (wa.drewN nq) := below_drewN (Below.refl _ _) _
        have RA := hid (RA.out.below hbq)
        have kw := hid (kw.out.below_all hbq)
        clear hbq w0 w2 w3 w4 x3 hl hsz
        generalize wa.drewN nq = wd at *
        obtain ⟨F, hF⟩ : ∃ F, F = putAll z.f (ws.take i) := ⟨_, rfl⟩
        rw [← hF] at htk RA
        have hblk := hid (RA.out.cl _ hkx.out)
        have hne : ¬ (wr.heap.size = b x.key) := Blk.ne_ kw.out hblk.out (by decide)
        have hne2 : ¬ (b x.key = wr.heap.size) := fun e => hne e.symm
        have u0 : wd.cell? ⟨b x.key, 0, none⟩ = some (.int .i64 (F x.key).c0.k) := hblk.out.cell 0
        have u1 : wd.cell? ⟨b x.key, 1, none⟩ = some (.int .i64 (F x.key).c0.n) := hblk.out.cell 1
        have u2 : wd.cell? ⟨b x.key, 2, none⟩ = some (.string (F x.key).c0.s) := hblk.out.cell 2
        have u3 : wd.cell? ⟨b x.key, 3, none⟩ = some (.int .i64 (F x.key).c1.k) := hblk.out.cell 3
        have u4 : wd.cell? ⟨b x.key, 4, none⟩ = some (.int .i64 (F x.key).c1.n) := hblk.out.cell 4
        have u5 : wd.cell? ⟨b x.key, 5, none⟩ = some (.string (F x.key).c1.s) := hblk.out.cell 5
        have u6 : wd.cell? ⟨b x.key, 6, none⟩ = some (.int .i64 (bI (F x.key).r)) := hblk.out.cell 6
        have u7 : wd.cell? ⟨b x.key, 7, none⟩ = some (.int .i64 (bI (F x.key).w)) := hblk.out.cell 7
        have fz := fun q => hblk.out.frozen q
        have hbl := hblk.out.lt
        have hsz := kw.out.lt
        have w0 : wd.cell? ⟨wr.heap.size, 0, none⟩ = some (.string x.key) := kw.out.cell 0
        have w2 : wd.cell? ⟨wr.heap.size, 2, none⟩ = some (.int .i64 x.v.k) := kw.out.cell 2
        have w3 : wd.cell? ⟨wr.heap.size, 3, none⟩ = some (.int .i64 x.v.n) := kw.out.cell 3
        have w4 : wd.cell? ⟨wr.heap.size, 4, none⟩ = some (.string x.v.s) := kw.out.cell 4
        clear hF
        go_upto_region 10 with fail
        cases hw : (F x.key).w with
        | false =>
          rw [hw] at u7
          have u7' : wd.cell? ⟨b x.key, 7, none⟩ = some (.int .i64 0) := u7
          have hput : Hid (ceCells ((F x.key).put x.v) = #[.int .i64 x.v.k, .int .i64 x.v.n, .string x.v.s, .int .i64 (F x.key).c1.k, .int .i64 (F x.key).c1.n, .string (F x.key).c1.s, .int .i64 0, .int .i64 0]) := hid (by unfold Ce.put ceCells; rw [hw]; rfl)
          clear u7
          go_region
          all_goals
            have hb10 : Blk _ _ _ _ := ((hblk.out.set_ 0 (.int .i64 x.v.k)).set_ 1 (.int .i64 x.v.n)).set_ 2 (.string x.v.s)
            have hu10 : Upd (fun q => q = b x.key) wd _ := (((Upd.refl (fun q => q = b x.key) wd).setCell (p := ⟨b x.key, 0, none⟩) (fun _ => rfl) (.int .i64 x.v.k)).setCell (p := ⟨b x.key, 1, none⟩) (fun _ => rfl) (.int .i64 x.v.n)).setCell (p := ⟨b x.key, 2, none⟩) (fun _ => rfl) (.string x.v.s)
            have hb10 := hid hb10.drew
            have hu10 := hid hu10.drew
            generalize World.drew _ = we at *
            have v7 : we.cell? ⟨b x.key, 7, none⟩ = some (.int .i64 0) := by rw [hb10.out.cell 7]; simpa [ceCells, bI] using hw
            have v6 : we.cell? ⟨b x.key, 6, none⟩ = some (.int .i64 (bI (F x.key).r)) := by rw [hb10.out.cell 6]; simp [ceCells]
            have fy := fun q => hb10.out.frozen q
            have hsy := hb10.out.lt
            clear u0 u1 u2 u3 u4 u5 u6 u7' w0 w2 w3 w4 fz
            have hw := hid hw
            go_wp2_with fail
            go_roundw
            case rel =>
              refine ⟨i + 1, by go_num, hlt, ?_⟩
              rw [htk.out]
              refine RA.out.write H.out.inj hkx.out (hu10.out.setCell (p := ⟨b x.key, 6, none⟩) (fun _ => rfl) _) ?_
              rw [hput.out]
              have h9 := hb10.out.set_ 6 (.int .i64 0)
              have hw9 := hw.out
              simpa [ceCells, bI, hw9] using h9
            case measure => simp [intOf]; omega
        | true =>
          rw [hw] at u7
          have u7' : wd.cell? ⟨b x.key, 7, none⟩ = some (.int .i64 1) := u7
          have hput : Hid (ceCells ((F x.key).put x.v) = #[.int .i64 (F x.key).c0.k, .int .i64 (F x.key).c0.n, .string (F x.key).c0.s, .int .i64 x.v.k, .int .i64 x.v.n, .string x.v.s, .int .i64 1, .int .i64 1]) := hid (by unfold Ce.put ceCells; rw [hw]; rfl)
          clear u7
          go_region
          all_goals
            have hb10 : Blk _ _ _ _ := ((hblk.out.set_ 3 (.int .i64 x.v.k)).set_ 4 (.int .i64 x.v.n)).set_ 5 (.string x.v.s)
            have hu10 : Upd (fun q => q = b x.key) wd _ := (((Upd.refl (fun q => q = b x.key) wd).setCell (p := ⟨b x.key, 3, none⟩) (fun _ => rfl) (.int .i64 x.v.k)).setCell (p := ⟨b x.key, 4, none⟩) (fun _ => rfl) (.int .i64 x.v.n)).setCell (p := ⟨b x.key, 5, none⟩) (fun _ => rfl) (.string x.v.s)
            have hb10 := hid hb10.drew
            have hu10 := hid hu10.drew
            generalize World.drew _ = we at *
            have v7 : we.cell? ⟨b x.key, 7, none⟩ = some (.int .i64 1) := by rw [hb10.out.cell 7]; simpa [ceCells, bI] using hw
            have v6 : we.cell? ⟨b x.key, 6, none⟩ = some (.int .i64 (bI (F x.key).r)) := by rw [hb10.out.cell 6]; simp [ceCells]
            have fy := fun q => hb10.out.frozen q
            have hsy := hb10.out.lt
            clear u0 u1 u2 u3 u4 u5 u6 u7' w0 w2 w3 w4 fz
            have hw := hid hw
            go_wp2_with fail
            go_roundw
            case rel =>
              refine ⟨i + 1, by go_num, hlt, ?_⟩
              rw [htk.out]
              refine RA.out.write H.out.inj hkx.out (hu10.out.setCell (p := ⟨b x.key, 6, none⟩) (fun _ => rfl) _) ?_
              rw [hput.out]
              have h9 := hb10.out.set_ 6 (.int .i64 1)
              have hw9 := hw.out
              simpa [ceCells, bI, hw9] using h9
            case measure => simp [intOf]; omega
      · obtain rfl : i = ws.length := by omega
        have hgo : Hid (ZGo T w g (z.apply ws) wr) := hid (by
          have := R.out
          rw [List.take_length] at this
          exact H.out.applied he.out hP.out hU.out this)
        clear R hlt
        go_wp2_with fail
        go_ret
        exact ⟨by rw [he.out]; rfl, hgo.out⟩
  · have hz : z.apply ws = z := by unfold Zg.apply; rw [if_neg he]
    have hgo : Hid (ZGo T w g (z.apply ws) w1) := hid (by
      rw [hz]
      have hps := hP.out
      rw [applyS_no he] at hps
      exact H.out.refused hps hU.out)
    have t1 : (applyE z.s ws != 0) = true := by simpa using he
    clear he hz
    go_wp2_with fail
    go_ret
    exact ⟨rfl, hgo.out⟩
end
end Go.Proofs.YtefigpmkiemfhaaDoor

namespace Go.Proofs.YtefigpmkiemfhaaDoor
open Go.RowKit
set_option linter.unusedVariables false
set_option linter.unusedSimpArgs false

theorem turn_turn (c : Ce) : c.turn.turn = c.turn := rfl
/-- under way: the keys ds have turned -/
structure BR (w1 wr : World) (rb : Nat) (L : List Kv) (b : ByteArray → Nat) (f : ByteArray → Ce) (ds : List ByteArray) : Prop where
  cl : ∀ k, hasK k L = true → Blk wr (b k) 75 (ceCells (if anyB k ds = true then (f k).turn else f k))
  upd : Upd (fun q => q = rb ∨ ∃ k, hasK k L = true ∧ q = b k) w1 wr
section
variable {w1 wr wn : World} {rb : Nat} {L : List Kv} {b : ByteArray → Nat} {f : ByteArray → Ce} {ds : List ByteArray}
theorem BR.iter (h : BR w1 wr rb L b f ds) (hb : ∀ k, hasK k L = true → b k ≠ rb) (hu : Upd (fun q => q = rb) wr wn) : BR w1 wn rb L b f ds := ⟨fun k hk => (h.cl k hk).upd hu (hb k hk), h.upd.trans hu fun _ _ e => .inl e⟩
theorem BR.turn (h : BR w1 wr rb L b f ds) (hinj : ∀ k j, hasK k L = true → hasK j L = true → b k = b j → k = j) {y : ByteArray} (hy : hasK y L = true) (hu : Upd (fun q => q = b y) wr wn) (hn : Blk wn (b y) 75 (ceCells (f y).turn)) : BR w1 wn rb L b f (ds ++ [y]) := by
  refine ⟨fun k hk => ?_, h.upd.trans hu fun q _ e => .inr ⟨y, hy, e⟩⟩
  rw [anyB_snoc]
  by_cases e : y = k
  · subst e; simp; exact hn
  · rw [decide_eq_false e, Bool.or_false]
    exact (h.cl k hk).upd hu fun e2 => e (hinj k y hk hy e2).symm
theorem BR.cell (h : BR w1 wr rb L b f ds) {y : ByteArray} (hy : hasK y L = true) : ∃ c : Ce, c.r = (f y).r ∧ c.turn = (f y).turn ∧ Blk wr (b y) 75 (ceCells c) := by
  have := h.cl y hy
  split at this
  · exact ⟨(f y).turn, rfl, rfl, this⟩
  · exact ⟨f y, rfl, rfl, this⟩
end
section
variable {T SS : Nat → Prop} {w w' : World} {g sg cm : Nat} {b : ByteArray → Nat} {A1 A2 : Option Addr} {c1 c2 : Nat} {z : Zg}
theorem dz_some {L : List Kv} {k : ByteArray} {v : Value} (h : Dz L b k = some v) : hasK k L = true ∧ v = .pointer (some ⟨b k, 0, none⟩) := by
  unfold Dz at h
  split at h
  · injection h with h; exact ⟨by assumption, h.symm⟩
  · cases h
theorem ZIn.begun {w2 w3 wr : World} {rb : Nat} {m : Int} {A : Option Addr} {c : Nat} {ds : List ByteArray} (h : ZIn T SS w g sg cm b A1 c1 A2 c2 z) (he : z.beginE m = 0)
    (h2 : Below w.heap.size w w2) (hown : w2.ownsRow w.heap.size 9 1 (.slice A z.s.L.length c) z.s.L.length (strs (z.s.L.map (·.1)))) (hu3 : Upd (fun q => q = g) w2 w3) (hsz : w3.heap.size = w2.heap.size)
    (hg : Blk w3 g 71 #[.int .i64 z.s.parts, .int .i64 z.s.room, .pointer (some ⟨sg, 0, none⟩), .map (some cm), .bool true, .int .i64 m, .slice A z.s.L.length c, .slice none 0 0])
    (hrb : rb = w3.heap.size) (hc : BR w3 wr rb z.s.L b z.f ds) (hall : ∀ k, hasK k z.s.L = true → anyB k ds = true) (hrl : rb < wr.heap.size) : ZGo T w g (z.begin m) wr := by
  have hz : z.begin m = { z with under := true, mark := m, left := z.s.L.map (·.1), taken := [], f := fun k => (z.f k).turn } := by unfold Zg.begin; rw [if_pos he]
  have hs2 := h2.size
  have hlt := h.lt
  have hgb : ∀ k, hasK k z.s.L = true → g ≠ b k := fun k hk => Blk.ne_ h.blk (h.cl k hk) (by decide)
  have hmb : ∀ k, hasK k z.s.L = true → cm ≠ b k := fun k hk => h.mp.ne_blk (h.cl k hk)
  have hgm : cm ≠ g := h.mp.ne_blk h.blk
  have hold : ∀ q, q < w.heap.size → q ≠ g → (∀ k, hasK k z.s.L = true → q ≠ b k) → wr.heap[q]? = w.heap[q]? := fun q hq hn hc' =>
    (hc.upd.block q (by omega) (fun e => e.elim (fun e => by omega) fun ⟨k, hk, e⟩ => hc' k hk e)).trans ((hu3.block q (by omega) hn).trans (h2.block q hq))
  have hsr := hc.upd.size
  have hlen : (z.s.L.map (·.1)).length = z.s.L.length := List.length_map _
  refine ⟨fun q => T q ∨ (w.heap.size ≤ q ∧ q < wr.heap.size), ⟨SS, sg, cm, b, A, c, none, 0, ?_⟩, fun q hq => hq.imp id And.left, fun q hq => .inl hq, ?_⟩
  · rw [hz]
    refine ⟨?_, ?_, ?_, fun k hk => ?_, h.inj, ?_, World.ownsRow_nil _ _ _ _, fun q hq => (by cases hq), ⟨.inl h.inT.1, .inl h.inT.2.1, fun k hk => .inl (h.inT.2.2.1 k hk), fun q hq => .inl (h.inT.2.2.2 q hq)⟩, h.nS, ?_, ?_, ?_, ?_⟩
    · have := hg.upd hc.upd (fun e => e.elim (fun e => by have := hg.lt; omega) fun ⟨k, hk, e⟩ => hgb k hk e)
      simp only [hlen]
      exact this
    · refine ((h.st.below h2).upd hu3 fun q hq e => h.nS.1 (e ▸ hq)).upd hc.upd fun q hq e => e.elim (fun e => ?_) fun ⟨k, hk, e⟩ => h.nS.2.2 k hk (e ▸ hq)
      have := h.st.lt q hq
      omega
    · exact h.mp.keep (hold cm h.mp.lt hgm hmb)
    · have := hc.cl k hk
      rw [hall k hk, if_pos rfl] at this
      exact this
    · have h1 := (Rd.of_own' hown).keep (w' := wr) fun q hq hl => ?_
      · rw [hlen]
        refine h1.more fun q hq hl => ⟨⟨.inr ⟨hq, hl⟩, fun hS => ?_, ?_, ?_, fun k hk => ?_⟩, by simp [Value.ownBlock]⟩
        · have := h.st.lt q hS; omega
        · have := h.blk.lt; omega
        · have := h.mp.lt; omega
        · have := (h.cl k hk).lt; omega
      · refine (hc.upd.block q (by omega) (fun e => e.elim (fun e => by omega) fun ⟨k, hk, e⟩ => by have := (h.cl k hk).lt; omega)).trans (hu3.block q hl fun e => by have := h.blk.lt; omega)
    · rintro q (hq | hq)
      · have := hlt q hq; omega
      · exact hq.2
    · refine ⟨?_, by simp⟩
      show (z.s.L.map (·.1)).length ≤ 1000000
      rw [hlen]
      have := h.ok.s.len
      omega
    · rw [hlen]
      obtain ⟨A9, c9, e9, h9, h10⟩ := own_form hown
      injection e9 with _ _ e9
      subst e9
      exact ⟨h9, by simp only [maxLen] at h10; omega⟩
    · have := Zg.begin_ok h.ok m
      rw [hz] at this
      exact this
  · exact (((Upd.of_below (M := T) h2 fun q hq hT => by omega).trans hu3 fun q _ e => e ▸ h.inT.1)).trans hc.upd fun q hq e => e.elim (fun e => by omega) fun ⟨k, hk, e⟩ => e ▸ h.inT.2.2.1 k hk
set_option maxRecDepth 100000 in
set_option maxHeartbeats 4000000 in
theorem zbegin_any (m : Int) (h : ZAt T w g z) : Calls Tryd.prog 14 #[.pointer (some ⟨g, 0, none⟩), .int .i64 m] w fun e w' => e = .returned (.int .i64 (z.beginE m)) ∧ ZGo T w g (z.begin m) w' := by
  have hst := h
  obtain ⟨SS, sg, cm, b, A1, c1, A2, c2, h⟩ := h
  by_cases hm : m < 0
  · have t1 : decide (m < 0) = true := decide_eq_true hm
    have he : z.beginE m = 2 := by unfold Zg.beginE; rw [if_pos hm]
    have hz : z.begin m = z := by unfold Zg.begin; rw [he]; rfl
    rw [he, hz]
    have hgo := hid (hst.go (Below.refl _ _))
    clear hm he hz h hst
    go_enter Tryd.func14, Tryd.ntmps14
    go_wp2_with fail
    go_ret
    exact ⟨rfl, hgo.out⟩
  have t1 : decide (m < 0) = false := decide_eq_false hm
  cases hu : z.under with
  | true =>
    have he : z.beginE m = 220 := by unfold Zg.beginE; rw [if_neg hm, if_pos hu]
    have hz : z.begin m = z := by unfold Zg.begin; rw [he]; rfl
    rw [he, hz]
    obtain ⟨_, _, _, _, x4, _⟩ := h.cells
    rw [hu] at x4
    have hgo := hid (hst.go (Below.refl _ _))
    clear hm he hz h hst hu
    go_enter Tryd.func14, Tryd.ntmps14
    go_wp2_with fail
    go_ret
    exact ⟨rfl, hgo.out⟩
  | false =>
    have he0 : z.beginE m = 0 := by unfold Zg.beginE; rw [if_neg hm, if_neg (by simp [hu])]
    have he := hid he0
    rw [he0]
    obtain ⟨_, _, x2, _, x4, _⟩ := h.cells
    rw [hu] at x4
    have hke := hid (keys_any h.st)
    have H := hid h
    clear hm h hst he0 hu
    go_enter Tryd.func14, Tryd.ntmps14
    go_wp2_with fail
    refine hke.out.mono ?_
    rintro e w2 ⟨A, c, rfl, hown0, hb20⟩
    have hown := hid hown0
    have hb2 := hid hb20
    have kg2 := H.out.blk.below_all hb20
    have hkg2 := hid kg2
    have v4 : w2.cell? ⟨g, 4, none⟩ = some (.bool z.under) := kg2.cell 4
    have v5 : w2.cell? ⟨g, 5, none⟩ = some (.int .i64 z.mark) := kg2.cell 5
    have v6 : w2.cell? ⟨g, 6, none⟩ = some (.slice A1 z.left.length c1) := kg2.cell 6
    have v7 : w2.cell? ⟨g, 7, none⟩ = some (.slice A2 z.taken.length c2) := kg2.cell 7
    have v3 : w2.cell? ⟨g, 3, none⟩ = some (.map (some cm)) := kg2.cell 3
    have fz := fun q => kg2.frozen q
    have hgl := kg2.lt
    clear hown0 hb20 kg2 hke x2 x4
    go_upto_region 8 with fail
    have k3 : Blk ((((w2.setCell ⟨g, 4, none⟩ (.bool true)).setCell ⟨g, 5, none⟩ (.int .i64 m)).setCell ⟨g, 6, none⟩ (.slice A z.s.L.length c)).setCell ⟨g, 7, none⟩ (.slice none 0 0)) g 71 #[.int .i64 z.s.parts, .int .i64 z.s.room, .pointer (some ⟨sg, 0, none⟩), .map (some cm), .bool true, .int .i64 m, .slice A z.s.L.length c, .slice none 0 0] := by
      simpa using (((hkg2.out.set_ 4 (.bool true)).set_ 5 (.int .i64 m)).set_ 6 (.slice A z.s.L.length c)).set_ 7 (.slice none 0 0)
    have hu3 : Upd (fun q => q = g) w2 ((((w2.setCell ⟨g, 4, none⟩ (.bool true)).setCell ⟨g, 5, none⟩ (.int .i64 m)).setCell ⟨g, 6, none⟩ (.slice A z.s.L.length c)).setCell ⟨g, 7, none⟩ (.slice none 0 0)) :=
      ((((Upd.refl (fun q => q = g) w2).setCell (p := ⟨g, 4, none⟩) (fun _ => rfl) _).setCell (p := ⟨g, 5, none⟩) (fun _ => rfl) _).setCell (p := ⟨g, 6, none⟩) (fun _ => rfl) _).setCell (p := ⟨g, 7, none⟩) (fun _ => rfl) _
    have hsz3 : Hid (((((w2.setCell ⟨g, 4, none⟩ (.bool true)).setCell ⟨g, 5, none⟩ (.int .i64 m)).setCell ⟨g, 6, none⟩ (.slice A z.s.L.length c)).setCell ⟨g, 7, none⟩ (.slice none 0 0)).heap.size = w2.heap.size) := hid (by simp [World.setCell])
    have hk3 := hid k3
    have hu3 := hid hu3
    clear k3 v3 v4 v5 v6 v7 fz hgl
    generalize (((w2.setCell ⟨g, 4, none⟩ (.bool true)).setCell ⟨g, 5, none⟩ (.int .i64 m)).setCell ⟨g, 6, none⟩ (.slice A z.s.L.length c)).setCell ⟨g, 7, none⟩ (.slice none 0 0) = w3 at *
    have x3 : w3.cell? ⟨g, 3, none⟩ = some (.map (some cm)) := hk3.out.cell 3
    have hmp3 : MapF strE w3 cm (Dz z.s.L b) := (H.out.mp.below hb2.out).upd hu3.out fun e => H.out.mp.ne_blk H.out.blk e
    obtain ⟨l, hml, hd⟩ := hmp3
    obtain ⟨es, clock, hes, hpr, hst⟩ := id hml
    have hrg := run_range_map (P := Tryd.prog) w3 68 9 72 cm es clock Tryd.underlying68 hes
    have hM := hid hml
    have hD := hid hd
    have hP := hid hpr
    have hS := hid hst
    have hE := hid hes
    have hV := hid hml.lt
    have hbl3 : Hid (∀ k, hasK k z.s.L = true → Blk w3 (b k) 75 (ceCells (z.f k))) := hid fun k hk => ((H.out.cl k hk).below_all hb2.out).upd hu3.out fun e => Blk.ne_ H.out.blk (H.out.cl k hk) (by decide) e.symm
    have hbn : Hid (∀ k, hasK k z.s.L = true → b k ≠ w3.heap.size) := hid fun k hk e => by have := (hbl3.out k hk).lt; omega
    have hmb : Hid (∀ k, hasK k z.s.L = true → cm ≠ b k) := hid fun k hk => H.out.mp.ne_blk (H.out.cl k hk)
    clear hml hd hpr hst hes
    go_wp2_with fail
    go_loopw [] (fun wr => ∃ (seen : Array Nat) (c0 : Nat) (ds : List ByteArray), wr.heap[w3.heap.size]? = some (.mapIter (some cm) clock seen c0) ∧ clock ≤ c0 ∧ BR w3 wr w3.heap.size z.s.L b z.f ds ∧ (doneOf es seen).Perm (ds.map fun k => (Value.string k, Value.pointer (some ⟨b k, 0, none⟩))) ∧ ∀ k ∈ ds, hasK k z.s.L = true) (fun wr => (leftOf es (wr.iterSeen w3.heap.size)).size)
    case atStart =>
      refine ⟨#[], clock, [], heap_alloc_new _ _, Nat.le_refl _, ⟨fun k hk => (hbl3.out k hk).alloc _, (Upd.refl _ _).alloc _⟩, by rw [done_none]; exact List.Perm.nil, fun k hk => (by cases hk)⟩
    case round =>
      clear hrg
      obtain ⟨seen, c0, ds, hr, hc0, hbr, hdone, hds⟩ := hrel
      have hesr : wr.heap[cm]? = some (.map es clock) := (hbr.upd.block _ hV.out (fun e => e.elim (fun e => by have := hV.out; omega) fun ⟨k, hk, e⟩ => hmb.out k hk e)).trans hE.out
      have hseen0 := hid (seen_of hr)
      rcases range_step (P := Tryd.prog) hr hesr hS.out hc0 with ⟨h0, hnx⟩ | ⟨e, wn, he9, hns, hsh, hun, hszn, hrn, hesn, hnx, hent⟩
      · have hall : ∀ k, hasK k z.s.L = true → anyB k ds = true := fun k hk => by
          have hg : getK k l = some (.pointer (some ⟨b k, 0, none⟩)) := by rw [hD.out]; unfold Dz; rw [if_pos hk]
          have hin := (getK_mem hM.out.nodup).1 hg
          have h1 : (Value.string k, Value.pointer (some ⟨b k, 0, none⟩)) ∈ encs strE l := List.mem_map.2 ⟨_, hin, rfl⟩
          rw [← hP.out, ← done_all h0] at h1
          have h2 := hdone.subset h1
          obtain ⟨j, hj, e⟩ := List.mem_map.1 h2
          injection e with e1 _
          injection e1 with e1
          unfold anyB
          rw [List.any_eq_true]
          exact ⟨j, hj, by simpa using e1⟩
        have hrl : w3.heap.size < wr.heap.size := (Array.getElem?_eq_some_iff.1 hr).1
        have hgo : Hid (ZGo T w g (z.begin m) wr) := hid (H.out.begun he.out hb2.out hown.out hu3.out hsz3.out hk3.out rfl hbr hall hrl)
        clear h0 hr hesr hbr hdone hds hall hrl
        go_wp2_with fail
        go_ret
        exact ⟨rfl, hgo.out⟩
      · obtain ⟨p, hp, hek, hev⟩ := done_list (E := strE) (w := w3) (b := cm) (clock := clock) hP.out he9
        have hget := (getK_mem hM.out.nodup).2 (show (p.1, p.2) ∈ l from hp)
        rw [hD.out] at hget
        obtain ⟨hdm, hev2⟩ := dz_some hget
        obtain ⟨y, hy⟩ : ∃ y, y = p.1 := ⟨_, rfl⟩
        rw [← hy] at hdm hev2
        have hek : e.key = .string y := by rw [hek, hy]; rfl
        have hev : e.val = .pointer (some ⟨b y, 0, none⟩) := by rw [hev, hev2]
        have hpush := (done_push hS.out.2.1 he9 hns).trans (hdone.cons _)
        rw [hek, hev] at hnx hent hpush
        have hbrn := hid (hbr.iter hbn.out hun)
        have hds := hid hds
        have hsh' := hid hsh
        have hpush := hid hpush
        have hdm := hid hdm
        have hrn := hid hrn
        clear hp hget hev2 hek hev hy hbr hdone hr hesr hun hesn he9 hns hsh hszn
        obtain ⟨cc, hcr, hct, hcb⟩ := hbrn.out.cell hdm.out
        have u6 : wn.cell? ⟨b y, 6, none⟩ = some (.int .i64 (bI cc.r)) := hcb.cell 6
        have u7 : wn.cell? ⟨b y, 7, none⟩ = some (.int .i64 (bI cc.w)) := hcb.cell 7
        have fz := fun q => hcb.frozen q
        have hbl := hcb.lt
        have hcb := hid hcb
        have hct := hid hct
        have hne9 : Hid (w3.heap.size ≠ b y) := hid fun e => hbn.out y hdm.out e.symm
        have hseen' : Hid (∀ u, (wn.setCell ⟨b y, 7, none⟩ u).heap[w3.heap.size]? = some (.mapIter (some cm) clock (seen.push e.born) clock)) := hid fun u => (Below.heap_setCell wn ⟨b y, 7, none⟩ u _ hne9.out).trans hrn.out
        cases hcr9 : cc.r with
        | false =>
          rw [hcr9] at u6
          have u6' : wn.cell? ⟨b y, 6, none⟩ = some (.int .i64 0) := u6
          have hfin : Hid (BR w3 (wn.setCell ⟨b y, 7, none⟩ (.int .i64 1)) w3.heap.size z.s.L b z.f (ds ++ [y])) := hid (by
            refine hbrn.out.turn H.out.inj hdm.out ((Upd.refl (fun q => q = b y) wn).setCell (p := ⟨b y, 7, none⟩) (fun _ => rfl) _) ?_
            rw [← hct.out]
            have h9 := hcb.out.set_ 7 (.int .i64 1)
            simpa [ceCells, Ce.turn, bI, hcr9] using h9)
          clear u6 hcr9
          go_wp2_with fail
          go_roundw
          case rel => exact ⟨seen.push e.born, clock, ds ++ [y], hseen'.out _, Nat.le_refl _, hfin.out, by rw [List.map_append]; exact hpush.out.trans (List.perm_append_singleton _ _).symm, fun k hk => (List.mem_append.1 hk).elim (hds.out k) fun h => by rw [List.mem_singleton.1 h]; exact hdm.out⟩
          case measure =>
            rw [seen_of (hseen'.out _), hseen0.out]
            exact hsh'.out
        | true =>
          rw [hcr9] at u6
          have u6' : wn.cell? ⟨b y, 6, none⟩ = some (.int .i64 1) := u6
          have hfin : Hid (BR w3 (wn.setCell ⟨b y, 7, none⟩ (.int .i64 0)) w3.heap.size z.s.L b z.f (ds ++ [y])) := hid (by
            refine hbrn.out.turn H.out.inj hdm.out ((Upd.refl (fun q => q = b y) wn).setCell (p := ⟨b y, 7, none⟩) (fun _ => rfl) _) ?_
            rw [← hct.out]
            have h9 := hcb.out.set_ 7 (.int .i64 0)
            simpa [ceCells, Ce.turn, bI, hcr9] using h9)
          clear u6 hcr9
          go_wp2_with fail
          go_roundw
          case rel => exact ⟨seen.push e.born, clock, ds ++ [y], hseen'.out _, Nat.le_refl _, hfin.out, by rw [List.map_append]; exact hpush.out.trans (List.perm_append_singleton _ _).symm, fun k hk => (List.mem_append.1 hk).elim (hds.out k) fun h => by rw [List.mem_singleton.1 h]; exact hdm.out⟩
          case measure =>
            rw [seen_of (hseen'.out _), hseen0.out]
            exact hsh'.out
end
end Go.Proofs.YtefigpmkiemfhaaDoor

