/- store: Keys. -/
import Derived.Test.YtnbbdjbjbjlcpaaDoorSKeysS
import Derived.Test.YtnbbdjbjbjlcpaaDoorSView
namespace Go.Proofs.YtnbbdjbjbjlcpaaDoor
open Go.RowKit
set_option linter.unusedVariables false
set_option linter.unusedSimpArgs false

theorem info_strK : (Tryd.prog.info? 9).map (fun i => (i.zero, i.size, i.bytes)) = some (some (.string ⟨#[]⟩), 1, 16) := by kernel_rfl
theorem strs_snoc (l : List ByteArray) (k : ByteArray) : strs (l ++ [k]) = strs l ++ [.string k] := by simp [strs]
theorem keysTo_len {n i : Nat} {L : List Kv} (hL : L.length ≤ 262144) : (keysTo n i L).length ≤ 262144 := by
  unfold keysTo
  rw [List.length_map]
  exact Nat.le_trans (List.length_filter_le _ _) hL
theorem own_updC {M : Nat → Prop} {w w' : World} {base : Nat} {e : TypeId} {size n : Nat} {v : Value} {xs : List Value} (h : w.ownsRow base e size v n xs) (hu : Upd M w w') (hM : ∀ k, M k → ∃ a b c d, w.heap[k]? = some (.mapIter a b c d)) : w'.ownsRow base e size v n xs := by
  refine ⟨h.1, ?_⟩
  rcases h.2 with hn | ⟨g, cap, cur, rfl, hg, hh, rest⟩
  · exact .inl hn
  · have hl : g < w.heap.size := (Array.getElem?_eq_some_iff.1 hh).1
    exact .inr ⟨g, cap, cur, rfl, hg, (hu.block g hl fun hm => by obtain ⟨_, _, _, _, h1⟩ := hM g hm; rw [hh] at h1; cases h1).trans hh, rest⟩
theorem own_not {w : World} {base b : Nat} {e : TypeId} {size n : Nat} {v : Value} {xs : List Value} {m : Option Nat} {a d : Nat} {q : Array Nat} (h : w.ownsRow base e size v n xs) (hb : w.heap[b]? = some (.mapIter m a q d)) : v.ownBlock ≠ some b := by
  intro e
  rcases h.2 with ⟨rfl, _⟩ | ⟨g, cap, cur, rfl, hg, hh, rest⟩
  · cases e
  · injection e with e
    simp only at e
    rw [e, hb] at hh; cases hh
section
variable {S : Nat → Prop} {w : World} {g : Nat} {s : St}
set_option maxRecDepth 100000 in
set_option maxHeartbeats 4000000 in
theorem keys_any (h : PAt S w g s) : Calls Tryd.prog 22 #[.pointer (some ⟨g, 0, none⟩)] w fun e w' => ∃ A c, e = .returned (.slice A s.L.length c) ∧ w'.ownsRow w.heap.size 9 1 (.slice A s.L.length c) s.L.length (strs (s.L.map (·.1))) ∧ Below w.heap.size w w' := by
  obtain ⟨cb, cc, mb, vb, h⟩ := h
  have HH := hid h
  have c1 := h.cells.2.1
  obtain ⟨i0, hi0, hz0, hz1, hz2⟩ := info_parts info_strK
  have hlen := hid h.ok.len
  have hpr := hid h.ok.parts
  have hP : (s.parts : Int) ≤ 64 := by have := h.ok.parts; omega
  clear h
  go_enter Tryd.func22, Tryd.ntmps22
  go_wp2_with fail
  go_loopw [3, 14] (fun u v wr => ∃ (i : Nat) (out : List ByteArray) (A : Option Addr) (c : Nat), u = .slice A out.length c ∧ v = .int .i64 i ∧ i ≤ s.parts ∧ wr.ownsRow w.heap.size 9 1 (.slice A out.length c) out.length (strs out) ∧ Below w.heap.size w wr ∧ out.Perm (keysTo s.parts i s.L)) (fun _ v _ => s.parts - (intOf v).toNat)
  case atStart => exact ⟨0, [], none, 0, rfl, rfl, Nat.zero_le _, World.ownsRow_nil _ _ _ _, Below.refl _ _, by rw [keysTo_zero]⟩
  case round =>
    obtain ⟨i, out, A, c, rfl, rfl, hi, hown0, hb0, hpm0⟩ := hrel
    have hO := hid hown0
    have hB := hid hb0
    have hpm := hid hpm0
    have hol := hid (show out.length ≤ 262144 by rw [hpm0.length_eq]; exact keysTo_len hlen.out)
    by_cases hlt : i < s.parts
    · have i1 : (i : Int) < (s.parts : Int) := by omega
      obtain ⟨l, hml, hd⟩ := HH.out.cl i hlt
      obtain ⟨es, clock, hes, hprs, hst⟩ := id hml
      have hlm := hid (HH.out.lt _ (HH.out.inS.2.2.2 i hlt))
      have hesr0 : wr.heap[mb i]? = some (.map es clock) := (hb0.block _ hlm.out).trans hes
      have hrg := run_range_map (P := Tryd.prog) wr 60 9 3 (mb i) es clock Tryd.underlying60 hesr0
      have y0 : wr.cell? ⟨cb, i, none⟩ = some (.map (some (mb i))) := ((Upd.of_below (M := fun j => w.heap.size ≤ j) hb0 fun _ _ h => h).cell (HH.out.rowc i hlt) (by have := HH.out.lt _ HH.out.inS.2.1; omega))
      have hM := hid hml
      have hD := hid hd
      have hPr := hid hprs
      have hS := hid hst
      have hE := hid hes
      have hll := hid (show l.length ≤ 262144 by rw [claims_len HH.out.ok.asc hml hd]; unfold keysP; rw [List.length_map]; exact Nat.le_trans (List.length_filter_le _ _) hlen.out)
      have hsum := hid (show ∀ new : List ByteArray, new.length ≤ l.length → (out ++ new).length ≤ 524288 from fun new hn => by have := hol.out; have := hll.out; simp; omega)
      clear hml hd hprs hst hes hown0 hb0 hpm0 hesr0
      go_wp2_with fail
      rename World => W1
      clear hrg y0 c1
      have hitl := hid hB.out.size
      go_loopw [3] (fun v wr => ∃ (seen : Array Nat) (c0 : Nat) (new : List ByteArray) (A : Option Addr) (c : Nat), v = .slice A (out ++ new).length c ∧ wr.heap[W1.heap.size]? = some (.mapIter (some (mb i)) clock seen c0) ∧ clock ≤ c0 ∧ wr.ownsRow w.heap.size 9 1 (.slice A (out ++ new).length c) (out ++ new).length (strs (out ++ new)) ∧ Below w.heap.size w wr ∧ (doneOf es seen).Perm (new.map encK)) (fun _ wr => (leftOf es (wr.iterSeen W1.heap.size)).size)
      case atStart => exact ⟨#[], clock, [], A, c, by rw [List.append_nil], heap_alloc_new _ _, Nat.le_refl _, by rw [List.append_nil]; exact hO.out.alloc _, hB.out.alloc hB.out.size _, by rw [done_none]; exact List.Perm.nil⟩
      case round =>
        obtain ⟨seen, c0, new, A2, c2, rfl, hr, hc0, hown, hB0, hdone⟩ := hrel
        have hesr := (hB0.block _ hlm.out).trans hE.out
        have hseen0 := hid (seen_of hr)
        have hnl : new.length ≤ l.length := by
          have h1 := hdone.length_eq
          have h2 := done_le (E := strE) (seen := seen) hPr.out
          simp at h1
          omega
        have hol2 := hid (hsum.out new hnl)
        clear hnl
        rcases range_step (P := Tryd.prog) hr hesr hS.out hc0 with ⟨h0, hnx⟩ | ⟨e, wn, he, hns, hsh, hun, hszn, hrn, hesn, hnx, hent⟩
        · have hperm : new.Perm (keysP s.parts i s.L) := done_claims HH.out.ok.asc hM.out hD.out hPr.out (by rw [← done_all h0]; exact hdone)
          have hpm2 := hid ((hpm.out.append hperm).trans (keysTo_step s.parts i s.L))
          have hB2 := hid hB0
          have hO2 := hid hown
          have hj : IntKind.i64.wrap ((i : Int) + 1) = (i : Int) + 1 := by rw [IntKind.wrap_i64]; omega
          generalize out ++ new = out2 at *
          clear hperm h0 hr hesr hown hB0 hdone hsum
          go_wp2_with fail
          go_roundw
          case rel => exact ⟨i + 1, out2, A2, c2, rfl, by simp, hlt, hO2.out, hB2.out, hpm2.out⟩
          case measure => simp [intOf]; omega
        · obtain ⟨p, hp, hek, hev⟩ := done_list (E := strE) (w := w) (b := mb i) (clock := clock) hPr.out he
          have hget := (getK_mem hM.out.nodup).2 (show (p.1, p.2) ∈ l from hp)
          rw [hD.out] at hget
          obtain ⟨y, hy⟩ : ∃ y, y = p.1 := ⟨_, rfl⟩
          have hek : e.key = .string y := by rw [hek, hy]; rfl
          have hev : e.val = .int .i64 1 := by
            rw [hev]
            unfold Dc at hget
            split at hget
            · injection hget with hget; exact hget.symm
            · cases hget
          have hpush := hid ((done_push hS.out.2.1 he hns).trans (hdone.cons _))
          rw [hek, hev] at hnx hent hpush
          have hownn : wn.ownsRow w.heap.size 9 1 (.slice A2 (out ++ new).length c2) (out ++ new).length (strs (out ++ new)) := own_updC hown hun fun k e => ⟨_, _, _, _, (congrArg (fun j => wr.heap[j]?) (show k = W1.heap.size from e)).trans hr⟩
          have hBn : Below w.heap.size w wn := hB0.trans (hun.below (B := w.heap.size) hB0.size fun k hk e => by have := hitl.out; omega)
          have hHB := hid hBn
          have hHO := hid hownn
          have hHr := hid hrn
          have hsh' := hid hsh
          clear hp hget hek hev hy hown hB0 hdone hr hesr hun hrn hesn hBn hownn he hns hsh hszn hsum
          have hlo := hid (show (out ++ new).length + 1 ≤ 1000000 by have := hol2.out; omega)
          have hne := hid (own_not hHO.out hHr.out)
          have hrl := hid (show W1.heap.size < wn.heap.size from (Array.getElem?_eq_some_iff.1 hHr.out).1)
          go_wp2_with (
            at_builtin
            refine wpList_append_rd _ rfl (.tmp 24) (.tmp 26) 32 rfl w.heap.size 9 i0 _ 1 16 Tryd.underlying32 hi0 hz0 hz1 hz2 rfl (by omega) (.slice A2 (out ++ new).length c2) (out ++ new).length (strs (out ++ new)) rfl (hHO.out.alloc _) (fun b => b = wn.heap.size) (some ⟨wn.heap.size, 0, none⟩) 1 1 [.string y] rfl (Rd.new _ 9 1 1 #[.string y] _ rfl rfl) (by simp [Value.oneCell']) (by have := hlo.out; simp only [maxLen]; omega) (by have := hlo.out; omega) (by have h1 := hHB.out.size; simp; omega) ?_
            intro v3 w3 hown3 hg3 hat3
            obtain ⟨A3, c3, rfl, hc3, _⟩ := own_form hown3)
          have hr3 : w3.heap[W1.heap.size]? = some (.mapIter (some (mb i)) clock (seen.push e.born) clock) := (hg3.block _ (by have := hrl.out; simp; omega) (Ne.symm hne.out)).trans ((Below.heap_alloc _ _ _ hrl.out).trans hHr.out)
          go_roundw
          case rel =>
            refine ⟨seen.push e.born, clock, new ++ [y], A3, c3, by simp [Nat.add_assoc], hr3, Nat.le_refl _, ?_, ?_, ?_⟩
            · rw [← List.append_assoc, strs_snoc, List.length_append]; exact hown3
            · exact (hHB.out.alloc hHB.out.size _).grown hg3 (by have := hHB.out.size; simp; omega) fun k hk => (hHO.out.lt k hk).1
            · rw [List.map_append]
              exact hpush.out.trans (List.perm_append_comm (l₁ := [encK y]) (l₂ := new.map encK))
          case measure =>
            rw [seen_of hr3, hseen0.out]
            exact hsh'.out
    · obtain rfl : i = s.parts := by omega
      have hso := hid (sortk_any (c := c) out s.L wr HH.out.ok.asc (by rw [← keysTo_all (n := s.parts) (by have := hpr.out; omega)]; exact hpm.out) hol.out hO.out)
      have hln := hid (show out.length = s.L.length by have := hpm.out.length_eq; rw [keysTo_all (by have := hpr.out; omega)] at this; simpa using this)
      clear hlt hown0 hb0 hpm0 c1
      generalize s.parts = np at *
      go_wp2_with fail
      refine hso.out.mono ?_
      rintro e w3 ⟨rfl, hown3, hg3⟩
      have hfin : Hid (w3.ownsRow w.heap.size 9 1 (.slice A out.length c) out.length (strs (s.L.map (·.1))) ∧ Below w.heap.size w w3) := hid ⟨hown3, hB.out.grown hg3 hB.out.size fun k hk => (hO.out.lt k hk).1⟩
      clear hown3 hg3
      go_wp2_with fail
      go_ret
      rw [hln.out] at hfin ⊢
      exact ⟨A, c, rfl, hfin.out.1, hfin.out.2⟩
end
end Go.Proofs.YtnbbdjbjbjlcpaaDoor
