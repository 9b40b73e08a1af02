/- The document's store: Dump. -/
import Derived.Test.YtnbbdjbjbjlcpaaSRAt
import Derived.Test.YtnbbdjbjbjlcpaaSDump
import Derived.Test.YtnbbdjbjbjlcpaaSClaimP
namespace Go.Proofs.Ytnbbdjbjbjlcpaa
open Go.RowKit
set_option linter.unusedVariables false
set_option linter.unusedSimpArgs false

theorem dumpL_snoc (L : List Kv) (x : Kv) : dumpL (L ++ [x]) = dumpL L ++ (if x.2.k = 0 then [] else [x]) := by
  unfold dumpL
  rw [List.filter_append]
  by_cases h : x.2.k = 0 <;> simp [h]
section
variable {S : Nat → Prop} {w w' : World} {r : Nat} {s : St}
set_option maxRecDepth 100000 in
set_option maxHeartbeats 4000000 in
theorem rdump_any (h : RAt S w r s) : Calls Try.prog 7 #[.pointer (some ⟨r, 0, none⟩)] w fun e w' => ∃ A c, e = .returned (.slice A (dumpL s.L).length c) ∧ w'.ownsRow w.heap.size 39 4 (.slice A (dumpL s.L).length c) (dumpL s.L).length (kvCells (dumpL s.L)) ∧ Below w.heap.size w w' := by
  obtain ⟨B, d, h⟩ := h
  have HH := hid h
  have hlen := hid h.ok.len
  obtain ⟨ip, hip, hp0, hp1, hp2⟩ := info_parts info_item
  clear h
  go_enter Try.func7, Try.ntmps7
  go_wp2_with fail
  go_loopw [3, 4] (fun u v wr => ∃ (k : Nat) (out : List Kv) (A : Option Addr) (c : Nat), u = .slice A out.length c ∧ v = .int .i64 k ∧ k ≤ s.L.length ∧ out = dumpL (s.L.take k) ∧ wr.ownsRow w.heap.size 39 4 (.slice A out.length c) out.length (kvCells out) ∧ Below w.heap.size w wr) (fun u v _ => s.L.length - (intOf v).toNat)
  case atStart => exact ⟨0, [], none, 0, rfl, rfl, Nat.zero_le _, rfl, World.ownsRow_nil _ _ _ _, Below.refl _ _⟩
  case round =>
    obtain ⟨k, out, A, c, rfl, rfl, hk, ho0, hown0, hB0⟩ := hrel
    have ho := hid ho0
    have hown := hid hown0
    have hB := hid hB0
    clear ho0 hown0 hB0
    have hP := HH.out.below hB.out
    have d2 : wr.cell? ⟨r, 2, none⟩ = some (.slice B s.L.length d) := hP.cells.2.2
    by_cases hlt : k < s.L.length
    · have i1 : (k : Int) < (s.L.length : Int) := by omega
      have hl9 : (s.L.length : Int) ≤ 262144 := by have := hlen.out; omega
      obtain ⟨b, o, rfl, _, _, x0, x1, x2, x3⟩ := rd_kv hP.rd hlt
      have htk := hid (take_snoc hlt)
      obtain ⟨x, hx⟩ : ∃ x, x = s.L[k] := ⟨_, rfl⟩
      rw [← hx] at x0 x1 x2 x3 htk
      have hol : Hid (out.length ≤ 262144) := hid (by
        have h1 : out.length ≤ (s.L.take k).length := by rw [ho.out]; exact List.length_filter_le _ _
        have := hlen.out
        simp at h1; omega)
      clear hP hx
      by_cases hz : x.2.k = 0
      · have tz : (x.2.k != 0) = false := by simp [hz]
        have hn : Hid (out = dumpL (s.L.take (k + 1))) := hid (by rw [htk.out, dumpL_snoc, if_pos hz, ho.out]; simp)
        clear hz
        go_wp2_with fail
        go_roundw
        case rel => exact ⟨k + 1, out, A, c, rfl, by go_num, hlt, hn.out, hown.out, hB.out⟩
        case measure => simp [intOf]; omega
      · have tz : (x.2.k != 0) = true := by simp [hz]
        have hn : Hid (out ++ [x] = dumpL (s.L.take (k + 1))) := hid (by rw [htk.out, dumpL_snoc, if_neg hz, ho.out])
        clear hz
        go_wp2_with (
          at_builtin
          refine wpList_append_rd _ rfl (.tmp 24) (.tmp 32) 31 rfl w.heap.size 39 ip _ 4 48 Try.underlying31 hip hp0 hp1 hp2 rfl (by omega) (.slice A out.length c) out.length (kvCells out) rfl (hown.out.alloc _) (fun b => b = wr.heap.size) (some ⟨wr.heap.size, 0, none⟩) 1 1 (encI x) rfl (Rd.new _ 39 4 1 (encI x).toArray _ rfl rfl) (encI_one _) (by have := hol.out; simp only [maxLen]; omega) (by have := hol.out; omega) (by have h1 := hB.out.size; simp; omega) ?_
          intro v3 w3 hown3 hg3 hat3
          obtain ⟨A3, c3, rfl, hc3, _⟩ := own_form hown3)
        go_roundw
        case rel => exact ⟨k + 1, out ++ [x], A3, c3, by simp, by go_num, hlt, hn.out, by rw [kvCells_snoc, List.length_append]; exact hown3, (hB.out.alloc hB.out.size _).grown hg3 (by have := hB.out.size; simp; omega) fun q hq => (hown.out.lt q hq).1⟩
        case measure => simp [intOf]; omega
    · obtain rfl : k = s.L.length := by omega
      have hn : Hid (out = dumpL s.L) := hid (by rw [ho.out, List.take_length])
      clear hP
      go_wp2_with fail
      go_ret
      rw [← hn.out]
      exact ⟨A, c, rfl, hown.out, hB.out⟩
end
end Go.Proofs.Ytnbbdjbjbjlcpaa
