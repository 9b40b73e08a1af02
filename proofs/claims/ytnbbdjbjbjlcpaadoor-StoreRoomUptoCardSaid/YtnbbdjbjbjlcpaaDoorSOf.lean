/- store: of, Claimed, Get, a view's Get. -/
import Derived.Test.YtnbbdjbjbjlcpaaDoorSData
import Derived.Test.YtnbbdjbjbjlcpaaDoorSFoot
namespace Go.Proofs.YtnbbdjbjbjlcpaaDoor
open Go.RowKit
set_option linter.unusedVariables false
set_option linter.unusedSimpArgs false

section
variable {S : Nat → Prop} {w w' : World} {g cb cc vb : Nat} {mb : Nat → Nat} {s : St}
theorem PIn.drewN (h : PIn S w g s cb cc mb vb) (q : Nat) : PIn S (w.drewN q) g s cb cc mb vb := h.keep (fun _ _ => rfl) (Nat.le_refl _)
theorem PAt.drewN (h : PAt S w g s) (q : Nat) : PAt S (w.drewN q) g s := by obtain ⟨_, _, _, _, h⟩ := h; exact ⟨_, _, _, _, h.drewN q⟩
set_option maxRecDepth 100000 in
set_option maxHeartbeats 1000000 in
theorem of_any (k : ByteArray) (h : PIn S w g s cb cc mb vb) (hk : k.size ≤ 9223372036854775806) : Calls Tryd.prog 33 #[.pointer (some ⟨g, 0, none⟩), .string k] w fun e w' => e = .returned (.map (some (mb (partK s.parts k)))) ∧ ∃ q, w' = w.drewN q := by
  have hp := h.ok.parts
  have hpl := partK_lt k (show 0 < s.parts by omega)
  have c1 := h.cells.2.1
  have r1 := h.rowc _ hpl
  have hpa := hid fun w => part_any k s.parts w hk hp.1 hp.2
  have hpi : ((partK s.parts k : Nat) : Int) < (s.parts : Int) := by omega
  generalize partK s.parts k = p at *
  clear h hp hpl
  go_enter Tryd.func33, Tryd.ntmps33
  go_wp2_with fail
  go_region_held3 (fun w' => w'.cell? ⟨g, 1, none⟩ = some (.slice (some ⟨cb, 0, none⟩) s.parts cc) ∧ w'.cell? ⟨cb, p, none⟩ = some (.map (some (mb p)))) (go_keep)
    ((go_at_call 32; refine (hpa.out _).mono ?_; rintro e wb ⟨rfl, hwb⟩; obtain rfl := hwb.symm))
  all_goals
    go_wp2_with fail
    go_ret
    first | exact ⟨rfl, 1, rfl⟩ | exact ⟨rfl, 0, rfl⟩ | exact ⟨rfl, _, rfl⟩
set_option maxRecDepth 100000 in
set_option maxHeartbeats 1000000 in
theorem claimed_any (k : ByteArray) (h : PAt S w g s) (hk : k.size ≤ 9223372036854775806) : Calls Tryd.prog 13 #[.pointer (some ⟨g, 0, none⟩), .string k] w fun e w' => e = .returned (.bool (hasK k s.L)) ∧ ∃ q, w' = w.drewN q := by
  obtain ⟨cb, cc, mb, vb, h⟩ := h
  have ho := hid (of_any k h hk)
  have hlk0 := fun q => (h.drewN q).claimed k rfl
  cases hh : hasK k s.L with
  | true =>
    have hlk : ∀ q, _ := fun q => by have := hlk0 q; rw [hh, if_pos rfl] at this; exact this
    clear hlk0 h hk hh
    generalize mb (partK s.parts k) = m at *
    go_enter Tryd.func13, Tryd.ntmps13
    go_wp2_with fail
    refine ho.out.mono ?_
    rintro e w2 ⟨rfl, q, rfl⟩
    have hl := hlk q
    go_wp2_with fail
    go_ret
    exact ⟨rfl, q, rfl⟩
  | false =>
    have hlk : ∀ q, _ := fun q => by have := hlk0 q; rw [hh, if_neg (by simp)] at this; exact this
    clear hlk0 h hk hh
    generalize mb (partK s.parts k) = m at *
    go_enter Tryd.func13, Tryd.ntmps13
    go_wp2_with fail
    refine ho.out.mono ?_
    rintro e w2 ⟨rfl, q, rfl⟩
    have hl := hlk q
    go_wp2_with fail
    go_ret
    exact ⟨rfl, q, rfl⟩
set_option maxRecDepth 100000 in
theorem get_any (k : ByteArray) (h : PAt S w g s) : Calls Tryd.prog 19 #[.pointer (some ⟨g, 0, none⟩), .string k] w fun e w' => e = .returned (.agg #[.int .i64 (valK k s.L).k, .int .i64 (valK k s.L).n, .string (valK k s.L).s]) ∧ Below w.heap.size w w' := by
  obtain ⟨cb, cc, mb, vb, h⟩ := h
  have hB : Below w.heap.size w (w.alloc (.cells #[.int .i64 0, .int .i64 0, .string ⟨#[]⟩] 50)) := (Below.refl _ _).alloc (Nat.le_refl _) _
  have h2 := h.below hB
  have hl := h2.get k
  have c2 := h2.cells.2.2
  generalize (valK k s.L).k = a at *
  generalize (valK k s.L).n = b at *
  generalize (valK k s.L).s = c at *
  clear h h2 hB
  go_enter Tryd.func19, Tryd.ntmps19
  go_wp2_with fail
  refine bodyPost_ret (v := .agg #[.int .i64 a, .int .i64 b, .string c]) ?_ rfl ?_
  · exact results_cell_row (P := Tryd.prog) rfl _ _ w.heap.size 50 _ (0, 0) _ rfl (Blk.new w _ _) Tryd.underlying50 rfl (by kernel_rfl)
  · exact ⟨rfl, (Below.refl _ _).alloc (Nat.le_refl _) _⟩
end
end Go.Proofs.YtnbbdjbjbjlcpaaDoor
