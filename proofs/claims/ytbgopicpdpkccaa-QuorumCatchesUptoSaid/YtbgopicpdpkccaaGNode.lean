/- quorum: node, slot, state. -/
import Derived.Test.YtbgopicpdpkccaaGSend
import Derived.Test.YtbgopicpdpkccaaGNew
namespace Go.Proofs.Ytbgopicpdpkccaa
open Go.RowKit
set_option linter.unusedVariables false
set_option linter.unusedSimpArgs false

def Gr.at_ (G : Gr) (i : Nat) (s : Int) : Sl := (getA s (G.nd i).sl).getD sl0
def Gr.touch (G : Gr) (i : Nat) (s : Int) : Gr := if (getA s (G.nd i).sl).isSome then G else G.setSl i s sl0
theorem zero_sptr (w : World) : (zeroValue 79).run Try.prog w = .ok (.pointer none) w := by kernel_rfl
theorem getK_mapk {α : Type} (f : Int → α → Value) (k : Int) : ∀ (l : List (Int × α)), getK k (l.map fun p => (p.1, f p.1 p.2)) = (getA k l).map (f k) := by
  have : ∀ (l : List (Int × α)) (i : Nat), (look k (l.map fun p => (p.1, f p.1 p.2)) i).map (·.2) = (getA k l).map (f k) := by
    intro l
    induction l with
    | nil => intro i; rfl
    | cons p l ih =>
      intro i
      simp only [List.map_cons, look, getA]
      by_cases e : k = p.1
      · simp [e]
      · simp [e, ih]
  exact fun l => this l 0
section
variable {S : Nat → Prop} {w w' : World} {g : Nat} {An Am : Option Addr} {cn cm : Nat} {G : Gr} {a : Ad}
theorem node_yes (i : Nat) (h : GIn S w g An cn Am cm G a) (hi : i < G.nds.length) : Calls Try.prog 35 #[.pointer (some ⟨g, 0, none⟩), .int .i64 i] w fun e w' => e = .returned (.tuple #[.pointer (some ⟨a.nb i, 0, none⟩), .bool true]) ∧ w' = w := by
  obtain ⟨c0, c1⟩ := h.cells
  obtain ⟨b, o, rfl, hb, x⟩ := h.ptr hi
  have t1 : decide ((i : Int) < 0) = false := by simp
  have t2 : decide ((G.nds.length : Int) ≤ (i : Int)) = false := decide_eq_false (by omega)
  have t3 : decide (G.nds.length ≤ i) = false := decide_eq_false (by omega)
  have i1 : (i : Int) < (G.nds.length : Int) := by omega
  clear h
  go_enter Try.func35, Try.ntmps35
  go_wp2_with fail
  go_ret2
  exact ⟨rfl, rfl⟩
theorem node_no (n : Int) (h : GIn S w g An cn Am cm G a) (hn : n < 0 ∨ (G.nds.length : Int) ≤ n) : Calls Try.prog 35 #[.pointer (some ⟨g, 0, none⟩), .int .i64 n] w fun e w' => e = .returned (.tuple #[.pointer none, .bool false]) ∧ w' = w := by
  obtain ⟨c0, c1⟩ := h.cells
  clear h
  by_cases h0 : n < 0
  · have t1 : decide (n < 0) = true := decide_eq_true h0
    clear h0 hn
    go_enter Try.func35, Try.ntmps35
    go_wp2_with fail
    go_ret2
    exact ⟨rfl, rfl⟩
  · have t1 : decide (n < 0) = false := decide_eq_false h0
    have t2 : decide ((G.nds.length : Int) ≤ n) = true := decide_eq_true (by omega)
    clear h0 hn
    go_enter Try.func35, Try.ntmps35
    go_wp2_with fail
    go_ret2
    exact ⟨rfl, rfl⟩
set_option maxRecDepth 100000 in
set_option maxHeartbeats 1000000 in
/-- the slot of a node: it is made, if it is not there -/
theorem slot_any (i : Nat) (s : Int) (h : GIn S w g An cn Am cm G a) (hi : i < G.nds.length) : Calls Try.prog 38 #[.pointer (some ⟨a.nb i, 0, none⟩), .int .i64 s] w
    fun e w' => ∃ S' a', (e = .returned (.pointer (some ⟨a'.sb i s, 0, none⟩)) ∧ ∀ k, S' k → S k ∨ w.heap.size ≤ k) ∧ GIn S' w' g An cn Am cm (G.touch i s) a' ∧ getA s ((G.touch i s).nd i).sl = some (G.at_ i s) ∧ Upd S w w' := by
  obtain ⟨n1, n2, n3, n4, ho⟩ := h.nd i hi
  have x1 : w.cell? ⟨a.nb i, 1, none⟩ = some (.map (some (a.mb i))) := n1.cell 1
  have hnl := n1.lt
  cases hg : getA s (G.nd i).sl with
  | some x =>
    have hlk : (Instr.lookup 65 (.map (some (a.mb i))) (.int .i64 s) true).run Try.prog w = .ok (.tuple #[.pointer (some ⟨a.sb i s, 0, none⟩), .bool true]) w := by
      have := n4.lookup_ok Try.underlying65 zero_sptr s
      rw [getK_mapk (fun t _ => Value.pointer (some ⟨a.sb i t, 0, none⟩)), hg] at this
      exact this
    have ht : G.touch i s = G := by unfold Gr.touch; rw [hg]; rfl
    have hx : G.at_ i s = x := by unfold Gr.at_; rw [hg]; rfl
    rw [ht, hx, hg]
    have hh := hid h
    clear h n1 n4 ho hg ht hx
    go_enter Try.func38, Try.ntmps38
    go_wp2_with fail
    go_ret
    exact ⟨S, a, ⟨by first | rfl | trivial, fun _ h => .inl h⟩, hh.out, by first | rfl | trivial, Upd.refl _ _⟩
  | none =>
    have hlk : (Instr.lookup 65 (.map (some (a.mb i))) (.int .i64 s) true).run Try.prog w = .ok (.tuple #[.pointer none, .bool false]) w := by
      have := n4.lookup_ok Try.underlying65 zero_sptr s
      rw [getK_mapk (fun t _ => Value.pointer (some ⟨a.sb i t, 0, none⟩)), hg] at this
      exact this
    have ht : G.touch i s = G.setSl i s sl0 := by unfold Gr.touch; rw [hg]; rfl
    have hx : G.at_ i s = sl0 := by unfold Gr.at_; rw [hg]; rfl
    have hgt : getA s ((G.setSl i s sl0).nd i).sl = some sl0 := by
      unfold Gr.setSl
      rw [Gr.nd_set _ _ _ _ hi, if_pos rfl]
      show getA s (setA s sl0 (G.nd i).sl) = _
      rw [getA_set, if_pos rfl]
    have hB : Below w.heap.size w (w.alloc (.cells #[.int .i64 0, .int .i64 0, .int .i64 0, .int .i64 0, .int .i64 0, .string ⟨#[]⟩, .bool false, .string ⟨#[]⟩, .pointer none] 74)) := (Below.refl _ _).alloc (Nat.le_refl _) _
    have kb := Blk.new w 74 #[.int .i64 0, .int .i64 0, .int .i64 0, .int .i64 0, .int .i64 0, .string ⟨#[]⟩, .bool false, .string ⟨#[]⟩, .pointer none]
    have y1 : (w.alloc (.cells #[.int .i64 0, .int .i64 0, .int .i64 0, .int .i64 0, .int .i64 0, .string ⟨#[]⟩, .bool false, .string ⟨#[]⟩, .pointer none] 74)).cell? ⟨a.nb i, 1, none⟩ = some (.map (some (a.mb i))) := (n1.below_all hB).cell 1
    obtain ⟨w2, hrun0, hm2, hg2, hz2⟩ := (n4.below hB).update Try.underlying65 s (.pointer (some ⟨w.heap.size, 0, none⟩))
    have hrun : (Instr.mapUpdate 65 (.map (some (a.mb i))) (.int .i64 s) (.pointer (some ⟨w.heap.size, 0, none⟩))).run Try.prog (w.alloc (.cells #[.int .i64 0, .int .i64 0, .int .i64 0, .int .i64 0, .int .i64 0, .string ⟨#[]⟩, .bool false, .string ⟨#[]⟩, .pointer none] 74)) = .ok () w2 := hrun0
    have hu2 : Upd (fun k => k = a.mb i) (w.alloc (.cells #[.int .i64 0, .int .i64 0, .int .i64 0, .int .i64 0, .int .i64 0, .string ⟨#[]⟩, .bool false, .string ⟨#[]⟩, .pointer none] 74)) w2 := (Upd.refl _ _).grown hg2 fun k hk _ => by injection hk with hk; exact hk.symm
    have hu : Upd (fun k => k = a.mb i) w w2 := (Upd.of_below' hB _).trans hu2 fun _ _ h => h
    have hmlt := n4.lt
    have kb2 : Blk w2 w.heap.size 74 #[.int .i64 0, .int .i64 0, .int .i64 0, .int .i64 0, .int .i64 0, .string ⟨#[]⟩, .bool false, .string ⟨#[]⟩, .pointer none] := kb.upd hu2 (by omega)
    have hsz : w2.heap.size = w.heap.size + 1 := by rw [hz2]; simp
    have hz0 : sl0.cells 0 = #[.int .i64 0, .int .i64 0, .int .i64 0, .int .i64 0, .int .i64 0, .string ⟨#[]⟩, .bool false, .string ⟨#[]⟩, .pointer none] := rfl
    have hkz : Blk w2 w.heap.size 74 (sl0.cells 0) := by rw [hz0]; exact kb2
    have hq := h.fresh (S' := fun k => S k ∨ k = w.heap.size) (b' := w.heap.size) hi hg hu (fun _ h => h) (fun _ h => .inl h) (fun k hk => by
      rcases hk with hk | rfl
      · have := h.lt k hk; omega
      · omega) hkz (.inr rfl) (Nat.le_refl _) hm2
    rw [ht, hx]
    have hfin : Hid (∃ S' a', (w.heap.size = a'.sb i s ∧ ∀ k, S' k → S k ∨ w.heap.size ≤ k) ∧ GIn S' w2 g An cn Am cm (G.setSl i s sl0) a' ∧ getA s ((G.setSl i s sl0).nd i).sl = some sl0 ∧ Upd S w w2) := hid
      ⟨_, a.setS i s w.heap.size, ⟨by show w.heap.size = if i = i ∧ s = s then w.heap.size else a.sb i s; rw [if_pos ⟨rfl, rfl⟩], fun k hk => hk.imp id fun e => by omega⟩, hq, hgt, hu.mono fun k _ h => h ▸ n3⟩
    clear hq hgt ht hx h n1 n4 ho hg kb kb2 hm2 hg2 hz2 hu hu2 hrun0 hB hmlt hsz
    go_enter Try.func38, Try.ntmps38
    go_wp2_with fail
    go_ret
    obtain ⟨S', a', ⟨h1, h2⟩, h3⟩ := hfin.out
    refine ⟨S', a', ⟨?_, h2⟩, h3⟩
    rw [← h1]; rfl
end

end Go.Proofs.Ytbgopicpdpkccaa
