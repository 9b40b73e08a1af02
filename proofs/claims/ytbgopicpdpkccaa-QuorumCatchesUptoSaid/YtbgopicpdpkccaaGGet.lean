/- quorum: what can be asked. -/
import Derived.Test.YtbgopicpdpkccaaGNilF
import Derived.Test.YtbgopicpdpkccaaGSafe2
import Derived.Test.YtbgopicpdpkccaaGCrash
namespace Go.Proofs.Ytbgopicpdpkccaa
open Go.RowKit
set_option linter.unusedVariables false
set_option linter.unusedSimpArgs false

section
variable {S : Nat → Prop} {w : World} {g : Nat} {G : Gr}
theorem promised_any (n s : Int) (h : GAt S w g G) : Calls Try.prog 16 #[.pointer (some ⟨g, 0, none⟩), .int .i64 n, .int .i64 s] w fun e w' => e = .returned (.agg #[.int .i64 (G.st n s).prom.rd, .int .i64 (G.st n s).prom.nd]) ∧ Below w.heap.size w w' :=
  promised_of (some ⟨g, 0, none⟩) (G.st n s) n s w fun w1 hb => state_any n s (h.below hb)
theorem accepted_any (n s : Int) (h : GAt S w g G) : Calls Try.prog 21 #[.pointer (some ⟨g, 0, none⟩), .int .i64 n, .int .i64 s] w fun e w' => e = .returned (.tuple #[.agg #[.int .i64 (G.st n s).accd.bal.rd, .int .i64 (G.st n s).accd.bal.nd], .string (G.st n s).accd.text]) ∧ Below w.heap.size w w' :=
  accepted_of (some ⟨g, 0, none⟩) (G.st n s) n s w fun w1 hb => state_any n s (h.below hb)
def Gr.log (G : Gr) (n : Int) : List ByteArray := logOf fun s => G.st n s
theorem log_any (n : Int) (h : GAt S w g G) : Calls Try.prog 25 #[.pointer (some ⟨g, 0, none⟩), .int .i64 n] w fun e w' => ∃ v, e = .returned v ∧ Cloned 9 1 ((G.log n).map Value.string) (G.log n).length w v w' :=
  log_of (some ⟨g, 0, none⟩) (fun s => G.st n s) n w fun s w1 hb => state_any n s (h.below hb)
def Gr.isUp (G : Gr) (n : Int) : Bool := decide (0 ≤ n ∧ n < G.nds.length) && (G.nd n.toNat).up
set_option maxRecDepth 100000 in
theorem up_any (n : Int) (h : GAt S w g G) : Calls Try.prog 15 #[.pointer (some ⟨g, 0, none⟩), .int .i64 n] w fun e w' => e = .returned (.bool (G.isUp n)) ∧ w' = w := by
  by_cases hn : 0 ≤ n ∧ n < (G.nds.length : Int)
  · obtain ⟨i, rfl⟩ := Int.eq_ofNat_of_zero_le hn.1
    have hi : i < G.nds.length := by omega
    obtain ⟨An, cn, Am, cm, a, q⟩ := h
    have hcn := hid (node_yes i q hi)
    obtain ⟨n1, n2, n3, n4, _⟩ := q.nd i hi
    have e0 : Hid (G.isUp i = (G.nd i).up) := hid (by unfold Gr.isUp; rw [decide_eq_true hn, Int.toNat_natCast]; rfl)
    have xu : w.cell? ⟨a.nb i, 0, none⟩ = some (.bool (G.nd i).up) := n1.cell 0
    clear q n1 n4
    generalize (G.nd i).up = u at *
    go_enter Try.func15, Try.ntmps15
    go_wp2_with fail
    refine hcn.out.mono ?_
    rintro e w2 ⟨rfl, rfl⟩
    go_wp2_with fail
    go_ret
    exact ⟨by rw [e0.out]; rfl, rfl⟩
  · have e0 : Hid (G.isUp n = false) := hid (by unfold Gr.isUp; rw [decide_eq_false hn]; rfl)
    obtain ⟨An, cn, Am, cm, a, q⟩ := h
    have hcn := hid (node_no n q (by omega))
    clear q
    go_enter Try.func15, Try.ntmps15
    go_wp2_with fail
    refine hcn.out.mono ?_
    rintro e w2 ⟨rfl, rfl⟩
    go_wp2_with fail
    go_ret
    exact ⟨by rw [e0.out]; rfl, rfl⟩
end

end Go.Proofs.Ytbgopicpdpkccaa
