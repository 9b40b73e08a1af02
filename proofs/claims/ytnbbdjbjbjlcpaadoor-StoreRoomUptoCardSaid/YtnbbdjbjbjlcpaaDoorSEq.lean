/- store: equality of items. -/
import Derived.Test.YtnbbdjbjbjlcpaaDoorSView
import Derived.Test.YtnbbdjbjbjlcpaaDoorKValid
namespace Go.Proofs.YtnbbdjbjbjlcpaaDoor
open Go.RowKit
set_option linter.unusedVariables false
set_option linter.unusedSimpArgs false

theorem run_eqVal9998 (a b : Vl) (w : World) :
    (Op.equalIn 9999 50 (.agg #[.int .i64 a.k, .int .i64 a.n, .string a.s]) (.agg #[.int .i64 b.k, .int .i64 b.n, .string b.s])).run Tryd.prog w = .ok (decide (a = b)) w := by
  have ht : Tryd.prog.underlying 50 = some (.struct (Tryd.prog.fieldsOf 50)) := by kernel_rfl
  have hp : Tryd.prog.stoodInHeld 50 = false := by kernel_rfl
  rw [run_equalIn_agg w 9998 _ _ _ ht hp]
  have e : decide (a = b) = (a.k == b.k && (a.n == b.n && (a.s.toList == b.s.toList))) := by
    rw [bytes_dec, Bool.eq_iff_iff]
    simp only [decide_eq_true_eq, Bool.and_eq_true, beq_iff_eq]
    exact ⟨fun e => by subst e; simp, fun ⟨h1, h2, h3⟩ => by cases a; cases b; simp_all⟩
  rw [e]
  clear ht hp e
  simp only [Program.fieldsOf, Tryd.underlying50]
  go_simp
  by_cases h1 : a.k = b.k <;> by_cases h2 : a.n = b.n <;> by_cases h3 : a.s.toList = b.s.toList <;> simp [h1, h2, h3]
set_option maxRecDepth 100000 in
theorem run_eqItem (a b : Kv) (w : World) :
    (Op.equalIn 10000 64 (.agg #[.string a.1, .int .i64 a.2.k, .int .i64 a.2.n, .string a.2.s]) (.agg #[.string b.1, .int .i64 b.2.k, .int .i64 b.2.n, .string b.2.s])).run Tryd.prog w = .ok (decide (a = b)) w := by
  have ht : Tryd.prog.underlying 64 = some (.struct (Tryd.prog.fieldsOf 64)) := by kernel_rfl
  have hp : Tryd.prog.stoodInHeld 64 = false := by kernel_rfl
  have hv : ∀ w, (Op.equalIn 9999 50 (.agg #[.int .i64 a.2.k, .int .i64 a.2.n, .string a.2.s]) (.agg #[.int .i64 b.2.k, .int .i64 b.2.n, .string b.2.s])).run Tryd.prog w = .ok (decide (a.2 = b.2)) w := run_eqVal9998 a.2 b.2
  have e : decide (a = b) = ((a.1.toList == b.1.toList) && decide (a.2 = b.2)) := by
    rw [bytes_dec, Bool.eq_iff_iff]
    simp only [decide_eq_true_eq, Bool.and_eq_true]
    exact ⟨fun e => by subst e; simp, fun ⟨h1, h2⟩ => by obtain ⟨a1, a2⟩ := a; obtain ⟨b1, b2⟩ := b; simp_all⟩
  rw [e]
  generalize decide (a.2 = b.2) = r at *
  have he : (Op.equalIn 10000 64 (.agg #[.string a.1, .int .i64 a.2.k, .int .i64 a.2.n, .string a.2.s]) (.agg #[.string b.1, .int .i64 b.2.k, .int .i64 b.2.n, .string b.2.s])).run Tryd.prog w = (Op.eqFields 9999 #[.string a.1, .int .i64 a.2.k, .int .i64 a.2.n, .string a.2.s] #[.string b.1, .int .i64 b.2.k, .int .i64 b.2.n, .string b.2.s] (Tryd.prog.fieldsOf 64).toList).run Tryd.prog w := run_equalIn_agg w 9999 _ _ _ ht hp
  rw [he]
  clear he ht hp e
  simp only [Program.fieldsOf, Tryd.underlying64]
  have h9 := Tryd.underlying9
  obtain ⟨a1, ak, an, at_⟩ := a
  obtain ⟨b1, bk, bn, bt⟩ := b
  simp only at hv ⊢
  cases h1 : (a1.toList == b1.toList) <;> cases r <;> go_simp <;> simp_all
end Go.Proofs.YtnbbdjbjbjlcpaaDoor
