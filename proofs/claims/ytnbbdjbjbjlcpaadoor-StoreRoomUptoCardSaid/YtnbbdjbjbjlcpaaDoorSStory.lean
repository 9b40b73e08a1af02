/- store: what a story's acts keep. -/
import Derived.Test.YtnbbdjbjbjlcpaaDoorSActs
namespace Go.Proofs.YtnbbdjbjbjlcpaaDoor
open Go.RowKit
set_option linter.unusedVariables false

theorem SActs.all {S : Nat → Prop} {w : World} {A : Option Addr} {us : List SA} (h : SActs S w A us) : SActs (fun b => b < w.heap.size) w A us := ⟨h.row.all, fun a ha => ⟨(h.ok a ha).1.all, (h.ok a ha).2.all⟩⟩
def okKs (ks : List ByteArray) : Prop := ∀ k ∈ ks, k.size ≤ 9223372036854775806
def okWs (ws : List Wr) : Prop := ∀ x ∈ ws, x.key.size ≤ 9223372036854775806 ∧ x.v.s.size ≤ 9223372036854775806
section
variable {w w' : World} {B : Nat}
theorem cell_bel {b o : Nat} {v : Value} (h : Below B w w') (hb : b < B) (hc : w.cell? ⟨b, o, none⟩ = some v) : w'.cell? ⟨b, o, none⟩ = some v := (Upd.of_below (M := fun j => B ≤ j) h fun _ _ h => h).cell hc (by omega)
end
end Go.Proofs.YtnbbdjbjbjlcpaaDoor
