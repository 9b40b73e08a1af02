/- quorum: Mail. -/
import Derived.Test.YtbgopicpdpkccaaGProp
namespace Go.Proofs.Ytbgopicpdpkccaa
open Go.RowKit
set_option linter.unusedVariables false
set_option linter.unusedSimpArgs false

set_option maxHeartbeats 400000 in
theorem cloneM_any (S : Nat → Prop) (A : Option Addr) (n c : Nat) (xs : List Value) (w : World) (ha : Rd S w 9 A n xs) (h1 : ∀ u ∈ xs, u.oneCell' = true) (hn : n ≤ 1000000000) :
    Calls Try.prog 55 #[.slice A n c] w fun e w' => ∃ v, e = .returned v ∧ Cloned 78 9 xs n w v w' := by
  obtain ⟨i0, hi0, hz0, hz1, hz2⟩ := info_parts info_mail
  have hq := fun w a n c => eql_nil 58 78 Try.underlying58 w a n c
  cases A with
  | none =>
    obtain rfl : n = 0 := by
      rcases Nat.eq_zero_or_pos n with h | h
      · exact h
      · obtain ⟨_, _, h, _⟩ := ha.2 h; cases h
    obtain rfl : xs = [] := List.eq_nil_of_length_eq_zero (by simpa using ha.1)
    go_enter Try.func55, Try.ntmps55
    go_wp2
    go_ret
    exact ⟨_, rfl, cloned_nil _ _ _ _ (Below.refl _ _)⟩
  | some a =>
    have hown : (w.alloc (.cells #[] 78)).ownsRow w.heap.size 78 9 (.slice (some ⟨w.heap.size, 0, none⟩) 0 0) 0 [] := World.ownsRow_made w #[] 0 (Nat.le_refl _) (by simp [maxLen]) (by simp)
    have hr := ha.alloc (.cells #[] 78)
    go_enter Try.func55, Try.ntmps55
    go_wp2_with (at_builtin; refine wpList_append_rd _ rfl (.tmp 5) (.tmp 6) 58 rfl w.heap.size 78 i0 _ 9 80 Try.underlying58 hi0 hz0 hz1 hz2 rfl (by omega) (.slice (some ⟨w.heap.size, 0, none⟩) 0 0) 0 [] rfl hown S (some a) n c xs rfl hr h1 (by simp only [maxLen]; omega) (by omega) (by simp) ?_; intro v1 w1 hown1 hg1 hat1)
    go_ret
    refine ⟨v1, rfl, by simpa using hown1, ((Below.refl _ _).alloc (Nat.le_refl _) _).grown hg1 (by simp) (fun k hk => ?_)⟩
    have hk' : w.heap.size = k := by simpa [Value.ownBlock] using hk
    omega
section
variable {S : Nat → Prop} {w w' : World} {g : Nat} {An Am : Option Addr} {cn cm : Nat} {G : Gr} {a : Ad}
set_option maxRecDepth 100000 in
set_option maxHeartbeats 1000000 in
theorem mail_any (h : GAt S w g G) (hl : G.mail.length ≤ 1000000) : Calls Try.prog 34 #[.pointer (some ⟨g, 0, none⟩)] w fun e w' => ∃ v, e = .returned v ∧ Cloned 78 9 (mcells G.mail) G.mail.length w v w' := by
  obtain ⟨An, cn, Am, cm, a, q⟩ := h
  obtain ⟨c0, c1⟩ := q.cells
  have hcl := hid (cloneM_any _ Am G.mail.length cm _ w q.mrow.rd (mcells_one _) (by omega))
  clear q c0
  go_enter Try.func34, Try.ntmps34
  go_wp2_with fail
  refine hcl.out.mono ?_
  rintro e w2 ⟨v, rfl, hv⟩
  have hv := hid hv
  go_wp2_with fail
  go_ret
  exact ⟨_, rfl, hv.out⟩
end

end Go.Proofs.Ytbgopicpdpkccaa
