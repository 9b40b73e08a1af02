/- A Merge in memory; New, told, Next, Held. -/
import Derived.Test.YtlnlffpkdeaimaaCopied
import Derived.Test.YtlnlffpkdeaimaaPlace
namespace Go.Proofs.Ytlnlffpkdeaimaa
open Go.RowKit

def OwnS (S : Nat → Prop) (w : World) (e : TypeId) (size : Nat) (v : Value) (n : Nat) (xs : List Value) : Prop := w.ownsRow 0 e size v n xs ∧ ∀ b, v.ownBlock = some b → S b
section
variable {S S' : Nat → Prop} {w w' : World} {e : TypeId} {size n : Nat} {v : Value} {xs : List Value}
theorem OwnS.keep (h : OwnS S w e size v n xs) (hk : ∀ b, S b → b < w.heap.size → w'.heap[b]? = w.heap[b]?) : OwnS S w' e size v n xs := by
  refine ⟨⟨h.1.1, ?_⟩, h.2⟩
  rcases h.1.2 with hn | ⟨g, cap, cur, rfl, hg, hh, rest⟩
  · exact .inl hn
  · exact .inr ⟨g, cap, cur, rfl, hg, (hk g (h.2 g rfl) (Array.getElem?_eq_some_iff.1 hh).1).trans hh, rest⟩
theorem OwnS.of_own {base : Nat} (h : w.ownsRow base e size v n xs) : OwnS (fun b => base ≤ b ∧ b < w.heap.size) w e size v n xs := ⟨own_base (Nat.zero_le _) h, fun b hb => h.lt b hb⟩
theorem OwnS.more (h : OwnS S w e size v n xs) (hS : ∀ b, S b → b < w.heap.size → S' b) : OwnS S' w e size v n xs := ⟨h.1, fun b hb => hS b (h.2 b hb) (h.1.lt b hb).2⟩
theorem OwnS.rd {A : Option Addr} {c : Nat} (h : OwnS S w e size (.slice A n c) n xs) : Rd S w size A n xs := (Rd.of_own h.1).more fun b hb _ => h.2 b hb.symm
end
structure RP.ownS (S : Nat → Prop) (w : World) (r : RP) : Prop where
  args : OwnS S w 88 3 (.slice r.A1 r.p.args.length r.c1) r.p.args.length (vcells r.p.args)
  rd : OwnS S w 9 1 (.slice r.A2 r.p.rd.length r.c2) r.p.rd.length (r.p.rd.map .string)
  wr : OwnS S w 9 1 (.slice r.A3 r.p.wr.length r.c3) r.p.wr.length (r.p.wr.map .string)
/-- plans in memory of their own: all their blocks in S -/
structure PlansS (S : Nat → Prop) (w : World) (A : Option Addr) (c : Nat) (rs : List RP) : Prop where
  row : OwnS S w 71 7 (.slice A rs.length c) rs.length (pcells rs)
  ok : ∀ r ∈ rs, r.ownS S w
theorem PlansS.keep {S : Nat → Prop} {w w' : World} {A : Option Addr} {c : Nat} {rs : List RP} (h : PlansS S w A c rs) (hk : ∀ b, S b → b < w.heap.size → w'.heap[b]? = w.heap[b]?) : PlansS S w' A c rs :=
  ⟨h.row.keep hk, fun r hr => ⟨(h.ok r hr).args.keep hk, (h.ok r hr).rd.keep hk, (h.ok r hr).wr.keep hk⟩⟩
theorem PlansS.of_own {base : Nat} {w : World} {A : Option Addr} {c : Nat} {rs : List RP} (h : PlansOwn base w A c rs) : PlansS (fun b => base ≤ b ∧ b < w.heap.size) w A c rs :=
  ⟨.of_own h.row, fun r hr => ⟨.of_own (h.ok r hr).args, .of_own (h.ok r hr).rd, .of_own (h.ok r hr).wr⟩⟩
theorem PlansS.ok' {S : Nat → Prop} {w : World} {A : Option Addr} {c : Nat} {rs : List RP} (h : PlansS S w A c rs) : PlansOk S w A rs := ⟨h.row.rd, fun r hr => ⟨(h.ok r hr).args.rd, (h.ok r hr).rd.rd, (h.ok r hr).wr.rd⟩⟩
theorem PlansS.more {S S' : Nat → Prop} {w : World} {A : Option Addr} {c : Nat} {rs : List RP} (h : PlansS S w A c rs) (hS : ∀ b, S b → b < w.heap.size → S' b) : PlansS S' w A c rs :=
  ⟨h.row.more hS, fun r hr => ⟨(h.ok r hr).args.more hS, (h.ok r hr).rd.more hS, (h.ok r hr).wr.more hS⟩⟩

/-- what is held of one batch -/
structure HV where
  A : Option Addr
  c : Nat
  rs : List RP
  S : Nat → Prop
def HV.val (h : HV) : Value := .slice h.A h.rs.length h.c
def hvals (H : List ((Int × Int) × HV)) : List ((Int × Int) × Value) := H.map fun h => (h.1, h.2.val)
def held (H : List ((Int × Int) × HV)) : List ((Int × Int) × List Pl) := H.map fun h => (h.1, plans h.2.rs)

structure MergeAt (w : World) (g mb : Nat) (n e s : Int) (H : List ((Int × Int) × HV)) : Prop where
  blk : Blk w g 77 #[.int .i64 n, .int .i64 e, .int .i64 s, .map (some mb)]
  map : MapIs placeE w mb (hvals H)
  plans : ∀ h ∈ H, PlansS h.2.S w h.2.A h.2.c h.2.rs
  apart : H.Pairwise fun a b => ∀ k, a.2.S k → b.2.S k → False
  out : ∀ h ∈ H, ∀ k, h.2.S k → k ≠ g ∧ k ≠ mb ∧ k < w.heap.size
  fits : ∀ h ∈ H, h.2.rs.length ≤ 1000000000 ∧ ∀ r ∈ h.2.rs, r.p.fits
theorem MergeAt.upd {w w' : World} {g mb : Nat} {n e s : Int} {H : List ((Int × Int) × HV)} {M : Nat → Prop} (h : MergeAt w g mb n e s H) (hu : Upd M w w') (hg : ¬ M g) (hm : ¬ M mb) (hS : ∀ x ∈ H, ∀ k, x.2.S k → ¬ M k) : MergeAt w' g mb n e s H where
  blk := h.blk.upd hu hg
  map := h.map.upd hu hm
  plans := fun x hx => (h.plans x hx).keep fun b hb hl => hu.block b hl (hS x hx b hb)
  apart := h.apart
  out := fun x hx k hk => ⟨(h.out x hx k hk).1, (h.out x hx k hk).2.1, Nat.lt_of_lt_of_le (h.out x hx k hk).2.2 hu.size⟩
  fits := h.fits
theorem Upd.of_below' {w w' : World} (h : Below w.heap.size w w') (M : Nat → Prop) : Upd M w w' := Upd.of_below h fun k hk hB => absurd hk (by omega)
theorem MergeAt.below {w w' : World} {g mb : Nat} {n e s : Int} {H : List ((Int × Int) × HV)} (h : MergeAt w g mb n e s H) (hb : Below w.heap.size w w') : MergeAt w' g mb n e s H :=
  h.upd (M := Nil) (.of_below' hb _) id id fun _ _ _ _ => id
theorem MergeAt.cells {w : World} {g mb : Nat} {n e s : Int} {H : List ((Int × Int) × HV)} (h : MergeAt w g mb n e s H) : w.cell? ⟨g, 0, none⟩ = some (.int .i64 n) ∧ w.cell? ⟨g, 1, none⟩ = some (.int .i64 e) ∧ w.cell? ⟨g, 2, none⟩ = some (.int .i64 s) ∧ w.cell? ⟨g, 3, none⟩ = some (.map (some mb)) :=
  ⟨h.blk.cell 0, h.blk.cell 1, h.blk.cell 2, h.blk.cell 3⟩

theorem mnum_any (a : Int) (w : World) : Calls Try.prog 7 #[.int .i64 a] w fun e w' => e = .returned (.int .i64 a) ∧ w = w' := by
  go_enter Try.func7, Try.ntmps7
  go_wp2
  go_ret
  exact ⟨rfl, rfl⟩

set_option maxHeartbeats 400000 in
theorem mnew_bad (n : Int) (w : World) (h : n < 1 ∨ 16 < n) :
    Calls Try.prog 10 #[.int .i64 n] w fun e w' => e = .returned (.tuple #[.pointer none, .int .i64 2]) ∧ w = w' := by
  rcases h with h | h
  · go_enter Try.func10, Try.ntmps10
    go_wp2
    go_ret2
    exact ⟨rfl, rfl⟩
  · have h' : ¬ n < 1 := by omega
    go_enter Try.func10, Try.ntmps10
    go_wp2
    go_ret2
    exact ⟨rfl, rfl⟩
set_option maxHeartbeats 400000 in
theorem mnew_ok (n : Int) (w : World) (h1 : 1 ≤ n) (h2 : n ≤ 16) :
    Calls Try.prog 10 #[.int .i64 n] w fun e w' => ∃ g mb, e = .returned (.tuple #[.pointer (some ⟨g, 0, none⟩), .int .i64 0]) ∧ (w.heap.size ≤ g ∧ w.heap.size ≤ mb) ∧ MergeAt w' g mb n 0 0 [] ∧ Below w.heap.size w w' := by
  have hmm := @run_makeMap Try.prog
  go_enter Try.func10, Try.ntmps10
  go_wp2
  go_ret2
  refine ⟨w.heap.size + 1, w.heap.size, rfl, ⟨by omega, by omega⟩, ⟨Blk.new' _ _ _ (by simp), (MapIs.new _).alloc _, by simp, .nil, by simp, by simp⟩, ?_⟩
  exact ((Below.refl w.heap.size w).alloc (Nat.le_refl _) _).alloc (by simp) _

def toldB (e s x t : Int) : Bool := decide (x < e ∨ x = e ∧ t < s)
set_option maxHeartbeats 800000 in
theorem told_any (g : Nat) (e s x t : Int) (w : World) (c1 : w.cell? ⟨g, 1, none⟩ = some (.int .i64 e)) (c2 : w.cell? ⟨g, 2, none⟩ = some (.int .i64 s)) (hg : g < w.heap.size) :
    Calls Try.prog 28 #[.pointer (some ⟨g, 0, none⟩), .agg #[.int .i64 x, .int .i64 t]] w fun r w' => r = .returned (.bool (toldB e s x t)) ∧ Below w.heap.size w w' := by
  have hb : ∀ n, Below w.heap.size w ((w.alloc (.cells #[.int .i64 x, .int .i64 t] 75)).drewN n) := fun n => below_drewN ((Below.refl _ _).alloc (Nat.le_refl _) _) n
  have hb := hid hb
  by_cases h1 : x < e
  · have r : toldB e s x t = true := by simp [toldB, h1]
    have hr := hid r
    clear r
    have hd : decide (x < e) = true := by simpa using h1
    go_enter Try.func28, Try.ntmps28
    go_wp2_with fail
    go_quiet (fail)
    go_wp2
    go_ret
    exact ⟨by rw [hr.out]; rfl, hb.out _⟩
  · have hd : decide (x < e) = false := by simpa using h1
    by_cases h2 : x = e
    · have h2' : (x == e) = true := by simpa using h2
      have h2'' := hid h2
      clear h2
      by_cases h3 : t < s
      · have hd3 : decide (t < s) = true := by simpa using h3
        have r : toldB e s x t = true := by simp [toldB, h2''.out, h3]
        have hr := hid r
        clear r
        go_enter Try.func28, Try.ntmps28
        go_wp2_with fail
        go_quiet (fail)
        go_wp2
        go_ret
        exact ⟨by rw [hr.out]; rfl, hb.out _⟩
      · have hd3 : decide (t < s) = false := by simpa using h3
        have r : toldB e s x t = false := by simp [toldB, h2''.out, h3]
        have hr := hid r
        clear r
        go_enter Try.func28, Try.ntmps28
        go_wp2_with fail
        go_quiet (fail)
        go_wp2
        go_ret
        exact ⟨by rw [hr.out]; rfl, hb.out _⟩
    · have h2' : (x == e) = false := by simpa using h2
      have r : toldB e s x t = false := by simp [toldB, h1, h2]
      have hr := hid r
      clear r
      go_enter Try.func28, Try.ntmps28
      go_wp2_with fail
      go_quiet (fail)
      go_wp2
      go_ret
      exact ⟨by rw [hr.out]; rfl, hb.out _⟩

theorem next_any (g : Nat) (e s : Int) (w : World) (c1 : w.cell? ⟨g, 1, none⟩ = some (.int .i64 e)) (c2 : w.cell? ⟨g, 2, none⟩ = some (.int .i64 s)) :
    Calls Try.prog 22 #[.pointer (some ⟨g, 0, none⟩)] w fun r w' => r = .returned (.tuple #[.int .i64 e, .int .i64 s]) ∧ Below w.heap.size w w' := by
  go_enter Try.func22, Try.ntmps22
  go_wp2_with fail
  go_quiet (fail)
  go_wp2
  go_ret2
  exact ⟨rfl, below_drewN (Below.refl _ _) _⟩
theorem next_nil (w : World) :
    Calls Try.prog 22 #[.pointer none] w fun r w' => r = .returned (.tuple #[.int .i64 0, .int .i64 0]) ∧ w = w' := by
  go_enter Try.func22, Try.ntmps22
  go_wp2
  go_ret2
  exact ⟨rfl, rfl⟩
theorem held_any (g mb : Nat) (l : List ((Int × Int) × Value)) (w : World) (c3 : w.cell? ⟨g, 3, none⟩ = some (.map (some mb))) (hm : MapIs placeE w mb l) :
    Calls Try.prog 23 #[.pointer (some ⟨g, 0, none⟩)] w fun r w' => r = .returned (.int .i64 l.length) ∧ w = w' := by
  obtain ⟨es, cl, hh, hs⟩ := hm.size
  have hlen := fun ty => hm.len Try.underlying73 ty
  clear hm hh
  go_enter Try.func23, Try.ntmps23
  go_wp2
  go_ret
  exact ⟨rfl, rfl⟩
theorem held_nil (w : World) :
    Calls Try.prog 23 #[.pointer none] w fun r w' => r = .returned (.int .i64 0) ∧ w = w' := by
  go_enter Try.func23, Try.ntmps23
  go_wp2
  go_ret
  exact ⟨rfl, rfl⟩

end Go.Proofs.Ytlnlffpkdeaimaa
