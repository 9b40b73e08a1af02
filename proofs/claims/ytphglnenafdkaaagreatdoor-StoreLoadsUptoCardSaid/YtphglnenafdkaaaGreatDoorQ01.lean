/- Texts of the proof, joined: Base. -/
import Derived.WalkKit
import Derived.WalkSpells
import Derived.WalkLawsBesides
import Derived.Lib.Hide
import Derived.Deep.Draws
import Derived.Deep.AppendLies
import Derived.Deep.QuietTactic
import Derived.BigQuiet
import Derived.Outline
import Derived.OneCell
namespace Go.Proofs.YtphglnenafdkaaaGreatDoor
open Go.RowKit

/-- blocks in S are in w' as they were in w -/
def Same (S : Nat → Prop) (w w' : World) : Prop := ∀ b, S b → w'.heap[b]? = w.heap[b]?

/-- old blocks outside M are as they were; the streams are as they were -/
structure Upd (M : Nat → Prop) (w w' : World) : Prop where
  os : w'.os = w.os
  tape : w'.tape = w.tape
  output : w'.output = w.output
  size : w.heap.size ≤ w'.heap.size
  block : ∀ k, k < w.heap.size → ¬ M k → w'.heap[k]? = w.heap[k]?

def Nil : Nat → Prop := fun _ => False

section
variable {M M' : Nat → Prop} {w w' w'' : World}
theorem Upd.refl (M : Nat → Prop) (w : World) : Upd M w w := ⟨rfl, rfl, rfl, Nat.le_refl _, fun _ _ _ => rfl⟩
theorem Upd.mono (h : Upd M w w') (hm : ∀ k, k < w.heap.size → M k → M' k) : Upd M' w w' :=
  ⟨h.os, h.tape, h.output, h.size, fun k hk hn => h.block k hk fun hM => hn (hm k hk hM)⟩
/-- the second step may write what the first step made -/
theorem Upd.trans (h : Upd M w w') (k : Upd M' w' w'') (hm : ∀ b, b < w.heap.size → M' b → M b) : Upd M w w'' :=
  ⟨k.os.trans h.os, k.tape.trans h.tape, k.output.trans h.output, Nat.le_trans h.size k.size,
   fun b hb hn => (k.block b (Nat.lt_of_lt_of_le hb h.size) fun hM => hn (hm b hb hM)).trans (h.block b hb hn)⟩
theorem Upd.drew (h : Upd M w w') : Upd M w w'.drew := ⟨h.os, h.tape, h.output, h.size, h.block⟩
theorem Upd.drewN (h : Upd M w w') (n : Nat) : Upd M w (w'.drewN n) := ⟨h.os, h.tape, h.output, h.size, h.block⟩
theorem Upd.alloc (h : Upd M w w') (o : Obj) : Upd M w (w'.alloc o) :=
  ⟨h.os, h.tape, h.output, Nat.le_trans h.size (by simp), fun k hk hn => (Below.heap_alloc w' o k (Nat.lt_of_lt_of_le hk h.size)).trans (h.block k hk hn)⟩
theorem Upd.setCell (h : Upd M w w') {p : Addr} (hp : p.block < w.heap.size → M p.block) (u : Value) : Upd M w (w'.setCell p u) :=
  ⟨h.os, h.tape, h.output, by simpa [World.setCell] using h.size, fun k hk hn => (Below.heap_setCell w' p u k (by rintro rfl; exact hn (hp hk))).trans (h.block k hk hn)⟩
theorem Upd.grown (h : Upd M w w') {row : Option Nat} (hg : w'.grownBy w'' row) (hr : ∀ k, row = some k → k < w.heap.size → M k) : Upd M w w'' :=
  h.trans (M' := fun k => row = some k) ⟨hg.os, hg.tape, hg.output, hg.size, fun k hk hn => hg.block k hk fun e => hn e.symm⟩ fun b hb he => hr b he hb
theorem Upd.of_below {B : Nat} (h : Below B w w') (hm : ∀ k, k < w.heap.size → B ≤ k → M k) : Upd M w w' :=
  ⟨h.os, h.tape, h.output, h.size, fun k hk hn => h.block k (by rcases Nat.lt_or_ge k B with g | g; exact g; exact absurd (hm k hk g) hn)⟩
theorem Upd.below (h : Upd M w w') {B : Nat} (hB : B ≤ w.heap.size) (hm : ∀ k, k < B → ¬ M k) : Below B w w' :=
  ⟨h.os, h.tape, h.output, h.size, fun k hk => h.block k (by omega) (hm k hk)⟩
theorem Upd.cell (h : Upd M w w') {b o : Nat} {v : Value} (hc : w.cell? ⟨b, o, none⟩ = some v) (hn : ¬ M b) : w'.cell? ⟨b, o, none⟩ = some v :=
  (World.cell?_of_block (w := w) (a := ⟨b, o, none⟩) (h.block b (World.block_lt_of_cell? w _ hc) hn)).trans hc
theorem Upd.same (h : Upd M w w') {S : Nat → Prop} (hS : ∀ b, S b → b < w.heap.size ∧ ¬ M b) : Same S w w' := fun b hb => h.block b (hS b hb).1 (hS b hb).2
end

/-- the slice value at address A with n elements of k cells reads as the cells xs, in a block of S -/
def Rd (S : Nat → Prop) (w : World) (size : Nat) (A : Option Addr) (n : Nat) (xs : List Value) : Prop :=
  xs.length = n * size ∧ (0 < n → ∃ b o, A = some ⟨b, o, none⟩ ∧ S b ∧ b < w.heap.size ∧ ∀ j u, xs[j]? = some u → w.cell? ⟨b, o + j, none⟩ = some u)

section
variable {S S' : Nat → Prop} {w w' : World} {size n : Nat} {A : Option Addr} {xs : List Value}
theorem Rd.nil_ : Rd S w size A 0 [] := ⟨by simp, fun h => absurd h (by omega)⟩
theorem Rd.keep (h : Rd S w size A n xs) (hk : ∀ b, S b → b < w.heap.size → w'.heap[b]? = w.heap[b]?) : Rd S w' size A n xs :=
  ⟨h.1, fun hn => by
    obtain ⟨b, o, e, hb, hl, hc⟩ := h.2 hn
    have hw := hk b hb hl
    refine ⟨b, o, e, hb, ?_, fun j u hu => (World.cell?_of_block (w := w) (a := ⟨b, o + j, none⟩) hw).trans (hc j u hu)⟩
    rw [Array.getElem?_eq_getElem hl] at hw
    exact (Array.getElem?_eq_some_iff.1 hw).1⟩
theorem Rd.more (h : Rd S w size A n xs) (hS : ∀ b, S b → b < w.heap.size → S' b) : Rd S' w size A n xs :=
  ⟨h.1, fun hn => by
    obtain ⟨b, o, e, hb, hl, hc⟩ := h.2 hn
    exact ⟨b, o, e, hS b hb hl, hl, hc⟩⟩
theorem Rd.same (h : Rd S w size A n xs) (hs : Same S w w') : Rd S w' size A n xs := h.keep fun b hb _ => hs b hb
theorem Rd.drewN (h : Rd S w size A n xs) (k : Nat) : Rd S (w.drewN k) size A n xs := h
theorem Rd.drew (h : Rd S w size A n xs) : Rd S w.drew size A n xs := h
theorem Rd.alloc (h : Rd S w size A n xs) (o : Obj) : Rd S (w.alloc o) size A n xs := h.keep fun b _ hl => Below.heap_alloc w o b hl
theorem Rd.upd {M : Nat → Prop} (h : Rd S w size A n xs) (hu : Upd M w w') (hS : ∀ b, S b → ¬ M b) : Rd S w' size A n xs := h.keep fun b hb hl => hu.block b hl (hS b hb)
theorem Rd.below {B : Nat} (h : Rd S w size A n xs) (hu : Below B w w') (hS : ∀ b, S b → b < B) : Rd S w' size A n xs := h.keep fun b hb _ => hu.block b (hS b hb)
/-- whatever reads, reads below the heap's end -/
theorem Rd.all (h : Rd S w size A n xs) : Rd (fun b => b < w.heap.size) w size A n xs := h.more fun _ _ hl => hl
theorem Rd.below_all (h : Rd S w size A n xs) (hu : Below w.heap.size w w') : Rd S w' size A n xs := h.keep fun b _ hl => hu.block b hl
theorem Rd.at_ {k : Nat} (h : Rd S w size A n xs) (hk : k < n) : ∃ b o, A = some ⟨b, o, none⟩ ∧ S b ∧ b < w.heap.size ∧ ∀ j u, xs[j]? = some u → w.cell? ⟨b, o + j, none⟩ = some u := h.2 (by omega)
end

theorem hid {p : Prop} (h : p) : Hid p := h

/-- what was there reads as it did: two rules for the walk -/
theorem bcell {w w1 : World} {W : World} (hb : Below W.heap.size w w1) : (∀ b o, b < W.heap.size → w1.cell? ⟨b, o, none⟩ = w.cell? ⟨b, o, none⟩) ∧ (∀ b o, b < W.heap.size → w1.frozen? ⟨b, o, none⟩ = w.frozen? ⟨b, o, none⟩) :=
  ⟨fun b o h => hb.cell (p := ⟨b, o, none⟩) h, fun b o h => hb.frozen (p := ⟨b, o, none⟩) h⟩
theorem below_drewN {B : Nat} {a w : World} (h : Below B a w) (n : Nat) : Below B a (w.drewN n) := ⟨h.os, h.tape, h.output, h.size, h.block⟩

/-- block g is just the cells cs of element type t, none frozen -/
def Blk (w : World) (g : Nat) (t : TypeId) (cs : Array Value) : Prop := w.heap[g]? = some (.cells cs t (0, 0))
section
variable {w w' : World} {g : Nat} {t : TypeId} {cs : Array Value}
theorem Blk.lt (h : Blk w g t cs) : g < w.heap.size := (Array.getElem?_eq_some_iff.1 h).1
theorem Blk.cell (h : Blk w g t cs) (i : Nat) : w.cell? ⟨g, i, none⟩ = cs[i]? := by unfold Blk at h; simp [World.cell?, h]
theorem Blk.frozen (h : Blk w g t cs) (i : Nat) : w.frozen? ⟨g, i, none⟩ = false := by unfold Blk at h; simp [World.frozen?, h]
theorem Blk.new (w : World) (t : TypeId) (cs : Array Value) : Blk (w.alloc (.cells cs t)) w.heap.size t cs := heap_alloc_new w _
theorem Blk.new' (w : World) (t : TypeId) (cs : Array Value) {g : Nat} (hg : g = w.heap.size) : Blk (w.alloc (.cells cs t)) g t cs := by subst hg; exact heap_alloc_new w _
theorem Blk.drew (h : Blk w g t cs) : Blk w.drew g t cs := h
theorem Blk.drewN (h : Blk w g t cs) (n : Nat) : Blk (w.drewN n) g t cs := h
theorem Blk.alloc (h : Blk w g t cs) (o : Obj) : Blk (w.alloc o) g t cs := (Below.heap_alloc w o g h.lt).trans h
theorem Blk.set_ (h : Blk w g t cs) (i : Nat) (u : Value) : Blk (w.setCell ⟨g, i, none⟩ u) g t (cs.setIfInBounds i u) := by
  unfold Blk at h ⊢
  simp [World.setCell, Array.getElem?_modify, h]
theorem Blk.far (h : Blk w g t cs) {p : Addr} (hp : g ≠ p.block) (u : Value) : Blk (w.setCell p u) g t cs := (Below.heap_setCell w p u g hp).trans h
theorem Blk.below {B : Nat} (h : Blk w g t cs) (hb : Below B w w') (hg : g < B) : Blk w' g t cs := (hb.block g hg).trans h
theorem Blk.below_all (h : Blk w g t cs) (hb : Below w.heap.size w w') : Blk w' g t cs := (hb.block g h.lt).trans h
theorem Blk.upd {M : Nat → Prop} (h : Blk w g t cs) (hb : Upd M w w') (hg : ¬ M g) : Blk w' g t cs := (hb.block g h.lt hg).trans h
theorem Blk.grown {row : Option Nat} (h : Blk w g t cs) (hb : w.grownBy w' row) (hg : some g ≠ row) : Blk w' g t cs := (hb.block g h.lt hg).trans h
theorem Blk.ne_ {g' : Nat} {t' : TypeId} {cs' : Array Value} (h : Blk w g t cs) (h' : Blk w g' t' cs') (hne : t ≠ t') : g ≠ g' := by
  rintro rfl
  unfold Blk at h h'
  rw [h] at h'
  injection h' with h'
  injection h' with _ ht
  exact hne ht
end

theorem ba_inj {a b : ByteArray} (h : a.toList = b.toList) : a = b := by
  rw [ByteArray.toList_eq, ByteArray.toList_eq] at h
  cases a; cases b; simp only [ByteArray.mk.injEq]; exact Array.toList_inj.1 h
theorem ba_ne {a b : ByteArray} (h : (!a.toList == b.toList) = true) : a ≠ b := by
  rintro rfl; simp at h
theorem ba_eq {a b : ByteArray} (h : (!a.toList == b.toList) = false) : a = b := ba_inj (by simpa using h)
theorem ba_eq' {a b : ByteArray} (h : (a.toList == b.toList) = true) : a = b := ba_inj (by simpa using h)
theorem ba_ne' {a b : ByteArray} (h : (a.toList == b.toList) = false) : a ≠ b := by
  rintro rfl; simp at h

end Go.Proofs.YtphglnenafdkaaaGreatDoor

