/- store: StoreEaches: what its loops keep. -/
import Derived.Test.YtnbbdjbjbjlcpaaSBoth
import Derived.Test.YtnbbdjbjbjlcpaaSEach
import Derived.Sort.QuietIn
namespace Go.Proofs.Ytnbbdjbjbjlcpaa
open Go.RowKit Go.Shelf
set_option linter.unusedVariables false
set_option linter.unusedSimpArgs false

theorem le_eq {a b c : Nat} (h : a = b) (h2 : a ≤ c) : b ≤ c := h ▸ h2
section
variable {F : Fence} {n : Nat} {P : Program} {ops : Array Oper}
theorem oper_inRound {o : Oper} {l : Nat} (hro : F.round = none) (hd : ∀ c, o.op ≠ .defer c) {a : Act} {w : World} {K : Act → World → Prop} {Q : Exit → Act → World → Prop} (h : o.wpIn F n P a w K Q) : o.wpIn (F.inRound l) n P a w K Q := by
  refine ⟨h.1, ?_⟩
  have h2 := h.2
  rw [Oper.semAt_eq _ _ _ hd] at h2 ⊢
  generalize (execOp a.eval o).run P w = x at h2 ⊢
  cases x with
  | ok y w' => cases y <;> exact h2
  | halt y w' => cases y <;> exact h2
def noDefer (ops : Array Oper) : Bool := ops.toList.all fun o => match o.op with | .defer _ => false | _ => true
theorem noDefer_spec (h : noDefer ops = true) {i : Nat} {o : Oper} (hi : ops[i]? = some o) : ∀ c, o.op ≠ .defer c := by
  intro c e
  unfold noDefer at h
  rw [List.all_eq_true] at h
  have := h o (List.mem_of_getElem? (by rw [Array.getElem?_toList]; exact hi))
  rw [e] at this
  cases this
theorem wpAnyIn_inRound {md : Region.Mode} {l : Nat} {Q : Exit → Act → World → Prop} (hro : F.round = none) (hd : noDefer ops = true) : ∀ (fuel : Nat) (listed : Array Bool) (a : Act) (w : World), wpAnyIn F n P md ops Q fuel listed a w → wpAnyIn (F.inRound l) n P md ops Q fuel listed a w
  | 0, _, _, _, h => h
  | fuel + 1, listed, a, w, h => by
    refine ⟨h.1, fun i hi => ?_⟩
    have h1 := h.2 i hi
    unfold wpOpIn at h1 ⊢
    cases ho : ops[i]? with
    | none => rw [ho] at h1; exact wpAnyIn_inRound hro hd fuel _ _ _ h1
    | some o =>
      rw [ho] at h1
      simp only at h1 ⊢
      split
      · rename_i hw
        rw [if_pos hw] at h1
        exact Oper.wpIn_mono (fun a' w' h => wpAnyIn_inRound hro hd fuel _ a' w' h) (oper_inRound hro (noDefer_spec hd ho) h1)
      · rename_i hw
        rw [if_neg hw] at h1
        exact ⟨h1.1, wpAnyIn_inRound hro hd fuel _ _ _ h1.2⟩
/-- a quiet region in a round -/
theorem wpIn_region_quiet_round {id : Nat} {Q : Exit → Act → World → Prop} {a : Act} {w : World} {l : List Oper} {l0 : Nat} (hro : F.round = none) (hm : P.follows .mixedOrders = true) (hB : Region.lexB .any l.toArray = true) (hd : noDefer l.toArray = true)
    (h : wpQuietIn F n P l.toArray (fun w' => ∃ n, w' = w.drewN n) (fun a' => ∀ w', (∃ n, w' = w.drewN n) → Q .normal a' w') l a) : (Code.region id l.toArray true).wpIn (F.inRound l0) n P Q a w := by
  simp only [Region.lexB, Bool.and_eq_true] at hB
  refine wpIn_region_any hm (wpAnyIn_inRound hro hd _ _ _ _ (wpAnyIn_of_quiet (C := fun w' => ∃ n, w' = w.drewN n) (Q := fun a' => ∀ w', (∃ n, w' = w.drewN n) → Q .normal a' w') hro (fun _ w' hw' h => h w' hw') _ _ _ _ ⟨1, rfl⟩ ?_))
  have := wpAnyQIn_lex (F := F) (n := n) (C := fun w' => ∃ n, w' = w.drewN n) (md := .any) hB.1 l.toArray.toList 0 (Array.replicate l.toArray.size false) a (by simp) (by simpa using hB.2) (by simpa using h)
  simpa using this
end
theorem item_ne {z x : Kv} (h : z ≠ x) : ¬ z.1.toList = x.1.toList ∨ (z.1.toList = x.1.toList ∧ ¬ z.2.k = x.2.k) ∨ (z.1.toList = x.1.toList ∧ z.2.k = x.2.k ∧ ¬ z.2.n = x.2.n) ∨ (z.1.toList = x.1.toList ∧ z.2.k = x.2.k ∧ z.2.n = x.2.n ∧ ¬ z.2.s.toList = x.2.s.toList) := by
  obtain ⟨z1, zk, zn, zs⟩ := z
  obtain ⟨x1, xk, xn, xs⟩ := x
  by_cases h1 : z1.toList = x1.toList
  · by_cases h2 : zk = xk
    · by_cases h3 : zn = xn
      · refine .inr (.inr (.inr ⟨h1, h2, h3, fun h4 => h ?_⟩))
        have e1 : z1 = x1 := ba_inj h1
        have e4 : zs = xs := ba_inj h4
        have e2 : zk = xk := h2
        have e3 : zn = xn := h3
        rw [e1, e2, e3, e4]
      · exact .inr (.inr (.inl ⟨h1, h2, h3⟩))
    · exact .inr (.inl ⟨h1, h2⟩)
  · exact .inl h1
theorem good_nat {p r : Int} (h : goodPR p r = true) : ∃ p' r' : Nat, p = p' ∧ r = r' ∧ (1 ≤ p' ∧ p' ≤ 64) ∧ (1 ≤ r' ∧ r' ≤ 4096) := by
  unfold goodPR at h
  simp at h
  exact ⟨p.toNat, r.toNat, by omega, by omega, by omega, by omega⟩
/-- what stays: all below B, and every cells block -/
def Keeps (B : Nat) (W W' : World) : Prop := (W'.os = W.os ∧ W'.tape = W.tape ∧ W'.output = W.output) ∧ W.heap.size ≤ W'.heap.size ∧ ∀ b, b < W.heap.size → (b < B ∨ ∃ o : Obj, W.heap[b]? = some o ∧ o.isCells = true) → W'.heap[b]? = W.heap[b]?
theorem keeps_grown {B : Nat} {W W' : World} {row : Option Nat} (hg : W.grownBy W' row) (hr : ∀ r, row = some r → B ≤ r ∧ ∃ o : Obj, W.heap[r]? = some o ∧ o.isCells = false) : Keeps B W W' := by
  refine ⟨⟨hg.os, hg.tape, hg.output⟩, hg.size, fun b hb hc => hg.block b hb fun e => ?_⟩
  obtain ⟨h1, o, h2, h3⟩ := hr b e.symm
  rcases hc with hc | ⟨o', h4, h5⟩
  · omega
  · rw [h2] at h4; cases h4; rw [h3] at h5; cases h5
theorem keeps_below {B : Nat} {W W' : World} (h : Below W.heap.size W W') : Keeps B W W' := ⟨⟨h.os, h.tape, h.output⟩, h.size, fun b hb _ => h.block b hb⟩
theorem Keeps.bel {B m : Nat} {W W' : World} (hk : Keeps B W W') (hm : m ≤ B) (hW : m ≤ W.heap.size) : Below m W W' := ⟨hk.1.1, hk.1.2.1, hk.1.2.2, hk.2.1, fun b hb => hk.2.2 b (by omega) (.inl (by omega))⟩
theorem Blk.keeps {B b : Nat} {t : TypeId} {cs : Array Value} {W W' : World} (h : Blk W b t cs) (hk : Keeps B W W') : Blk W' b t cs := (hk.2.2 b h.lt (.inr ⟨_, h, rfl⟩)).trans h
theorem Keeps.kp {B n₀ : Nat} {W W' : World} (hk : Keeps B W W') : KpI n₀ W W' := fun b cs _ h => (hk.2.2 b (Array.getElem?_eq_some_iff.1 h).1 (.inr ⟨_, h, rfl⟩)).trans h
theorem PAt.keeps {B : Nat} {S : Nat → Prop} {W W' : World} {g : Nat} {s : St} (h : PAt S W g s) (hS : ∀ j, S j → j < B) (hk : Keeps B W W') : PAt S W' g s := by
  obtain ⟨_, _, _, _, h⟩ := h
  exact ⟨_, _, _, _, h.keep (fun b hb => hk.2.2 b (h.lt b hb) (.inl (hS b hb))) hk.2.1⟩
/-- the function's own boxes -/
def EB (m b5 b7 bn b8 : Nat) (b : Nat) : Prop := b = m + 1 ∨ b = m + 1 + 1 ∨ b = b5 ∨ b = b7 ∨ b = bn ∨ b = b8
structure EInv (n₀ m b5 b7 bn b8 g : Nat) (st : Int) (A : Option Addr) (c : Nat) (D : List Kv) (W : World) : Prop where
  k3 : Blk W (m + 1) 3 #[.int .i64 st]
  k4 : Blk W (m + 1 + 1) 4 #[.bool false]
  k5 : Blk W b5 26 #[.pointer (some ⟨g, 0, none⟩)]
  k7 : Blk W b7 31 #[.slice A D.length c]
  kn : Blk W bn 26 #[.pointer (some ⟨g, 0, none⟩)]
  k8 : Blk W b8 34 #[.func (.func 22) #[] #[.pointer (some ⟨bn, 0, none⟩)]]
  row : W.ownsRow n₀ 39 4 (.slice A D.length c) D.length (kvCells D)
section
variable {n₀ m b5 b7 bn b8 g c B : Nat} {st : Int} {A : Option Addr} {D : List Kv} {W W' : World}
theorem EInv.same (h : EInv n₀ m b5 b7 bn b8 g st A c D W) (hk : ∀ b, EB m b5 b7 bn b8 b → b < W.heap.size → W'.heap[b]? = W.heap[b]?) (hI : KpI n₀ W W') : EInv n₀ m b5 b7 bn b8 g st A c D W' :=
  ⟨(hk _ (.inl rfl) h.k3.lt).trans h.k3, (hk _ (.inr (.inl rfl)) h.k4.lt).trans h.k4, (hk _ (.inr (.inr (.inl rfl))) h.k5.lt).trans h.k5, (hk _ (.inr (.inr (.inr (.inl rfl)))) h.k7.lt).trans h.k7, (hk _ (.inr (.inr (.inr (.inr (.inl rfl))))) h.kn.lt).trans h.kn, (hk _ (.inr (.inr (.inr (.inr (.inr rfl))))) h.k8.lt).trans h.k8, hI.row (Nat.le_refl _) h.row⟩
theorem EInv.keeps (h : EInv n₀ m b5 b7 bn b8 g st A c D W) (hk : Keeps B W W') : EInv n₀ m b5 b7 bn b8 g st A c D W' :=
  ⟨h.k3.keeps hk, h.k4.keeps hk, h.k5.keeps hk, h.k7.keeps hk, h.kn.keeps hk, h.k8.keeps hk, hk.kp.row (Nat.le_refl _) h.row⟩
theorem EInv.set {b : Nat} {t : TypeId} {cs : Array Value} (h : EInv n₀ m b5 b7 bn b8 g st A c D W) (hb : Blk W b t cs) (ht : t ≠ 39) (hE : ¬ EB m b5 b7 bn b8 b) (i : Nat) (u : Value) : EInv n₀ m b5 b7 bn b8 g st A c D (W.setCell ⟨b, i, none⟩ u) :=
  h.same (fun b' hb' _ => Below.heap_setCell W ⟨b, i, none⟩ u b' fun e => hE (by have e : b' = b := e; rw [← e]; exact hb')) (.set hb ht i u)
theorem EInv.upd {S : Nat → Prop} (h : EInv n₀ m b5 b7 bn b8 g st A c D W) (hu : Upd S W W') (hE : ∀ b, EB m b5 b7 bn b8 b → ¬ S b) (hS : ∀ j, S j → j < n₀) : EInv n₀ m b5 b7 bn b8 g st A c D W' :=
  h.same (fun b hb hl => hu.block b hl (hE b hb)) (.upd hu hS)
/-- between two rounds of the outer loop -/
structure OI (w : World) (S : Nat → Prop) (s : St) (n₀ m b5 b7 bn b8 b9 g : Nat) (st : Int) (A : Option Addr) (c : Nat) (D pre : List Kv) (W : World) : Prop where
  pf : pre <+: D
  inv : EInv n₀ m b5 b7 bn b8 g st A c D W
  k9 : Blk W b9 3 #[.int .i64 pre.length]
  sto : (pre.length : Int) ≤ st → PAt S W g s
  bel : Below m w W
/-- between two rounds of the inner loop, which began at W -/
structure II (S : Nat → Prop) (s : St) (n₀ m b5 b7 bn b8 b9 g B Bx : Nat) (st : Int) (A : Option Addr) (c : Nat) (D pre : List Kv) (x : Kv) (W W' : World) : Prop where
  inv : EInv n₀ m b5 b7 bn b8 g st A c D W'
  k9 : Blk W' b9 3 #[.int .i64 pre.length]
  kx : Blk W' Bx 37 #[.int .i64 x.2.k, .int .i64 x.2.n, .string x.2.s]
  sto : PAt S W' g s
  kf : KeepsFrom B W W'
  kp : KpI n₀ W W'
  kb : Below m W W'
variable {S : Nat → Prop} {s : St} {b9 Bx : Nat} {pre : List Kv} {x : Kv} {W0 X w : World}
theorem OI.keeps (h : OI w S s n₀ m b5 b7 bn b8 b9 g st A c D pre W) (hS : ∀ j, S j → j < B) (hmB : m ≤ B) (hk : Keeps B W W') : OI w S s n₀ m b5 b7 bn b8 b9 g st A c D pre W' :=
  ⟨h.pf, h.inv.keeps hk, h.k9.keeps hk, fun e => (h.sto e).keeps hS hk, h.bel.trans (hk.bel hmB (by have := h.inv.k4.lt; omega))⟩
theorem II.grown {B' : Nat} {row : Option Nat} (h : II S s n₀ m b5 b7 bn b8 b9 g B Bx st A c D pre x W X) (hW : W.heap.size ≤ B') (hS : ∀ j, S j → j < B') (hmB : m ≤ B') (hg : X.grownBy W' row) (hr : ∀ r, row = some r → B' ≤ r ∧ ∃ o : Obj, X.heap[r]? = some o ∧ o.isCells = false) : II S s n₀ m b5 b7 bn b8 b9 g B Bx st A c D pre x W W' :=
  have hk := keeps_grown hg hr
  ⟨h.inv.keeps hk, h.k9.keeps hk, h.kx.keeps hk, h.sto.keeps hS hk, ownFrom_keepsFrom hW () X W' row h.kf hg hr, h.kp.trans hk.kp, h.kb.trans (hk.bel hmB (by have := h.inv.k4.lt; omega))⟩
/-- what a round owes of its end -/
def Okk (m B n₀ : Nat) (W W' : World) : Prop := KeepsFrom B W W' ∧ KpI n₀ W W' ∧ Below m W W'
theorem Okk.trans (h : Okk m B n₀ W W') (k : Okk m B n₀ W' X) : Okk m B n₀ W X := ⟨h.1.trans k.1, h.2.1.trans k.2.1, h.2.2.trans k.2.2⟩
theorem okk_below (hm : m ≤ W.heap.size) (h : Below W.heap.size W W') : Okk m B n₀ W W' := ⟨⟨h.size, fun k o _ hk _ => (h.block k (Array.getElem?_eq_some_iff.1 hk).1).trans hk⟩, .bel h, h.mono hm⟩
theorem okk_set {b : Nat} {t : TypeId} {cs : Array Value} (hm : m ≤ b) (h : Blk W b t cs) (ht : t ≠ 39) (i : Nat) (u : Value) : Okk m B n₀ W (W.setCell ⟨b, i, none⟩ u) := ⟨(KeepsOthers.setCell _ _ _).from _, .set h ht i u, (Below.refl _ _).setCell (p := ⟨b, i, none⟩) hm u⟩
theorem okk_upd (hW : m ≤ W.heap.size) (hm : ∀ j, S j → m ≤ j) (hu : Upd S W W') (hS : ∀ j, S j → j < n₀) (hB : n₀ ≤ B) : Okk m B n₀ W W' := ⟨⟨hu.size, fun k o hk h _ => (hu.block k (Array.getElem?_eq_some_iff.1 h).1 fun hm => by have := hS k hm; omega).trans h⟩, .upd hu hS, hu.below hW fun k hk hS => by have := hm k hS; omega⟩
theorem pre_next (hp : pre <+: D) (hlt : pre.length < D.length) (hx : x = D[pre.length]) : pre ++ [x] <+: D := by
  have h1 : pre = D.take pre.length := List.prefix_iff_eq_take.1 hp
  have h2 := List.take_succ_eq_append_getElem hlt
  rw [← hx, ← h1] at h2
  rw [← h2]
  exact List.take_prefix _ _
theorem oi_next (hinv : EInv n₀ m b5 b7 bn b8 g st A c D W) (hk9 : Blk W b9 3 #[.int .i64 pre.length]) (hx : pre ++ [x] <+: D) (hE : ¬ EB m b5 b7 bn b8 b9) (hS9 : ¬ S b9) (hs : (pre.length : Int) + 1 ≤ st → PAt S W g s) (hb : Below m w W) (hm9 : m ≤ b9) :
    OI w S s n₀ m b5 b7 bn b8 b9 g st A c D (pre ++ [x]) (W.setCell ⟨b9, 0, none⟩ (.int .i64 ((pre.length : Int) + 1))) :=
  ⟨hx, hinv.set hk9 (by decide) hE 0 _, by
    have := hk9.set_ 0 (.int .i64 ((pre.length : Int) + 1))
    simpa using this, fun e => (hs (by simpa using e)).upd (M := fun j => j = b9) ((Upd.refl (fun j => j = b9) W).setCell (p := ⟨b9, 0, none⟩) (fun _ => rfl) _) fun j hj e => hS9 (e ▸ hj), hb.setCell (p := ⟨b9, 0, none⟩) hm9 _⟩
theorem II.below (h : II S s n₀ m b5 b7 bn b8 b9 g B Bx st A c D pre x W X) (hb : Below X.heap.size X W') : II S s n₀ m b5 b7 bn b8 b9 g B Bx st A c D pre x W W' :=
  have hk : Keeps B X W' := keeps_below hb
  ⟨h.inv.keeps hk, h.k9.keeps hk, h.kx.keeps hk, h.sto.below hb, h.kf.trans (okk_below (m := m) (n₀ := n₀) (by have := h.inv.k4.lt; omega) hb).1, h.kp.trans (okk_below (m := m) (B := B) (by have := h.inv.k4.lt; omega) hb).2.1, h.kb.trans (hb.mono (by have := h.inv.k4.lt; omega))⟩
theorem II.set {bk : Nat} {cs : Array Value} (h : II S s n₀ m b5 b7 bn b8 b9 g B Bx st A c D pre x W X) (hb : Blk X bk 3 cs) (hE : ¬ EB m b5 b7 bn b8 bk) (h9 : b9 ≠ bk) (hS : ¬ S bk) (hmk : m ≤ bk) (i : Nat) (u : Value) : II S s n₀ m b5 b7 bn b8 b9 g B Bx st A c D pre x W (X.setCell ⟨bk, i, none⟩ u) :=
  ⟨h.inv.set hb (by decide) hE i u, h.k9.far (p := ⟨bk, i, none⟩) h9 u, h.kx.far (p := ⟨bk, i, none⟩) (h.kx.ne_ hb (by decide)) u, h.sto.upd (M := fun j => j = bk) ((Upd.refl (fun j => j = bk) X).setCell (p := ⟨bk, i, none⟩) (fun _ => rfl) _) (fun j hj e => hS (e ▸ hj)),
    h.kf.trans (okk_set (n₀ := n₀) hmk hb (by decide) i u).1, h.kp.trans (okk_set (B := B) hmk hb (by decide) i u).2.1, h.kb.setCell (p := ⟨bk, i, none⟩) hmk u⟩
theorem valid_size {k : ByteArray} (h : validK k = true) : k.size ≤ 9223372036854775806 := by
  unfold validK at h
  simp at h
  omega
theorem dump_key (hok : s.Ok) (hD : dumpL s.L = D) (hx : x ∈ D) : x.1.size ≤ 9223372036854775806 := by
  subst hD
  exact valid_size (hok.key x (List.mem_filter.1 hx).1)
end
end Go.Proofs.Ytnbbdjbjbjlcpaa
