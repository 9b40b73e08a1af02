/- Texts of the proof, joined: KBack, KRRd, KRRd2, KRNew, KRNum, KNum, KRUint, KTk, KOps2, KOps3, KValid. -/
import Derived.Test.YtbakfkhmopebnaaJ03
import Derived.Test.YtbakfkhmopebnaaJ05
import Derived.Test.YtbakfkhmopebnaaJ04
import Derived.Laws.Rows
import Derived.Test.YtbakfkhmopebnaaJ02
namespace Go.Proofs.Ytbakfkhmopebnaa
set_option linter.unusedVariables false
set_option linter.unusedSimpArgs false

/-- these bytes stand at a place -/
def Has (b : List Nat) (a : Nat) (l : List Nat) : Prop := ∀ j c, l[j]? = some c → b[a + j]? = some c
theorem Has.app {b : List Nat} {a : Nat} {l m : List Nat} (h : Has b a (l ++ m)) : Has b a l ∧ Has b (a + l.length) m := by
  refine ⟨fun j c hj => h j c ?_, fun j c hj => ?_⟩
  · rw [List.getElem?_append_left (List.getElem?_eq_some_iff.1 hj).1]; exact hj
  · rw [Nat.add_assoc]
    refine h _ c ?_
    rw [List.getElem?_append_right (by omega), Nat.add_sub_cancel_left]; exact hj
theorem Has.cons {b : List Nat} {a c : Nat} {m : List Nat} (h : Has b a (c :: m)) : b[a]? = some c ∧ Has b (a + 1) m := ⟨h 0 c rfl, (Has.app (l := [c]) h).2⟩
theorem Has.self (l : List Nat) : Has l 0 l := fun j c hj => by rwa [Nat.zero_add]
theorem Has.len {b : List Nat} {a : Nat} {l : List Nat} (h : Has b a l) (hl : 0 < l.length) : a + l.length ≤ b.length := by
  have := h (l.length - 1) _ (List.getElem?_eq_getElem (by omega))
  have := (List.getElem?_eq_some_iff.1 this).1
  omega
theorem Has.took {b : List Nat} {a : Nat} {l : List Nat} (h : Has b a l) (ha : a + l.length ≤ b.length) : (b.drop a).take l.length = l := by
  apply List.ext_getElem?
  intro j
  by_cases hj : j < l.length
  · rw [List.getElem?_take_of_lt hj, List.getElem?_drop, h j _ (List.getElem?_eq_getElem hj), List.getElem?_eq_getElem hj]
  · rw [List.getElem?_take_eq_none (by omega), List.getElem?_eq_none (by omega)]
theorem num_has {b : List Nat} {a n : Nat} (h : Has b a (putU n)) (hn : n < 18446744073709551616) : num b a = .inl (n, (putU n).length) := by
  unfold num
  have h9 : n < 128 ^ 9 * 2 := by
    have : 128 ^ 9 * 2 = 18446744073709551616 := by decide
    omega
  have := num_putF b a 9 n 0 0 rfl h9 (by omega) (fun j c hj => by rw [Nat.add_zero]; exact h j c hj)
  simpa [putU] using this
section
variable {r : Rr} {n : Nat}
theorem count_has {most : Nat} (he : r.e = 0) (h : Has r.b r.at_ (putU n)) (hm : n ≤ most) (hs : most < 18446744073709551616) : r.count most = (n, r.took (putU n).length) := by
  unfold Rr.count
  rw [if_neg (by simp [he]), num_has h (by omega)]
  simp only
  rw [if_neg (by omega)]
theorem uint_has (he : r.e = 0) (h : Has r.b r.at_ (putU n)) (hs : n < 18446744073709551616) : r.uint = (n, r.took (putU n).length) := by
  unfold Rr.uint
  rw [if_neg (by simp [he]), num_has h (by omega)]
theorem int_has {n : Int} (he : r.e = 0) (h : Has r.b r.at_ (putU (zig n))) (h1 : -9223372036854775808 ≤ n) (h2 : n ≤ 9223372036854775807) : r.int = (n, r.took (putU (zig n)).length) := by
  unfold Rr.int
  rw [if_neg (by simp [he]), num_has h (zig_lt h1 h2)]
  simp only
  rw [zag_zig]
theorem byte_has {c : Nat} (he : r.e = 0) (h : r.b[r.at_]? = some c) : r.byte = (c, r.took 1) := by
  unfold Rr.byte
  rw [if_neg (by simp [he]), h]
theorem text_has {s : ByteArray} (he : r.e = 0) (h : Has r.b r.at_ (putU s.size ++ tb s)) (hs : s.size ≤ 64) : r.text 64 = (s, r.took ((putU s.size).length + s.size)) := by
  obtain ⟨h1, h2⟩ := h.app
  unfold Rr.text
  rw [if_neg (by simp [he]), num_has h1 (by omega)]
  simp only
  have hl := h1.len (by have := putF_len 9 s.size; unfold putU; omega)
  have hr : r.at_ + (putU s.size).length + (tb s).length ≤ r.b.length := by
    by_cases e : (tb s).length = 0
    · omega
    · have := h2.len (by omega); omega
  have ht := h2.took hr
  rw [tb_len] at ht hr
  rw [if_neg (by omega), if_neg (by omega), ht, bt_tb]
theorem vput_len (v : Vl) (h : v.ok = true) : 1 ≤ (vput v).length := by
  unfold vput
  rw [if_pos h]
  split
  · simp
  · split <;> simp
def Vl.rng (v : Vl) : Prop := -9223372036854775808 ≤ v.n ∧ v.n ≤ 9223372036854775807
theorem ok_forms {v : Vl} (h : v.ok = true) : v = vl0 ∨ (v.k = 1 ∧ v.s = ⟨#[]⟩) ∨ (v.k = 2 ∧ v.n = 0 ∧ v.s.size ≤ 64 ∧ okT v.s = true) := by
  unfold Vl.ok at h
  split at h
  · rename_i h1
    simp only [Bool.and_eq_true, decide_eq_true_eq] at h
    obtain ⟨k, n, s⟩ := v
    simp only at h1 h
    exact .inl (by rw [h1, h.1, h.2]; rfl)
  · split at h
    · rename_i h2
      exact .inr (.inl ⟨h2, of_decide_eq_true h⟩)
    · split at h
      · rename_i h3
        simp only [Bool.and_eq_true, decide_eq_true_eq] at h
        exact .inr (.inr ⟨h3, h.1, h.2.1, h.2.2⟩)
      · cases h
theorem took_e (r : Rr) (k : Nat) : (r.took k).e = r.e ∧ (r.took k).b = r.b ∧ (r.took k).at_ = r.at_ + k := ⟨rfl, rfl, rfl⟩
theorem take_has {v : Vl} (he : r.e = 0) (hv : v.ok = true) (hr : v.rng) (h : Has r.b r.at_ (vput v)) : ∃ r', r.take = (v, r') ∧ r'.b = r.b ∧ r'.e = 0 ∧ r'.at_ = r.at_ + (vput v).length := by
  unfold vput at h ⊢
  rw [if_pos hv] at h ⊢
  rcases ok_forms hv with rfl | ⟨h1, h2⟩ | ⟨h1, h2, h3, h4⟩
  · rw [if_neg (by decide), if_neg (by decide)] at h ⊢
    have h0 := h.cons.1
    refine ⟨r.took 1, ?_, rfl, he, rfl⟩
    unfold Rr.take
    rw [byte_has he h0]
    simp
  · rw [if_pos h1] at h ⊢
    obtain ⟨h0, h5⟩ := h.cons
    refine ⟨(r.took 1).took (putU (zig v.n)).length, ?_, rfl, he, ?_⟩
    · unfold Rr.take
      rw [byte_has he h0]
      simp only
      rw [if_neg (by decide)]
      simp only [if_true]
      rw [int_has (r := r.took 1) he h5 hr.1 hr.2]
      simp only
      rw [if_pos (show ((r.took 1).took (putU (zig v.n)).length).e = 0 from he)]
      obtain ⟨k, n, s⟩ := v
      simp only at h1 h2
      rw [h1, h2]
    · show r.at_ + 1 + _ = _
      simp; omega
  · rw [if_neg (by omega), if_pos h1] at h ⊢
    obtain ⟨h0, h5⟩ := h.cons
    refine ⟨(r.took 1).took ((putU v.s.size).length + v.s.size), ?_, rfl, he, ?_⟩
    · unfold Rr.take
      rw [byte_has he h0]
      simp only
      rw [if_neg (by decide), if_neg (by decide)]
      simp only [if_true]
      rw [text_has (r := r.took 1) he h5 h3]
      simp only
      rw [if_pos h4, if_pos (show ((r.took 1).took ((putU v.s.size).length + v.s.size)).e = 0 from he)]
      obtain ⟨k, n, s⟩ := v
      simp only at h1 h2
      rw [h1, h2]
    · show r.at_ + 1 + _ = _
      simp [tb_len]; omega
end
theorem getC_has : ∀ (cs : List Vl) (r : Rr) (l : List Vl), r.e = 0 → (∀ v ∈ cs, v.ok = true ∧ v.k ≠ 0 ∧ v.rng) → Has r.b r.at_ (cs.flatMap vput) → ∃ r', getC cs.length r l = .inl (r', l ++ cs) ∧ r'.b = r.b ∧ r'.e = 0 ∧ r'.at_ = r.at_ + (cs.flatMap vput).length := by
  intro cs
  induction cs with
  | nil => intro r l he _ _; exact ⟨r, by simp [getC], rfl, he, by simp⟩
  | cons v cs ih =>
    intro r l he hv h
    rw [List.flatMap_cons] at h
    obtain ⟨h1, h2⟩ := h.app
    obtain ⟨a1, a2, a3⟩ := hv v List.mem_cons_self
    obtain ⟨r1, b1, b2, b3, b4⟩ := take_has he a1 a3 h1
    obtain ⟨r2, c1, c2, c3, c4⟩ := ih r1 (l ++ [v]) b3 (fun u hu => hv u (List.mem_cons_of_mem _ hu)) (by rw [b2, b4]; exact h2)
    refine ⟨r2, ?_, c2.trans b2, c3, ?_⟩
    · rw [List.length_cons, getC, if_neg (by simp [he]), b1]
      simp only
      rw [if_neg (by rintro ⟨_, h⟩; exact a2 h), c1]
      simp
    · rw [c4, b4, List.flatMap_cons, List.length_append]; omega
theorem getI_has : ∀ (code : List Is) (r : Rr) (l : List Is), r.e = 0 → (∀ i ∈ code, 0 ≤ i.op ∧ 0 ≤ i.n ∧ i.n ≤ 255) → Has r.b r.at_ (code.flatMap iput) → ∃ r', getI code.length r l none = (r', l ++ code, none) ∧ r'.b = r.b ∧ r'.e = 0 ∧ r'.at_ = r.at_ + (code.flatMap iput).length := by
  intro code
  induction code with
  | nil => intro r l he _ _; exact ⟨r, by simp [getI], rfl, he, by simp⟩
  | cons i code ih =>
    intro r l he hv h
    rw [List.flatMap_cons] at h
    obtain ⟨h1, h2⟩ := h.app
    obtain ⟨a1, a2, a3⟩ := hv i List.mem_cons_self
    unfold iput at h1
    obtain ⟨g1, g2⟩ := h1.cons
    obtain ⟨r2, c1, c2, c3, c4⟩ := ih ((r.took 1).took (putU i.n.toNat).length) (l ++ [i]) he (fun u hu => hv u (List.mem_cons_of_mem _ hu)) (by
      show Has r.b (r.at_ + 1 + _) _
      unfold iput at h2
      rw [List.length_cons] at h2
      rwa [show r.at_ + 1 + (putU i.n.toNat).length = r.at_ + ((putU i.n.toNat).length + 1) by omega])
    refine ⟨r2, ?_, c2, c3, ?_⟩
    · rw [List.length_cons, getI, if_neg (by simp [he]), byte_has he g1]
      simp only
      rw [uint_has (r := r.took 1) he g2 (by omega)]
      simp only
      rw [if_neg (by omega), show min i.n.toNat 255 = i.n.toNat by omega, Int.toNat_of_nonneg a1, Int.toNat_of_nonneg a2, c1]
      simp
    · rw [c4, List.flatMap_cons, List.length_append]
      show r.at_ + 1 + _ + _ = _
      unfold iput
      rw [List.length_cons]; omega
/-- what a form that is right says -/
theorem form_ok {p : Pr} (h : p.form.1 = 0) : 0 ≤ p.args ∧ p.args ≤ 8 ∧ p.cs.length ≤ 32 ∧ (∀ v ∈ p.cs, v.ok = true ∧ v.k ≠ 0) ∧ 0 < p.code.length ∧ p.code.length ≤ 256 ∧ ∀ i ∈ p.code, isOp i.op = true ∧ 0 ≤ i.n ∧ i.n < p.most i.op := by
  unfold Pr.form at h
  split at h
  · cases h
  rename_i h1
  split at h
  · cases h
  rename_i h2
  split at h
  · rename_i h3; exact absurd h h3
  rename_i h3
  split at h
  · cases h
  rename_i h4
  refine ⟨by omega, by omega, by omega, fun v hv => ?_, by omega, by omega, fun i hi => ?_⟩
  · obtain ⟨j, hj, rfl⟩ := List.mem_iff_getElem.1 hv
    rcases scan_form (fun i => conE (p.cs.getD i vl0)) p.cs.length 0 with ⟨_, h5⟩ | ⟨q, _, _, h6, h7, _⟩
    · have := h5 j (Nat.zero_le _) (by omega)
      simp only [List.getD_eq_getElem?_getD, List.getElem?_eq_getElem hj, Option.getD_some, conE] at this
      split at this
      · assumption
      · cases this
    · rw [h7] at h3; exact absurd h3 (by simpa using h6)
  · obtain ⟨j, hj, rfl⟩ := List.mem_iff_getElem.1 hi
    rcases scan_form (fun i => p.insE (p.code.getD i is0)) p.code.length 0 with ⟨_, h5⟩ | ⟨q, _, _, h6, h7, _⟩
    · have := h5 j (Nat.zero_le _) (by omega)
      simp only [List.getD_eq_getElem?_getD, List.getElem?_eq_getElem hj, Option.getD_some, Pr.insE] at this
      split at this
      · cases this
      · rename_i h8
        split at this
        · rename_i h9; exact ⟨by simpa using h8, h9.1, h9.2⟩
        · cases this
    · rw [h7] at h; exact absurd h h6
theorem most_le {p : Pr} (h : p.form.1 = 0) (op : Int) : p.most op ≤ 256 := by
  obtain ⟨h1, h2, h3, _, _, h6, _⟩ := form_ok h
  unfold Pr.most
  split
  · omega
  · split
    · omega
    · split <;> omega
theorem get_put {p : Pr} (hc : p.check.1 = 0) (hr : ∀ v ∈ p.cs, v.rng) : getP p.put = .inl p := by
  obtain ⟨d, hd, hf, _⟩ := deps_len hc
  obtain ⟨f1, f2, f3, f4, f5, f6, f7⟩ := form_ok hf
  have h0 := Has.self p.put
  unfold Pr.put at h0
  obtain ⟨g1, h1⟩ := h0.app
  obtain ⟨g2, h2⟩ := h1.app
  obtain ⟨g3, h3⟩ := h2.app
  obtain ⟨g4, g5⟩ := h3.app
  obtain ⟨B, hB⟩ : ∃ B, B = p.put := ⟨_, rfl⟩
  have hB' : putU p.args.toNat ++ (putU p.cs.length ++ (p.cs.flatMap vput ++ (putU p.code.length ++ p.code.flatMap iput))) = B := by rw [hB]; rfl
  rw [hB'] at g1 g2 g3 g4 g5
  rw [← hB]
  unfold getP
  have c1 := count_has (r := Rr.new B) (most := 8) (n := p.args.toNat) rfl g1 (by omega) (by omega)
  rw [show ((8 : Nat) : Int) = 8 from rfl] at c1
  rw [c1]
  simp only
  obtain ⟨R1, hR1⟩ : ∃ R1, R1 = (Rr.new B).took (putU p.args.toNat).length := ⟨_, rfl⟩
  rw [← hR1]
  have b1 : R1.b = B ∧ R1.e = 0 ∧ R1.at_ = 0 + (putU p.args.toNat).length := by subst hR1; exact ⟨rfl, rfl, rfl⟩
  have c2 := count_has (r := R1) (most := 32) (n := p.cs.length) b1.2.1 (by rw [b1.1, b1.2.2]; exact g2) f3 (by omega)
  rw [show ((32 : Nat) : Int) = 32 from rfl] at c2
  rw [c2]
  simp only
  obtain ⟨R2, hR2⟩ : ∃ R2, R2 = R1.took (putU p.cs.length).length := ⟨_, rfl⟩
  rw [← hR2]
  have b2 : R2.b = B ∧ R2.e = 0 ∧ R2.at_ = 0 + (putU p.args.toNat).length + (putU p.cs.length).length := by subst hR2; exact ⟨b1.1, b1.2.1, by show R1.at_ + _ = _; rw [b1.2.2]⟩
  obtain ⟨R3, c3, d1, d2, d3⟩ := getC_has p.cs R2 [] b2.2.1 (fun v hv => ⟨(f4 v hv).1, (f4 v hv).2, hr v hv⟩) (by rw [b2.1, b2.2.2]; exact g3)
  rw [c3]
  simp only [List.nil_append]
  have c4 := count_has (r := R3) (most := 256) (n := p.code.length) d2 (by rw [d1, b2.1, d3, b2.2.2]; exact g4) f6 (by omega)
  rw [show ((256 : Nat) : Int) = 256 from rfl] at c4
  rw [c4]
  simp only
  obtain ⟨R4, hR4⟩ : ∃ R4, R4 = R3.took (putU p.code.length).length := ⟨_, rfl⟩
  rw [← hR4]
  have b4 : R4.b = B ∧ R4.e = 0 ∧ R4.at_ = 0 + (putU p.args.toNat).length + (putU p.cs.length).length + (p.cs.flatMap vput).length + (putU p.code.length).length := by subst hR4; exact ⟨d1.trans b2.1, d2, by show R3.at_ + _ = _; rw [d3, b2.2.2]⟩
  obtain ⟨R5, c5, e1, e2, e3⟩ := getI_has p.code R4 [] b4.2.1 (fun i hi => by
    obtain ⟨q1, q2, q3⟩ := f7 i hi
    have := most_le hf i.op
    unfold isOp at q1
    simp only [Bool.and_eq_true, decide_eq_true_eq] at q1
    exact ⟨by omega, q2, by omega⟩) (by rw [b4.1, b4.2.2]; exact g5)
  rw [c5]
  simp only [List.nil_append]
  have hend : R5.end_ = R5 := by
    unfold Rr.end_
    rw [if_neg]
    rintro ⟨_, h⟩
    rw [e1, b4.1, e3, b4.2.2, ← hB'] at h
    simp only [List.length_append] at h
    omega
  rw [hend, if_neg (by rw [e2]; decide)]
  have hp : (⟨((p.args.toNat : Nat) : Int), p.cs, p.code⟩ : Pr) = p := by
    obtain ⟨a, cs, code⟩ := p
    simp only at f1 ⊢
    rw [Int.toNat_of_nonneg f1]
  rw [hp, if_neg (by rw [hc]; decide)]

end Go.Proofs.Ytbakfkhmopebnaa

namespace Go.Proofs.Ytbakfkhmopebnaa
open Go.RowKit
set_option linter.unusedVariables false
set_option linter.unusedSimpArgs false

def rcell (A : Option Addr) (c : Nat) (r : Rr) : Array Value := #[.slice A r.b.length c, .int .i64 (r.at_ : Nat), .int .i64 (r.last : Nat), .int .i64 r.e, .int .i64 (r.spot : Nat)]
structure RrOf (T : TypeId) (S : Nat → Prop) (w : World) (g : Nat) (A : Option Addr) (c : Nat) (r : Rr) : Prop where
  blk : Blk w g T #[.slice A r.b.length c, .int .i64 (r.at_ : Nat), .int .i64 (r.last : Nat), .int .i64 r.e, .int .i64 (r.spot : Nat)]
  row : Rd S w 1 A r.b.length (bcells r.b)
  ne : ∀ k, S k → k ≠ g
  at_le : r.at_ ≤ r.b.length
  len : r.b.length ≤ 1000000
  byt : ∀ x ∈ r.b, x < 256
  cap : r.b.length ≤ c
abbrev RrIn := RrOf 81
theorem bcells_at {l : List Nat} {k : Nat} (h : k < l.length) : (bcells l)[k]? = some (.int .u8 (l[k] : Nat)) := by unfold bcells; rw [List.getElem?_map, List.getElem?_eq_getElem h]; rfl
theorem RrOf.drewN {T : TypeId} {S : Nat → Prop} {w : World} {g : Nat} {A : Option Addr} {c : Nat} {r : Rr} (h : RrOf T S w g A c r) (n : Nat) : RrOf T S (w.drewN n) g A c r := ⟨h.blk.drewN n, h.row.drewN n, h.ne, h.at_le, h.len, h.byt, h.cap⟩
theorem RrOf.go {T : TypeId} {S : Nat → Prop} {w w' : World} {g : Nat} {A : Option Addr} {c : Nat} {r r' : Rr} (h : RrOf T S w g A c r) (hu : Upd (fun k => k = g) w w') (hb : Blk w' g T #[.slice A r.b.length c, .int .i64 (r'.at_ : Nat), .int .i64 (r'.last : Nat), .int .i64 r'.e, .int .i64 (r'.spot : Nat)]) (hbb : r'.b = r.b) (ha : r'.at_ ≤ r.b.length) : RrOf T S w' g A c r' :=
  ⟨by rw [hbb]; exact hb, by rw [hbb]; exact h.row.upd hu fun b hb => h.ne b hb, h.ne, by rw [hbb]; exact ha, by rw [hbb]; exact h.len, by rw [hbb]; exact h.byt, by rw [hbb]; exact h.cap⟩
theorem RrOf.upd {T : TypeId} {S : Nat → Prop} {w w' : World} {g : Nat} {A : Option Addr} {c : Nat} {r : Rr} (h : RrOf T S w g A c r) {M : Nat → Prop} (hu : Upd M w w') (hg : ¬ M g) (hS : ∀ b, S b → ¬ M b) : RrOf T S w' g A c r :=
  ⟨h.blk.upd hu hg, h.row.upd hu hS, h.ne, h.at_le, h.len, h.byt, h.cap⟩
/-- what a method leaves that hands nothing back -/
def RGone (S : Nat → Prop) (w : World) (g : Nat) (A : Option Addr) (c : Nat) (r : Rr) (e : Ending) (w' : World) : Prop := e = .returned (.tuple #[]) ∧ Upd (fun k => k = g) w w' ∧ RrIn S w' g A c r
set_option maxRecDepth 100000 in
theorem rfails_any {S : Nat → Prop} {w : World} {g : Nat} {A : Option Addr} {c : Nat} {r : Rr} (h : RrIn S w g A c r) (e : Int) : Calls Try.prog 86 #[.pointer (some ⟨g, 0, none⟩), .int .i64 e] w (RGone S w g A c (r.fails e)) := by
  have H := hid h
  have kb := h.blk
  have x0 := kb.cell 0
  have x1 := kb.cell 1
  have x2 := kb.cell 2
  have x3 := kb.cell 3
  have x4 := kb.cell 4
  simp only [List.getElem?_toArray, List.getElem?_cons_zero, List.getElem?_cons_succ] at x0 x1 x2 x3 x4
  have fz := fun q => kb.frozen q
  have kb1 := kb.set_ 3 (.int .i64 e)
  have hlt := kb.lt
  have U1 : Upd (fun k => k = g) w (w.setCell ⟨g, 3, none⟩ (.int .i64 e)) := (Upd.refl (fun k => k = g) w).setCell (p := ⟨g, 3, none⟩) (fun _ => rfl) _
  have hK1 := hid kb1; have hU1 := hid U1
  clear h kb kb1 U1
  go_enter Try.func86, Try.ntmps86
  go_upto_region 1 with fail
  generalize w.setCell ⟨g, 3, none⟩ (.int .i64 e) = w1 at *
  clear x0 x1 x2 x3 x4 fz
  have fz := fun q => hK1.out.frozen q
  have hlt1 := hK1.out.lt
  have x0 : w1.cell? ⟨g, 0, none⟩ = some (.slice A r.b.length c) := hK1.out.cell 0
  have x1 : w1.cell? ⟨g, 1, none⟩ = some (.int .i64 (r.at_ : Nat)) := hK1.out.cell 1
  have x2 : w1.cell? ⟨g, 2, none⟩ = some (.int .i64 (r.last : Nat)) := hK1.out.cell 2
  have x3 : w1.cell? ⟨g, 3, none⟩ = some (.int .i64 e) := hK1.out.cell 3
  have x4 : w1.cell? ⟨g, 4, none⟩ = some (.int .i64 (r.spot : Nat)) := hK1.out.cell 4
  go_wp2_with fail
  go_end0
  exact ⟨rfl, hU1.out.setCell (p := ⟨g, 4, none⟩) (fun _ => rfl) _, H.out.go (hU1.out.setCell (p := ⟨g, 4, none⟩) (fun _ => rfl) _) (by simpa [Rr.fails, Rr.took] using hK1.out.set_ 4 (.int .i64 (r.at_ : Nat))) rfl H.out.at_le⟩
set_option maxRecDepth 100000 in
theorem rtook_any {S : Nat → Prop} {w : World} {g : Nat} {A : Option Addr} {c : Nat} {r : Rr} (h : RrIn S w g A c r) (n : Nat) (hn : r.at_ + n ≤ r.b.length) : Calls Try.prog 87 #[.pointer (some ⟨g, 0, none⟩), .int .i64 (n : Nat)] w (RGone S w g A c (r.took n)) := by
  have H := hid h
  have kb := h.blk
  have x0 := kb.cell 0
  have x1 := kb.cell 1
  have x2 := kb.cell 2
  have x3 := kb.cell 3
  have x4 := kb.cell 4
  simp only [List.getElem?_toArray, List.getElem?_cons_zero, List.getElem?_cons_succ] at x0 x1 x2 x3 x4
  have fz := fun q => kb.frozen q
  have kb1 := kb.set_ 2 (.int .i64 (r.at_ : Nat))
  have hlt := kb.lt
  have U1 : Upd (fun k => k = g) w (w.setCell ⟨g, 2, none⟩ (.int .i64 (r.at_ : Nat))) := (Upd.refl (fun k => k = g) w).setCell (p := ⟨g, 2, none⟩) (fun _ => rfl) _
  have hK1 := hid kb1; have hU1 := hid U1
  have hn' := hid hn
  have f1 : IntKind.i64.wrap ((r.at_ : Int) + (n : Int)) = (r.at_ : Int) + (n : Int) := by have := h.len; rw [IntKind.wrap_i64]; omega
  clear hn
  clear h kb kb1 U1
  go_enter Try.func87, Try.ntmps87
  go_upto_region 1 with fail
  generalize w.setCell ⟨g, 2, none⟩ (.int .i64 (r.at_ : Nat)) = w1 at *
  clear x0 x1 x2 x3 x4 fz
  have fz := fun q => hK1.out.frozen q
  have hlt1 := hK1.out.lt
  have x0 : w1.cell? ⟨g, 0, none⟩ = some (.slice A r.b.length c) := hK1.out.cell 0
  have x1 : w1.cell? ⟨g, 1, none⟩ = some (.int .i64 (r.at_ : Nat)) := hK1.out.cell 1
  have x2 : w1.cell? ⟨g, 2, none⟩ = some (.int .i64 (r.at_ : Nat)) := hK1.out.cell 2
  have x3 : w1.cell? ⟨g, 3, none⟩ = some (.int .i64 r.e) := hK1.out.cell 3
  have x4 : w1.cell? ⟨g, 4, none⟩ = some (.int .i64 (r.spot : Nat)) := hK1.out.cell 4
  go_wp2_with fail
  go_end0
  exact ⟨rfl, hU1.out.setCell (p := ⟨g, 1, none⟩) (fun _ => rfl) _, H.out.go (hU1.out.setCell (p := ⟨g, 1, none⟩) (fun _ => rfl) _) (by simpa [Rr.fails, Rr.took] using hK1.out.set_ 1 (.int .i64 ((r.at_ + n : Nat) : Int))) rfl hn'.out⟩
set_option maxRecDepth 100000 in
theorem rbyte_any {S : Nat → Prop} {w : World} {g : Nat} {A : Option Addr} {c : Nat} {r : Rr} (h : RrIn S w g A c r) : Calls Try.prog 55 #[.pointer (some ⟨g, 0, none⟩)] w fun e w' => e = .returned (.int .u8 (r.byte.1 : Nat)) ∧ Upd (fun k => k = g) w w' ∧ RrIn S w' g A c (r.byte.2) := by
  have H := hid h
  have kb := h.blk
  have x0 := kb.cell 0
  have x1 := kb.cell 1
  have x2 := kb.cell 2
  have x3 := kb.cell 3
  have x4 := kb.cell 4
  simp only [List.getElem?_toArray, List.getElem?_cons_zero, List.getElem?_cons_succ] at x0 x1 x2 x3 x4
  have fz := fun q => kb.frozen q
  have hlt := kb.lt
  have hal := hid h.at_le
  have hln : (r.b.length : Int) ≤ 1000000 := by have := h.len; omega
  have hat0 : (r.at_ : Int) ≤ (r.b.length : Int) := by have := h.at_le; omega
  by_cases he : r.e = 0
  · have t1 : (r.e == 0) = true := by simpa using he
    have t2 : (r.e != 0) = false := by simpa using he
    by_cases hat : r.at_ < r.b.length
    · obtain ⟨ba, o, hA, hSb, hbl, hc⟩ := h.row.at_ (k := r.at_) (by omega)
      have y0 := hc r.at_ _ (bcells_at hat)
      have i1 : (r.at_ : Int) < (r.b.length : Int) := by omega
      have i2 : ¬ ((r.b.length : Int) ≤ (r.at_ : Int)) := by omega
      have hby := hid (byte_has he (c := r.b[r.at_]) (by rw [List.getElem?_eq_getElem hat]))
      have htk := hid (fun (W : World) (hW : RrIn S W g A c r) => (show Calls Try.prog 87 #[.pointer (some ⟨g, 0, none⟩), .int .i64 1] W (RGone S W g A c (r.took 1)) from rtook_any hW 1 (by omega)))
      generalize r.b[r.at_] = cv at *
      subst hA
      clear hc h he hat kb hal
      go_enter Try.func55, Try.ntmps55
      go_upto_region 3 with fail
      go_quiet (fail)
      go_upto_region 6 with fail
      go_quiet (fail)
      go_wp2_with fail
      refine (htk.out _ (H.out.drewN _)).mono ?_
      rintro e w2 ⟨rfl, hu0, hr0⟩
      have hu2 := hid hu0; have hr2 := hid hr0
      clear hu0 hr0
      go_wp2_with fail
      go_ret
      rw [hby.out]
      exact ⟨rfl, ((Upd.refl (fun k => k = g) w).drewN _).trans (hu2.out) fun _ _ h => h, hr2.out⟩
    · have i1 : (r.b.length : Int) ≤ (r.at_ : Int) := by omega
      have i2 : r.b.length ≤ r.at_ := by omega
      have hby : Hid (r.byte = (0, r.fails 3)) := hid (by unfold Rr.byte; rw [if_neg (by omega), List.getElem?_eq_none (by omega)])
      clear h he hat kb hal
      go_enter Try.func55, Try.ntmps55
      go_upto_region 3 with fail
      go_quiet (fail)
      go_wp2_with fail
      refine (rfails_any (H.out.drewN _) 3).mono ?_
      rintro e w2 ⟨rfl, hu0, hr0⟩
      have hu2 := hid hu0; have hr2 := hid hr0
      clear hu0 hr0
      go_wp2_with fail
      go_ret
      rw [hby.out]
      exact ⟨rfl, ((Upd.refl (fun k => k = g) w).drewN _).trans (hu2.out) fun _ _ h => h, hr2.out⟩
  · have t1 : (r.e == 0) = false := by simpa using he
    have t2 : (r.e != 0) = true := by simpa using he
    have hby : Hid (r.byte = (0, r)) := hid (by unfold Rr.byte; rw [if_pos he])
    generalize r.e = re at *
    clear h he kb hal hat0 hln
    go_enter Try.func55, Try.ntmps55
    go_wp2_with fail
    go_ret
    rw [hby.out]
    exact ⟨rfl, Upd.refl _ _, H.out⟩

end Go.Proofs.Ytbakfkhmopebnaa

namespace Go.Proofs.Ytbakfkhmopebnaa
open Go.RowKit
set_option linter.unusedVariables false
set_option linter.unusedSimpArgs false

set_option maxRecDepth 100000 in
theorem rfail_any {S : Nat → Prop} {w : World} {g : Nat} {A : Option Addr} {c : Nat} {r : Rr} (h : RrIn S w g A c r) (e : Int) : Calls Try.prog 92 #[.pointer (some ⟨g, 0, none⟩), .int .i64 e] w (RGone S w g A c (r.fail e)) := by
  have H := hid h
  have kb := h.blk
  have x0 := kb.cell 0
  have x1 := kb.cell 1
  have x2 := kb.cell 2
  have x3 := kb.cell 3
  have x4 := kb.cell 4
  simp only [List.getElem?_toArray, List.getElem?_cons_zero, List.getElem?_cons_succ] at x0 x1 x2 x3 x4
  have fz := fun q => kb.frozen q
  have hlt := kb.lt
  by_cases he : r.e = 0
  · have t1 : (r.e == 0) = true := by simpa using he
    by_cases hz : e = 0
    · have t3 : (e != 0) = false := by simpa using hz
      have hf : Hid (r.fail e = r) := hid (by unfold Rr.fail; rw [if_neg (by rintro ⟨_, h⟩; exact h hz)])
      generalize r.e = re at *
      clear h he kb hz
      go_enter Try.func92, Try.ntmps92
      go_wp2_with fail
      go_end0
      exact ⟨rfl, Upd.refl _ _, by rw [hf.out]; exact H.out⟩
    · have t3 : (e != 0) = true := by simpa using hz
      have hf : Hid (r.fail e = { r with e := e, spot := r.last }) := hid (by unfold Rr.fail; rw [if_pos ⟨he, hz⟩])
      have kb1 := kb.set_ 3 (.int .i64 e)
      have U1 : Upd (fun k => k = g) w (w.setCell ⟨g, 3, none⟩ (.int .i64 e)) := (Upd.refl (fun k => k = g) w).setCell (p := ⟨g, 3, none⟩) (fun _ => rfl) _
      have hK1 := hid kb1; have hU1 := hid U1
      clear h kb kb1 U1 hz he
      go_enter Try.func92, Try.ntmps92
      go_upto_region 2 with fail
      generalize w.setCell ⟨g, 3, none⟩ (.int .i64 e) = w1 at *
      clear x0 x1 x2 x3 x4 fz
      have fz := fun q => hK1.out.frozen q
      have hlt1 := hK1.out.lt
      have x0 : w1.cell? ⟨g, 0, none⟩ = some (.slice A r.b.length c) := hK1.out.cell 0
      have x1 : w1.cell? ⟨g, 1, none⟩ = some (.int .i64 (r.at_ : Nat)) := hK1.out.cell 1
      have x2 : w1.cell? ⟨g, 2, none⟩ = some (.int .i64 (r.last : Nat)) := hK1.out.cell 2
      have x3 : w1.cell? ⟨g, 3, none⟩ = some (.int .i64 e) := hK1.out.cell 3
      have x4 : w1.cell? ⟨g, 4, none⟩ = some (.int .i64 (r.spot : Nat)) := hK1.out.cell 4
      go_wp2_with fail
      go_end0
      refine ⟨rfl, hU1.out.setCell (p := ⟨g, 4, none⟩) (fun _ => rfl) _, ?_⟩
      rw [hf.out]
      exact H.out.go (hU1.out.setCell (p := ⟨g, 4, none⟩) (fun _ => rfl) _) (by simpa using hK1.out.set_ 4 (.int .i64 (r.last : Nat))) rfl H.out.at_le
  · have t1 : (r.e == 0) = false := by simpa using he
    have hf : Hid (r.fail e = r) := hid (by unfold Rr.fail; rw [if_neg (by rintro ⟨h, _⟩; exact he h)])
    generalize r.e = re at *
    clear h he kb
    go_enter Try.func92, Try.ntmps92
    go_wp2_with fail
    go_end0
    exact ⟨rfl, Upd.refl _ _, by rw [hf.out]; exact H.out⟩
set_option maxRecDepth 100000 in
theorem rend_any {S : Nat → Prop} {w : World} {g : Nat} {A : Option Addr} {c : Nat} {r : Rr} (h : RrIn S w g A c r) : Calls Try.prog 57 #[.pointer (some ⟨g, 0, none⟩)] w fun e w' => e = .returned (.int .i64 r.end_.e) ∧ Upd (fun k => k = g) w w' ∧ RrIn S w' g A c (r.end_) := by
  have H := hid h
  have kb := h.blk
  have x0 := kb.cell 0
  have x1 := kb.cell 1
  have x2 := kb.cell 2
  have x3 := kb.cell 3
  have x4 := kb.cell 4
  simp only [List.getElem?_toArray, List.getElem?_cons_zero, List.getElem?_cons_succ] at x0 x1 x2 x3 x4
  have fz := fun q => kb.frozen q
  have hlt := kb.lt
  have hln : (r.b.length : Int) ≤ 1000000 := by have := h.len; omega
  by_cases he : r.e = 0
  · have t1 : (r.e == 0) = true := by simpa using he
    by_cases hat : r.at_ < r.b.length
    · have i1 : (r.at_ : Int) < (r.b.length : Int) := by omega
      have hf : Hid (r.end_ = r.fails 4) := hid (by unfold Rr.end_; rw [if_pos ⟨he, hat⟩])
      clear h he kb
      go_enter Try.func57, Try.ntmps57
      go_upto_region 1 with fail
      go_quiet (fail)
      go_wp2_with fail
      refine (rfails_any (H.out.drewN _) 4).mono ?_
      rintro e w2 ⟨rfl, hu0, hr0⟩
      have hu2 := hid hu0; have hr2 := hid hr0
      have kb := hr0.blk
      clear hu0 hr0 x0 x1 x2 x3 x4 fz hlt
      have z0 : w2.cell? ⟨g, 0, none⟩ = some (.slice A r.b.length c) := kb.cell 0
      have z1 : w2.cell? ⟨g, 1, none⟩ = some (.int .i64 (r.at_ : Nat)) := kb.cell 1
      have z2 : w2.cell? ⟨g, 2, none⟩ = some (.int .i64 (r.last : Nat)) := kb.cell 2
      have z3 : w2.cell? ⟨g, 3, none⟩ = some (.int .i64 4) := kb.cell 3
      have z4 : w2.cell? ⟨g, 4, none⟩ = some (.int .i64 (r.at_ : Nat)) := kb.cell 4
      have fz := fun q => kb.frozen q
      have hlt := kb.lt
      clear kb
      go_wp2_with fail
      go_ret
      rw [hf.out]
      exact ⟨rfl, ((Upd.refl (fun k => k = g) w).drewN _).trans (hu2.out) fun _ _ h => h, hr2.out⟩
    · have i1 : ¬ ((r.at_ : Int) < (r.b.length : Int)) := by omega
      have hf : Hid (r.end_ = r) := hid (by unfold Rr.end_; rw [if_neg (by rintro ⟨_, h⟩; exact hat h)])
      clear h he kb
      go_enter Try.func57, Try.ntmps57
      go_upto_region 1 with fail
      go_quiet (fail)
      go_wp2_with fail
      go_ret
      rw [hf.out]
      exact ⟨rfl, ((Upd.refl (fun k => k = g) w).drewN _), H.out.drewN _⟩
  · have t1 : (r.e == 0) = false := by simpa using he
    have hf : Hid (r.end_ = r) := hid (by unfold Rr.end_; rw [if_neg (by rintro ⟨h, _⟩; exact he h)])
    clear h he kb
    go_enter Try.func57, Try.ntmps57
    go_upto_region 1 with fail
    go_quiet (fail)
    go_wp2_with fail
    go_ret
    rw [hf.out]
    exact ⟨rfl, ((Upd.refl (fun k => k = g) w).drewN _), H.out.drewN _⟩

end Go.Proofs.Ytbakfkhmopebnaa

namespace Go.Proofs.Ytbakfkhmopebnaa
open Go.RowKit
set_option linter.unusedVariables false
set_option linter.unusedSimpArgs false

set_option maxRecDepth 100000 in
set_option maxHeartbeats 1000000 in
theorem rnew_any (S : Nat → Prop) (A0 : Option Addr) (c0 : Nat) (bs : List Nat) (w : World) (ha : Rd S w 1 A0 bs.length (bcells bs)) (hl : bs.length ≤ 1000000) (hb : ∀ x ∈ bs, x < 256) :
    Calls Try.prog 52 #[.slice A0 bs.length c0] w fun e w' => ∃ g A c S', e = .returned (.pointer (some ⟨g, 0, none⟩)) ∧ Below w.heap.size w w' ∧ w.heap.size ≤ g ∧ (∀ k, S' k → w.heap.size ≤ k) ∧ RrIn S' w' g A c (Rr.new bs) := by
  obtain ⟨ib, hb0, hb1, hb2, hb3⟩ := info_parts info_u8
  have hra := hid (ha.alloc (.cells #[] 5))
  have hbl := hid hl
  have hbb := hid hb
  clear ha hl hb
  go_enter Try.func52, Try.ntmps52
  go_wp2_with (
    at_builtin
    refine wpList_append_rd _ rfl (.tmp 3) (.tmp 4) 39 rfl w.heap.size 5 ib _ 1 1 Try.underlying39 hb0 hb1 hb2 hb3 rfl (by omega) (.slice (some ⟨w.heap.size, 0, none⟩) 0 0) 0 [] rfl (own_empty w 5 1) S A0 bs.length c0 (bcells bs) rfl hra.out (bcells_one bs) (by simp only [maxLen]; have := hbl.out; omega) (by have := hbl.out; omega) (by simp) ?_
    intro v2 w2 hown0 hg0 hat0
    have hB20 := below_of_copy hg0
    obtain ⟨A, c, rfl, hcp0, _⟩ := own_form hown0
    have hcp : Hid (bs.length ≤ c) := hid (by omega)
    have hown2 : Hid (w2.ownsRow w.heap.size 5 1 (.slice A bs.length c) bs.length (bcells bs)) := hid (by simpa using hown0)
    have hB2 := hid hB20
    rw [Nat.zero_add]
    clear hown0 hB20 hg0 hat0 hcp0)
  go_ret
  have hrd := Rd.of_own hown2.out
  have hlt := fun k hk => hown2.out.lt k hk
  refine ⟨w2.heap.size, A, c, fun b => some b = (Value.slice A bs.length c).ownBlock, rfl, hB2.out.alloc hB2.out.size _, hB2.out.size, fun k hk => (hlt k hk.symm).1, ⟨Blk.new w2 81 _, hrd.alloc _, fun k hk => ?_, Nat.zero_le _, hbl.out, hbb.out, hcp.out⟩⟩
  have := (hlt k hk.symm).2
  omega

end Go.Proofs.Ytbakfkhmopebnaa

namespace Go.Proofs.Ytbakfkhmopebnaa
open Go.RowKit
set_option linter.unusedVariables false
set_option linter.unusedSimpArgs false

def numV : (Nat × Nat) ⊕ Int → Value
  | .inl (n, k) => .tuple #[.int .u64 (n : Nat), .int .i64 (k : Nat), .int .i64 0]
  | .inr e => .tuple #[.int .u64 0, .int .i64 0, .int .i64 e]
theorem shl7 (i : Nat) : (2 : Int) ^ (7 * i) = ((128 ^ i : Nat) : Int) := by
  rw [show (128 : Nat) ^ i = 2 ^ (7 * i) from by rw [Nat.pow_mul]]
  exact (Int.natCast_pow 2 (7 * i)).symm
theorem sum_any (i acc c Q : Nat) (hQ : Q = acc + c % 128 * 128 ^ i) (hb : Q < 18446744073709551616) : IntKind.u64.wrap ((acc : Int) + IntKind.u64.wrap ((c : Int) % 128 * 2 ^ (7 * i))) = (Q : Int) := by
  have e : (c : Int) % 128 * ((128 ^ i : Nat) : Int) = ((c % 128 * 128 ^ i : Nat) : Int) := by rw [Int.natCast_mul]; rfl
  rw [shl7, e, IntKind.wrap_u64, IntKind.wrap_u64]
  generalize c % 128 * 128 ^ i = X at *
  omega
theorem num_step {l : List Nat} {i acc c : Nat} (hi : i < 10) (hc : l[i]? = some c) : numF l 0 (10 - i) i acc = if i = 9 ∧ 1 < c then .inr 11 else if c < 128 then (if 0 < i ∧ c = 0 then .inr 10 else .inl (acc + c * 128 ^ i, i + 1)) else numF l 0 (10 - (i + 1)) (i + 1) (acc + c % 128 * 128 ^ i) := by
  rw [show 10 - i = (10 - (i + 1)) + 1 by omega, numF, Nat.zero_add, hc]
theorem acc_lt {i acc c : Nat} (hi : i < 9) (ha : acc < 128 ^ i) : acc + c % 128 * 128 ^ i < 128 ^ (i + 1) ∧ acc + c % 128 * 128 ^ i < 18446744073709551616 := by
  have h1 : c % 128 * 128 ^ i ≤ 127 * 128 ^ i := Nat.mul_le_mul_right _ (by omega)
  have h2 : acc + c % 128 * 128 ^ i < 128 ^ (i + 1) := by rw [Nat.pow_succ]; omega
  have h3 : 128 ^ (i + 1) ≤ 128 ^ 9 := Nat.pow_le_pow_right (by omega) (by omega)
  have h4 : 128 ^ 9 < 18446744073709551616 := by decide
  exact ⟨h2, by omega⟩
set_option maxRecDepth 100000 in
set_option maxHeartbeats 1000000 in
theorem rnumber_any (S : Nat → Prop) (A : Option Addr) (c : Nat) (l : List Nat) (w : World) (ha : Rd S w 1 A l.length (bcells l)) (hl : l.length ≤ 1000000) (hb : ∀ x ∈ l, x < 256) :
    Calls Try.prog 85 #[.slice A l.length c] w fun e w' => e = .returned (numV (num l 0)) ∧ Below w.heap.size w w' := by
  have hra := hid ha
  have hbl := hid hl
  have hbb := hid hb
  clear ha hl hb
  go_enter Try.func85, Try.ntmps85
  go_wp2_with fail
  go_loopw [5, 6] (fun n v wr => ∃ (i acc : Nat), n = .int .u64 (acc : Nat) ∧ v = .int .i64 i ∧ i ≤ 10 ∧ acc < 128 ^ i ∧ numF l 0 (10 - i) i acc = num l 0 ∧ Below w.heap.size w wr) (fun n v _ => 10 - (intOf v).toNat)
  case atStart => exact ⟨0, 0, rfl, rfl, by omega, by simp, rfl, Below.refl _ _⟩
  case round =>
    obtain ⟨i, acc, rfl, rfl, hi0, hacc0, hn0, hB0⟩ := hrel
    have hi := hid hi0; have hacc := hid hacc0; have hn := hid hn0; have hB := hid hB0
    clear hi0 hacc0 hn0 hB0
    by_cases hlt : i < 10
    · have i1 : (i : Int) < 10 := by omega
      by_cases hle : i < l.length
      · obtain ⟨b, o, hA, hSb, hbk, hc⟩ := (hra.out.below_all hB.out).at_ (k := i) hle
        have y0 := hc i _ (bcells_at hle)
        have i2 : (i : Int) < (l.length : Int) := by omega
        have i3 : ¬ ((l.length : Int) ≤ (i : Int)) := by omega
        have hcb := hbb.out _ (List.getElem_mem hle)
        have hcv : l[i]? = some l[i] := List.getElem?_eq_getElem hle
        generalize l[i] = cv at *
        subst hA
        have hst := hn.out.symm.trans (num_step (l := l) (acc := acc) hlt hcv)
        clear hc hcv
        by_cases h9 : i = 9
        · subst h9
          by_cases h1 : 1 < cv
          · have h1' : (1 : Int) < (cv : Int) := by omega
            have hf : Hid (num l 0 = .inr 11) := hid (by rw [hst, if_pos ⟨rfl, h1⟩])
            clear hst h1
            go_wp2_with fail
            go_ret3
            rw [hf.out]
            exact ⟨rfl, hB.out⟩
          · have h1' : ¬ ((1 : Int) < (cv : Int)) := by omega
            have hc8 : (cv : Int) < 128 := by omega
            have hlt2 : acc + cv % 128 * 128 ^ 9 < 18446744073709551616 := by
              have ha := hacc.out
              have h3 : cv % 128 * 128 ^ 9 ≤ 1 * 128 ^ 9 := Nat.mul_le_mul_right _ (by omega)
              have h4 : 128 ^ 9 * 2 = 18446744073709551616 := by decide
              omega
            obtain ⟨Q, hQ⟩ : ∃ Q, Q = acc + cv % 128 * 128 ^ 9 := ⟨_, rfl⟩
            have fs : IntKind.u64.wrap ((acc : Int) + (cv : Int) % 128 * 9223372036854775808) = (Q : Int) := by
              have h4 : 128 ^ 9 = 9223372036854775808 := by decide
              rw [h4] at hQ hlt2
              rw [IntKind.wrap_u64]; omega
            by_cases hz : cv = 0
            · have z1 : ((cv : Int) == 0) = true := by simpa using hz
              have hf : Hid (num l 0 = .inr 10) := hid (by rw [hst, if_neg (by omega), if_pos (by omega), if_pos ⟨by omega, hz⟩])
              clear hst h1 hz hQ hlt2
              go_wp2_with fail
              go_ret3
              rw [hf.out]
              exact ⟨rfl, hB.out⟩
            · have z1 : ((cv : Int) == 0) = false := by simpa using hz
              have hf : Hid (num l 0 = .inl (Q, 10)) := hid (by rw [hst, if_neg (by omega), if_pos (by omega), if_neg (by omega), hQ, Nat.mod_eq_of_lt (by omega)])
              clear hst h1 hz hQ hlt2
              go_wp2_with fail
              go_ret3
              rw [hf.out]
              exact ⟨rfl, hB.out⟩
        · have h9' : ¬ ((i : Int) = 9) := by omega
          obtain ⟨hq1, hq2⟩ := acc_lt (c := cv) (show i < 9 by omega) hacc.out
          obtain ⟨Q, hQ⟩ : ∃ Q, Q = acc + cv % 128 * 128 ^ i := ⟨_, rfl⟩
          rw [← hQ] at hq1
          have fs := sum_any i acc cv Q hQ (by rw [hQ]; exact hq2)
          by_cases h8 : cv < 128
          · have hc8 : (cv : Int) < 128 := by omega
            by_cases hz : 0 < i ∧ cv = 0
            · have z1 : ((cv : Int) == 0) = true := by simpa using hz.2
              have z2 : 0 < i := hz.1
              have hf : Hid (num l 0 = .inr 10) := hid (by rw [hst, if_neg (by omega), if_pos h8, if_pos hz])
              clear hst hz hQ hq1 hq2 h8 h9
              go_wp2_with fail
              go_ret3
              rw [hf.out]
              exact ⟨rfl, hB.out⟩
            · have hf : Hid (num l 0 = .inl (Q, i + 1)) := hid (by rw [hst, if_neg (by omega), if_pos h8, if_neg hz, hQ, Nat.mod_eq_of_lt h8])
              by_cases hi0 : 0 < i
              · have z1 : ((cv : Int) == 0) = false := by
                  have : cv ≠ 0 := fun h => hz ⟨hi0, h⟩
                  simpa using this
                clear hst hz hQ hq1 hq2 h8 h9
                go_wp2_with fail
                go_ret3
                rw [hf.out]
                exact ⟨rfl, hB.out⟩
              · clear hst hz hQ hq1 hq2 h8 h9
                go_wp2_with fail
                go_ret3
                rw [hf.out]
                exact ⟨rfl, hB.out⟩
          · have hc8 : ¬ ((cv : Int) < 128) := by omega
            have hc9 : 128 ≤ (cv : Int) := by omega
            have hnx := hid (show numF l 0 (10 - (i + 1)) (i + 1) Q = num l 0 by rw [hst, if_neg (by omega), if_neg h8, hQ])
            have hq := hid hq1
            clear hst hQ hq1 hq2 h8 h9
            go_wp2_with fail
            go_roundw
            case rel => exact ⟨i + 1, Q, rfl, by go_num, by omega, hq.out, hnx.out, hB.out⟩
            case measure => simp [intOf]; omega
      · have i2 : (l.length : Int) ≤ (i : Int) := by omega
        have hf : Hid (num l 0 = .inr 3) := hid (by
          rw [← hn.out, show 10 - i = (10 - (i + 1)) + 1 by omega, numF, Nat.zero_add, List.getElem?_eq_none (by omega)])
        clear hle
        go_wp2_with fail
        go_ret3
        rw [hf.out]
        exact ⟨rfl, hB.out⟩
    · have i1 : ¬ ((i : Int) < 10) := by omega
      have hf : Hid (num l 0 = .inr 11) := hid (by
        rw [← hn.out, show 10 - i = 0 by omega, numF])
      clear hlt
      go_wp2_with fail
      go_ret3
      rw [hf.out]
      exact ⟨rfl, hB.out⟩
end Go.Proofs.Ytbakfkhmopebnaa

namespace Go.Proofs.Ytbakfkhmopebnaa
set_option linter.unusedVariables false
set_option linter.unusedSimpArgs false

theorem numF_drop (b : List Nat) (at_ : Nat) : ∀ (k i acc : Nat), numF b at_ k i acc = numF (b.drop at_) 0 k i acc := by
  intro k
  induction k with
  | zero => intro i acc; rfl
  | succ k ih =>
    intro i acc
    unfold numF
    rw [List.getElem?_drop, Nat.zero_add]
    cases h : b[at_ + i]? with
    | none => rfl
    | some c => simp only [ih]
theorem num_drop (b : List Nat) (at_ : Nat) : num b at_ = num (b.drop at_) 0 := numF_drop b at_ 10 0 0
theorem numF_lt (b : List Nat) (at_ : Nat) : ∀ (k i acc n m : Nat), i + k = 10 → acc < 128 ^ i → numF b at_ k i acc = .inl (n, m) → n < 18446744073709551616 ∧ m ≤ 10 ∧ at_ + m ≤ b.length := by
  intro k
  induction k with
  | zero => intro i acc n m _ _ h; simp [numF] at h
  | succ k ih =>
    intro i acc n m hi ha h
    unfold numF at h
    cases hb : b[at_ + i]? with
    | none => rw [hb] at h; cases h
    | some c =>
      rw [hb] at h
      simp only at h
      have hlt := (List.getElem?_eq_some_iff.1 hb).1
      by_cases h9 : i = 9 ∧ 1 < c
      · rw [if_pos h9] at h; cases h
      rw [if_neg h9] at h
      by_cases h8 : c < 128
      · rw [if_pos h8] at h
        by_cases hz : 0 < i ∧ c = 0
        · rw [if_pos hz] at h; cases h
        rw [if_neg hz] at h
        simp only [Sum.inl.injEq, Prod.mk.injEq] at h
        obtain ⟨rfl, rfl⟩ := h
        refine ⟨?_, by omega, by omega⟩
        by_cases hi9 : i = 9
        · subst hi9
          have h3 : c * 128 ^ 9 ≤ 1 * 128 ^ 9 := Nat.mul_le_mul_right _ (by omega)
          have h4 : 128 ^ 9 * 2 = 18446744073709551616 := by decide
          omega
        · have h1 : c * 128 ^ i ≤ 127 * 128 ^ i := Nat.mul_le_mul_right _ (by omega)
          have h2 : acc + c * 128 ^ i < 128 ^ (i + 1) := by rw [Nat.pow_succ]; omega
          have h3 : 128 ^ (i + 1) ≤ 128 ^ 9 := Nat.pow_le_pow_right (by omega) (by omega)
          have h4 : 128 ^ 9 < 18446744073709551616 := by decide
          omega
      · rw [if_neg h8] at h
        refine ih (i + 1) _ n m (by omega) ?_ h
        have h1 : c % 128 * 128 ^ i ≤ 127 * 128 ^ i := Nat.mul_le_mul_right _ (by omega)
        rw [Nat.pow_succ]; omega
theorem num_lt {b : List Nat} {at_ n m : Nat} (h : num b at_ = .inl (n, m)) : n < 18446744073709551616 ∧ m ≤ 10 ∧ at_ + m ≤ b.length := numF_lt b at_ 10 0 0 n m rfl (by decide) h
end Go.Proofs.Ytbakfkhmopebnaa

namespace Go.Proofs.Ytbakfkhmopebnaa
open Go.RowKit
set_option linter.unusedVariables false
set_option linter.unusedSimpArgs false

theorem bcells_drop (l : List Nat) (k : Nat) : bcells (l.drop k) = (bcells l).drop k := by unfold bcells; rw [List.map_drop]
theorem RrOf.below_all {T : TypeId} {S : Nat → Prop} {w w' : World} {g : Nat} {A : Option Addr} {c : Nat} {r : Rr} (h : RrOf T S w g A c r) (hb : Below w.heap.size w w') : RrOf T S w' g A c r := ⟨h.blk.below_all hb, h.row.below_all hb, h.ne, h.at_le, h.len, h.byt, h.cap⟩
theorem numF_ne (b : List Nat) (at_ : Nat) : ∀ (k i acc : Nat) (e : Int), numF b at_ k i acc = .inr e → e ≠ 0 := by
  intro k
  induction k with
  | zero => intro i acc e h; simp [numF] at h; omega
  | succ k ih =>
    intro i acc e h
    unfold numF at h
    split at h
    · cases h; decide
    · split at h
      · cases h; decide
      · split at h
        · split at h
          · cases h; decide
          · cases h
        · exact ih _ _ _ h
theorem num_ne {b : List Nat} {at_ : Nat} {e : Int} (h : num b at_ = .inr e) : e ≠ 0 := numF_ne b at_ 10 0 0 e h
/-- what a slice from a place on reads -/
theorem Rd.tail {S : Nat → Prop} {w : World} {A : Option Addr} {l : List Nat} {c k : Nat} (h : Rd S w 1 A l.length (bcells l)) (hk : k ≤ l.length) (hc : l.length ≤ c) : Rd S w 1 (if c = k then A else Option.map (fun x => x.add k) A) (l.drop k).length (bcells (l.drop k)) := by
  have hl : (l.drop k).length = l.length - k := List.length_drop
  refine ⟨by unfold bcells; rw [List.length_map]; omega, fun hn => ?_⟩
  rw [hl] at hn
  obtain ⟨b, o, rfl, hS, hb, hx⟩ := h.2 (by omega)
  rw [if_neg (by omega)]
  refine ⟨b, o + k, by simp [Addr.add_lit], hS, hb, fun j u hu => ?_⟩
  rw [bcells_drop, List.getElem?_drop] at hu
  have := hx (k + j) u hu
  rwa [← Nat.add_assoc] at this
set_option maxRecDepth 100000 in
set_option maxHeartbeats 1000000 in
theorem ruint_any {S : Nat → Prop} {w : World} {g : Nat} {A : Option Addr} {c : Nat} {r : Rr} (h : RrIn S w g A c r) : Calls Try.prog 56 #[.pointer (some ⟨g, 0, none⟩)] w fun e w' => e = .returned (.int .u64 (r.uint.1 : Nat)) ∧ Upd (fun k => k = g) w w' ∧ RrIn S w' g A c (r.uint.2) := by
  have H := hid h
  have kb := h.blk
  have x0 := kb.cell 0
  have x1 := kb.cell 1
  have x2 := kb.cell 2
  have x3 := kb.cell 3
  have x4 := kb.cell 4
  simp only [List.getElem?_toArray, List.getElem?_cons_zero, List.getElem?_cons_succ] at x0 x1 x2 x3 x4
  have fz := fun q => kb.frozen q
  have hlt := kb.lt
  have hln : (r.b.length : Int) ≤ 1000000 := by have := h.len; omega
  have hat0 : (r.at_ : Int) ≤ (r.b.length : Int) := by have := h.at_le; omega
  have hatN := h.at_le
  by_cases he : r.e = 0
  · have t1 : (r.e == 0) = true := by simpa using he
    have t2 : (r.e != 0) = false := by simpa using he
    rcases Decidable.em (c = r.at_) with hca | hca
    · have hnu := hid (rnumber_any S _ (c - r.at_) (r.b.drop r.at_) w.drew (Rd.tail h.row.drew h.at_le h.cap) (by rw [List.length_drop]; have := h.len; omega) (fun x hx => h.byt x (List.mem_of_mem_drop hx)))
      rw [← num_drop, List.length_drop] at hnu
      rw [if_pos hca, hca, Nat.sub_self] at hnu
      subst hca
      cases hnv : num r.b r.at_ with
      | inl nk =>
        obtain ⟨n, k⟩ := nk
        obtain ⟨hn1, hn2, hn3⟩ := num_lt hnv
        rw [hnv] at hnu
        have hby : Hid (r.uint = (n, r.took k)) := hid (by unfold Rr.uint; rw [if_neg (by omega), hnv])
        rw [show numV (.inl (n, k)) = .tuple #[.int .u64 (n : Nat), .int .i64 (k : Nat), .int .i64 0] from rfl] at hnu
        have hn3' := hid hn3
        clear h he kb hatN hnv hn1 hn2 hn3
        go_enter Try.func56, Try.ntmps56
        go_upto_region 3 with fail
        go_region_held3 (fun w' => w'.cell? ⟨g, 0, none⟩ = some (.slice A r.b.length r.at_) ∧ w'.cell? ⟨g, 1, none⟩ = some (.int .i64 (r.at_ : Nat))) (first | exact ⟨x0, x1⟩ | exact ⟨y0, y1⟩)
          ((go_at_call 85
            refine hnu.out.mono ?_
            rintro e w2 ⟨rfl, hb0⟩
            have hb2 := hid ((Below.refl w.heap.size w).drew.trans hb0)
            have hr2 := hid (H.out.below_all hb2.out)
            have y0 := hr2.out.blk.cell 0
            have y1 := hr2.out.blk.cell 1
            simp only [List.getElem?_toArray, List.getElem?_cons_zero, List.getElem?_cons_succ] at y0 y1
            clear hb0))
        clear x0 x1 x2 x3 x4 fz hlt
        go_wp2_with fail
        refine (rtook_any hr2.out k hn3'.out).mono ?_
        rintro e w3 ⟨rfl, hu0, hr0⟩
        have hu3 := hid hu0; have hr3 := hid hr0
        clear hu0 hr0
        go_wp2_with fail
        go_ret
        rw [hby.out]
        exact ⟨rfl, (Upd.of_below (M := fun k => k = g) hb2.out fun k hk hk' => absurd hk (by omega)).trans hu3.out fun _ _ h => h, hr3.out⟩
      | inr er =>
        rw [hnv] at hnu
        have hne : er ≠ 0 := num_ne hnv
        have z1 : (er == 0) = false := by simpa using hne
        have z2 : (er != 0) = true := by simpa using hne
        have hby : Hid (r.uint = (0, r.fails er)) := hid (by unfold Rr.uint; rw [if_neg (by omega), hnv])
        rw [show numV (.inr er) = .tuple #[.int .u64 0, .int .i64 0, .int .i64 er] from rfl] at hnu
        clear h he kb hatN hnv hne
        go_enter Try.func56, Try.ntmps56
        go_upto_region 3 with fail
        go_region_held3 (fun w' => w'.cell? ⟨g, 0, none⟩ = some (.slice A r.b.length r.at_) ∧ w'.cell? ⟨g, 1, none⟩ = some (.int .i64 (r.at_ : Nat))) (first | exact ⟨x0, x1⟩ | exact ⟨y0, y1⟩)
          ((go_at_call 85
            refine hnu.out.mono ?_
            rintro e w2 ⟨rfl, hb0⟩
            have hb2 := hid ((Below.refl w.heap.size w).drew.trans hb0)
            have hr2 := hid (H.out.below_all hb2.out)
            have y0 := hr2.out.blk.cell 0
            have y1 := hr2.out.blk.cell 1
            simp only [List.getElem?_toArray, List.getElem?_cons_zero, List.getElem?_cons_succ] at y0 y1
            clear hb0))
        clear x0 x1 x2 x3 x4 fz hlt
        go_wp2_with fail
        refine (rfails_any hr2.out er).mono ?_
        rintro e w3 ⟨rfl, hu0, hr0⟩
        have hu3 := hid hu0; have hr3 := hid hr0
        clear hu0 hr0
        go_wp2_with fail
        go_ret
        rw [hby.out]
        exact ⟨rfl, (Upd.of_below (M := fun k => k = g) hb2.out fun k hk hk' => absurd hk (by omega)).trans hu3.out fun _ _ h => h, hr3.out⟩
    · have hnu := hid (rnumber_any S _ (c - r.at_) (r.b.drop r.at_) w.drew (Rd.tail h.row.drew h.at_le h.cap) (by rw [List.length_drop]; have := h.len; omega) (fun x hx => h.byt x (List.mem_of_mem_drop hx)))
      rw [← num_drop, List.length_drop] at hnu
      rw [if_neg hca] at hnu
      cases hnv : num r.b r.at_ with
      | inl nk =>
        obtain ⟨n, k⟩ := nk
        obtain ⟨hn1, hn2, hn3⟩ := num_lt hnv
        rw [hnv] at hnu
        have hby : Hid (r.uint = (n, r.took k)) := hid (by unfold Rr.uint; rw [if_neg (by omega), hnv])
        rw [show numV (.inl (n, k)) = .tuple #[.int .u64 (n : Nat), .int .i64 (k : Nat), .int .i64 0] from rfl] at hnu
        have hn3' := hid hn3
        clear h he kb hatN hnv hn1 hn2 hn3
        go_enter Try.func56, Try.ntmps56
        go_upto_region 3 with fail
        go_region_held3 (fun w' => w'.cell? ⟨g, 0, none⟩ = some (.slice A r.b.length c) ∧ w'.cell? ⟨g, 1, none⟩ = some (.int .i64 (r.at_ : Nat))) (first | exact ⟨x0, x1⟩ | exact ⟨y0, y1⟩)
          ((go_at_call 85
            refine hnu.out.mono ?_
            rintro e w2 ⟨rfl, hb0⟩
            have hb2 := hid ((Below.refl w.heap.size w).drew.trans hb0)
            have hr2 := hid (H.out.below_all hb2.out)
            have y0 := hr2.out.blk.cell 0
            have y1 := hr2.out.blk.cell 1
            simp only [List.getElem?_toArray, List.getElem?_cons_zero, List.getElem?_cons_succ] at y0 y1
            clear hb0))
        clear x0 x1 x2 x3 x4 fz hlt
        go_wp2_with fail
        refine (rtook_any hr2.out k hn3'.out).mono ?_
        rintro e w3 ⟨rfl, hu0, hr0⟩
        have hu3 := hid hu0; have hr3 := hid hr0
        clear hu0 hr0
        go_wp2_with fail
        go_ret
        rw [hby.out]
        exact ⟨rfl, (Upd.of_below (M := fun k => k = g) hb2.out fun k hk hk' => absurd hk (by omega)).trans hu3.out fun _ _ h => h, hr3.out⟩
      | inr er =>
        rw [hnv] at hnu
        have hne : er ≠ 0 := num_ne hnv
        have z1 : (er == 0) = false := by simpa using hne
        have z2 : (er != 0) = true := by simpa using hne
        have hby : Hid (r.uint = (0, r.fails er)) := hid (by unfold Rr.uint; rw [if_neg (by omega), hnv])
        rw [show numV (.inr er) = .tuple #[.int .u64 0, .int .i64 0, .int .i64 er] from rfl] at hnu
        clear h he kb hatN hnv hne
        go_enter Try.func56, Try.ntmps56
        go_upto_region 3 with fail
        go_region_held3 (fun w' => w'.cell? ⟨g, 0, none⟩ = some (.slice A r.b.length c) ∧ w'.cell? ⟨g, 1, none⟩ = some (.int .i64 (r.at_ : Nat))) (first | exact ⟨x0, x1⟩ | exact ⟨y0, y1⟩)
          ((go_at_call 85
            refine hnu.out.mono ?_
            rintro e w2 ⟨rfl, hb0⟩
            have hb2 := hid ((Below.refl w.heap.size w).drew.trans hb0)
            have hr2 := hid (H.out.below_all hb2.out)
            have y0 := hr2.out.blk.cell 0
            have y1 := hr2.out.blk.cell 1
            simp only [List.getElem?_toArray, List.getElem?_cons_zero, List.getElem?_cons_succ] at y0 y1
            clear hb0))
        clear x0 x1 x2 x3 x4 fz hlt
        go_wp2_with fail
        refine (rfails_any hr2.out er).mono ?_
        rintro e w3 ⟨rfl, hu0, hr0⟩
        have hu3 := hid hu0; have hr3 := hid hr0
        clear hu0 hr0
        go_wp2_with fail
        go_ret
        rw [hby.out]
        exact ⟨rfl, (Upd.of_below (M := fun k => k = g) hb2.out fun k hk hk' => absurd hk (by omega)).trans hu3.out fun _ _ h => h, hr3.out⟩
  · have t1 : (r.e == 0) = false := by simpa using he
    have t2 : (r.e != 0) = true := by simpa using he
    have hby : Hid (r.uint = (0, r)) := hid (by unfold Rr.uint; rw [if_pos he])
    generalize r.e = re at *
    clear h he kb hat0 hln hatN
    go_enter Try.func56, Try.ntmps56
    go_wp2_with fail
    go_ret
    rw [hby.out]
    exact ⟨rfl, Upd.refl _ _, H.out⟩
end Go.Proofs.Ytbakfkhmopebnaa

namespace Go.Proofs.Ytbakfkhmopebnaa
open Go.RowKit
set_option linter.unusedVariables false
set_option linter.unusedSimpArgs false

theorem RrOf.bound {T : TypeId} {S : Nat → Prop} {w : World} {g : Nat} {A : Option Addr} {c : Nat} {r : Rr} (h : RrOf T S w g A c r) : RrOf T (fun k => S k ∧ k < w.heap.size) w g A c r :=
  ⟨h.blk, ⟨h.row.1, fun hn => by obtain ⟨b, o, e, hS, hb, hc⟩ := h.row.2 hn; exact ⟨b, o, e, ⟨hS, hb⟩, hb, hc⟩⟩, fun k hk => h.ne k hk.1, h.at_le, h.len, h.byt, h.cap⟩
theorem RrOf.unbound {T : TypeId} {S : Nat → Prop} {w : World} {g N : Nat} {A : Option Addr} {c : Nat} {r : Rr} (h : RrOf T (fun k => S k ∧ k < N) w g A c r) (hne : ∀ k, S k → k ≠ g) : RrOf T S w g A c r :=
  ⟨h.blk, h.row.more fun b hb _ => hb.1, hne, h.at_le, h.len, h.byt, h.cap⟩
def vcs (v : Vl) : Array Value := #[.int .i64 v.k, .int .i64 v.n, .string v.s]
/-- a reader, the result's variable at B, the value's at y -/
structure TK (T : TypeId) (S : Nat → Prop) (w W : World) (g : Nat) (A : Option Addr) (c : Nat) (r : Rr) (y : Nat) (u v : Vl) : Prop where
  rd : RrOf T S W g A c r
  sb : ∀ k, S k → k < w.heap.size
  gb : g < w.heap.size
  zv : Blk W w.heap.size 51 #[.int .i64 u.k, .int .i64 u.n, .string u.s]
  yv : Blk W y 51 #[.int .i64 v.k, .int .i64 v.n, .string v.s]
  yb : w.heap.size < y
  up : Upd (fun k => k = g) w W
section
variable {T : TypeId} {S : Nat → Prop} {w W W' : World} {g : Nat} {A : Option Addr} {c : Nat} {r r' : Rr} {y : Nat} {u v : Vl}
theorem TK.call (h : TK T S w W g A c r y u v) (hu : Upd (fun k => k = g) W W') (hr : RrOf T S W' g A c r') : TK T S w W' g A c r' y u v :=
  ⟨hr, h.sb, h.gb, h.zv.upd hu (by have := h.gb; omega), h.yv.upd hu (by have := h.gb; have := h.yb; omega), h.yb, h.up.trans hu fun _ _ h => h⟩
theorem TK.below (h : TK T S w W g A c r y u v) (hb : Below W.heap.size W W') : TK T S w W' g A c r y u v :=
  ⟨h.rd.below_all hb, h.sb, h.gb, h.zv.below_all hb, h.yv.below_all hb, h.yb, h.up.trans (Upd.of_below' hb Nil) fun _ _ h => h.elim⟩
theorem TK.putY (h : TK T S w W g A c r y u v) (v' : Vl) : TK T S w (((W.setCell ⟨y, 0, none⟩ (.int .i64 v'.k)).setCell ⟨y, 1, none⟩ (.int .i64 v'.n)).setCell ⟨y, 2, none⟩ (.string v'.s)) g A c r y u v' := by
  have hy := h.yb
  have hgb := h.gb
  have U : Upd (fun k => k = y) W (((W.setCell ⟨y, 0, none⟩ (.int .i64 v'.k)).setCell ⟨y, 1, none⟩ (.int .i64 v'.n)).setCell ⟨y, 2, none⟩ (.string v'.s)) :=
    (((Upd.refl (fun k => k = y) W).setCell (p := ⟨y, 0, none⟩) (fun _ => rfl) _).setCell (p := ⟨y, 1, none⟩) (fun _ => rfl) _).setCell (p := ⟨y, 2, none⟩) (fun _ => rfl) _
  refine ⟨h.rd.upd U (by omega) (fun b hb => by have := h.sb b hb; omega), h.sb, h.gb, h.zv.upd U (by omega), ?_, hy, h.up.trans U fun b hb e => by omega⟩
  simpa using ((h.yv.set_ 0 (.int .i64 v'.k)).set_ 1 (.int .i64 v'.n)).set_ 2 (.string v'.s)
theorem TK.putZ (h : TK T S w W g A c r y u v) (u' : Vl) : TK T S w (((W.setCell ⟨w.heap.size, 0, none⟩ (.int .i64 u'.k)).setCell ⟨w.heap.size, 1, none⟩ (.int .i64 u'.n)).setCell ⟨w.heap.size, 2, none⟩ (.string u'.s)) g A c r y u' v := by
  have hy := h.yb
  have hgb := h.gb
  have U : Upd (fun k => k = w.heap.size) W (((W.setCell ⟨w.heap.size, 0, none⟩ (.int .i64 u'.k)).setCell ⟨w.heap.size, 1, none⟩ (.int .i64 u'.n)).setCell ⟨w.heap.size, 2, none⟩ (.string u'.s)) :=
    (((Upd.refl (fun k => k = w.heap.size) W).setCell (p := ⟨w.heap.size, 0, none⟩) (fun _ => rfl) _).setCell (p := ⟨w.heap.size, 1, none⟩) (fun _ => rfl) _).setCell (p := ⟨w.heap.size, 2, none⟩) (fun _ => rfl) _
  refine ⟨h.rd.upd U (by omega) (fun b hb => by have := h.sb b hb; omega), h.sb, h.gb, ?_, h.yv.upd U (by omega), hy, h.up.trans U fun b hb e => by omega⟩
  simpa using ((h.zv.set_ 0 (.int .i64 u'.k)).set_ 1 (.int .i64 u'.n)).set_ 2 (.string u'.s)
theorem TK.cells (h : TK T S w W g A c r y u v) : W.cell? ⟨g, 3, none⟩ = some (.int .i64 r.e) ∧ W.cell? ⟨w.heap.size, 0, none⟩ = some (.int .i64 u.k) ∧ W.cell? ⟨w.heap.size, 1, none⟩ = some (.int .i64 u.n) ∧ W.cell? ⟨w.heap.size, 2, none⟩ = some (.string u.s) ∧ W.cell? ⟨y, 0, none⟩ = some (.int .i64 v.k) ∧ W.cell? ⟨y, 1, none⟩ = some (.int .i64 v.n) ∧ W.cell? ⟨y, 2, none⟩ = some (.string v.s) ∧ (∀ q, W.frozen? ⟨w.heap.size, q, none⟩ = false) ∧ (∀ q, W.frozen? ⟨y, q, none⟩ = false) ∧ w.heap.size < W.heap.size ∧ y < W.heap.size :=
  ⟨h.rd.blk.cell 3, h.zv.cell 0, h.zv.cell 1, h.zv.cell 2, h.yv.cell 0, h.yv.cell 1, h.yv.cell 2, fun q => h.zv.frozen q, fun q => h.yv.frozen q, h.zv.lt, h.yv.lt⟩
end
theorem Rr.byte_bad {r : Rr} (h : r.byte.2.e ≠ 0) : r.byte.1 = 0 := by
  unfold Rr.byte at h ⊢
  split
  · rfl
  · split
    · rfl
    · rename_i h1 _ _ h2
      rw [if_neg h1, h2] at h
      exact absurd (by simpa [Rr.took] using h1) h
theorem Rr.text_le (r : Rr) (most : Nat) : (r.text most).1.size ≤ most := by
  unfold Rr.text
  split
  · simp [ByteArray.size]
  · split
    · simp [ByteArray.size]
    · split
      · simp [ByteArray.size]
      · split
        · simp [ByteArray.size]
        · rename_i n k _ h _
          have : (bt ((r.b.drop (r.at_ + k)).take n)).size = ((r.b.drop (r.at_ + k)).take n).length := by unfold bt; simp [ByteArray.size]
          rw [this, List.length_take]
          omega
theorem Rr.text_bad {r : Rr} {most : Int} (h : (r.text most).2.e ≠ 0) : (r.text most).1 = ⟨#[]⟩ := by
  unfold Rr.text at h ⊢
  split
  · rfl
  · rename_i h1
    rw [if_neg h1] at h
    split
    · rfl
    · rename_i h2
      rw [h2] at h
      simp only at h
      split
      · rfl
      · rename_i h3
        rw [if_neg h3] at h
        split
        · rfl
        · rename_i h4
          rw [if_neg h4] at h
          exact absurd (by simpa [Rr.took] using h1) h
set_option maxRecDepth 100000 in
theorem rof_any (n : Int) (w : World) : Calls Try.prog 88 #[.int .i64 n] w fun e w' => e = .returned (.agg #[.int .i64 1, .int .i64 n, .string ⟨#[]⟩]) ∧ Below w.heap.size w w' := by
  have hB : Hid (Below w.heap.size w (w.alloc (.cells #[.int .i64 0, .int .i64 0, .string ⟨#[]⟩] 51))) := hid ((Below.refl _ _).alloc (Nat.le_refl _) _)
  have kb := hid (Blk.new w 51 #[.int .i64 0, .int .i64 0, .string ⟨#[]⟩])
  have hn := hid (show w.heap.size < (w.alloc (.cells #[.int .i64 0, .int .i64 0, .string ⟨#[]⟩] 51)).heap.size by simp)
  go_enter Try.func88, Try.ntmps88
  go_upto_region 1 with fail
  generalize hW : w.alloc (.cells #[.int .i64 0, .int .i64 0, .string ⟨#[]⟩] 51) = W at *
  clear hW
  have fz := fun q => kb.out.frozen q
  have hlt := kb.out.lt
  have z0 := kb.out.cell 0
  have z1 := kb.out.cell 1
  have z2 := kb.out.cell 2
  simp only [List.getElem?_toArray, List.getElem?_cons_zero, List.getElem?_cons_succ] at z0 z1 z2
  go_wp2_with fail
  refine bodyPost_ret (v := .agg #[.int .i64 1, .int .i64 n, .string ⟨#[]⟩]) ?_ rfl ⟨rfl, ?_⟩
  · exact results_cell_row (P := Try.prog) rfl _ _ w.heap.size 51 _ (0, 0) _ rfl (show Blk _ _ _ #[.int .i64 1, .int .i64 n, .string ⟨#[]⟩] from by simpa using ((kb.out.set_ 0 _).set_ 1 _).set_ 2 _) Try.underlying51 rfl (by kernel_rfl)
  · exact ((hB.out.setCell (p := ⟨w.heap.size, 0, none⟩) (Nat.le_refl _) _).setCell (p := ⟨w.heap.size, 1, none⟩) (Nat.le_refl _) _).setCell (p := ⟨w.heap.size, 2, none⟩) (Nat.le_refl _) _
set_option maxRecDepth 100000 in
theorem rword2_any (s : ByteArray) (w : World) : Calls Try.prog 90 #[.string s] w fun e w' => e = .returned (.agg #[.int .i64 2, .int .i64 0, .string s]) ∧ Below w.heap.size w w' := by
  have hB : Hid (Below w.heap.size w (w.alloc (.cells #[.int .i64 0, .int .i64 0, .string ⟨#[]⟩] 51))) := hid ((Below.refl _ _).alloc (Nat.le_refl _) _)
  have kb := hid (Blk.new w 51 #[.int .i64 0, .int .i64 0, .string ⟨#[]⟩])
  have hn := hid (show w.heap.size < (w.alloc (.cells #[.int .i64 0, .int .i64 0, .string ⟨#[]⟩] 51)).heap.size by simp)
  go_enter Try.func90, Try.ntmps90
  go_upto_region 1 with fail
  generalize hW : w.alloc (.cells #[.int .i64 0, .int .i64 0, .string ⟨#[]⟩] 51) = W at *
  clear hW
  have fz := fun q => kb.out.frozen q
  have hlt := kb.out.lt
  have z0 := kb.out.cell 0
  have z1 := kb.out.cell 1
  have z2 := kb.out.cell 2
  simp only [List.getElem?_toArray, List.getElem?_cons_zero, List.getElem?_cons_succ] at z0 z1 z2
  go_wp2_with fail
  refine bodyPost_ret (v := .agg #[.int .i64 2, .int .i64 0, .string s]) ?_ rfl ⟨rfl, ?_⟩
  · exact results_cell_row (P := Try.prog) rfl _ _ w.heap.size 51 _ (0, 0) _ rfl (show Blk _ _ _ #[.int .i64 2, .int .i64 0, .string s] from by simpa using ((kb.out.set_ 0 _).set_ 1 _).set_ 2 _) Try.underlying51 rfl (by kernel_rfl)
  · exact ((hB.out.setCell (p := ⟨w.heap.size, 0, none⟩) (Nat.le_refl _) _).setCell (p := ⟨w.heap.size, 1, none⟩) (Nat.le_refl _) _).setCell (p := ⟨w.heap.size, 2, none⟩) (Nat.le_refl _) _
set_option maxRecDepth 100000 in
theorem of_any (n : Int) (w : World) : Calls Try.prog 76 #[.int .i64 n] w fun e w' => e = .returned (.agg #[.int .i64 1, .int .i64 n, .string ⟨#[]⟩]) ∧ Below w.heap.size w w' := by
  have hB : Hid (Below w.heap.size w (w.alloc (.cells #[.int .i64 0, .int .i64 0, .string ⟨#[]⟩] 51))) := hid ((Below.refl _ _).alloc (Nat.le_refl _) _)
  have kb := hid (Blk.new w 51 #[.int .i64 0, .int .i64 0, .string ⟨#[]⟩])
  have hn := hid (show w.heap.size < (w.alloc (.cells #[.int .i64 0, .int .i64 0, .string ⟨#[]⟩] 51)).heap.size by simp)
  go_enter Try.func76, Try.ntmps76
  go_upto_region 1 with fail
  generalize hW : w.alloc (.cells #[.int .i64 0, .int .i64 0, .string ⟨#[]⟩] 51) = W at *
  clear hW
  have fz := fun q => kb.out.frozen q
  have hlt := kb.out.lt
  have z0 := kb.out.cell 0
  have z1 := kb.out.cell 1
  have z2 := kb.out.cell 2
  simp only [List.getElem?_toArray, List.getElem?_cons_zero, List.getElem?_cons_succ] at z0 z1 z2
  go_wp2_with fail
  refine bodyPost_ret (v := .agg #[.int .i64 1, .int .i64 n, .string ⟨#[]⟩]) ?_ rfl ⟨rfl, ?_⟩
  · exact results_cell_row (P := Try.prog) rfl _ _ w.heap.size 51 _ (0, 0) _ rfl (show Blk _ _ _ #[.int .i64 1, .int .i64 n, .string ⟨#[]⟩] from by simpa using ((kb.out.set_ 0 _).set_ 1 _).set_ 2 _) Try.underlying51 rfl (by kernel_rfl)
  · exact ((hB.out.setCell (p := ⟨w.heap.size, 0, none⟩) (Nat.le_refl _) _).setCell (p := ⟨w.heap.size, 1, none⟩) (Nat.le_refl _) _).setCell (p := ⟨w.heap.size, 2, none⟩) (Nat.le_refl _) _
set_option maxRecDepth 100000 in
theorem word2_any (s : ByteArray) (w : World) : Calls Try.prog 78 #[.string s] w fun e w' => e = .returned (.agg #[.int .i64 2, .int .i64 0, .string s]) ∧ Below w.heap.size w w' := by
  have hB : Hid (Below w.heap.size w (w.alloc (.cells #[.int .i64 0, .int .i64 0, .string ⟨#[]⟩] 51))) := hid ((Below.refl _ _).alloc (Nat.le_refl _) _)
  have kb := hid (Blk.new w 51 #[.int .i64 0, .int .i64 0, .string ⟨#[]⟩])
  have hn := hid (show w.heap.size < (w.alloc (.cells #[.int .i64 0, .int .i64 0, .string ⟨#[]⟩] 51)).heap.size by simp)
  go_enter Try.func78, Try.ntmps78
  go_upto_region 1 with fail
  generalize hW : w.alloc (.cells #[.int .i64 0, .int .i64 0, .string ⟨#[]⟩] 51) = W at *
  clear hW
  have fz := fun q => kb.out.frozen q
  have hlt := kb.out.lt
  have z0 := kb.out.cell 0
  have z1 := kb.out.cell 1
  have z2 := kb.out.cell 2
  simp only [List.getElem?_toArray, List.getElem?_cons_zero, List.getElem?_cons_succ] at z0 z1 z2
  go_wp2_with fail
  refine bodyPost_ret (v := .agg #[.int .i64 2, .int .i64 0, .string s]) ?_ rfl ⟨rfl, ?_⟩
  · exact results_cell_row (P := Try.prog) rfl _ _ w.heap.size 51 _ (0, 0) _ rfl (show Blk _ _ _ #[.int .i64 2, .int .i64 0, .string s] from by simpa using ((kb.out.set_ 0 _).set_ 1 _).set_ 2 _) Try.underlying51 rfl (by kernel_rfl)
  · exact ((hB.out.setCell (p := ⟨w.heap.size, 0, none⟩) (Nat.le_refl _) _).setCell (p := ⟨w.heap.size, 1, none⟩) (Nat.le_refl _) _).setCell (p := ⟨w.heap.size, 2, none⟩) (Nat.le_refl _) _

end Go.Proofs.Ytbakfkhmopebnaa

namespace Go.Proofs.Ytbakfkhmopebnaa
open Go.RowKit
set_option linter.unusedVariables false
set_option linter.unusedSimpArgs false

theorem ofd0 (a : ByteArray) (b c d : Int) (w : World) : (Instr.field 85 (.agg #[.string a, .int .i64 b, .int .i64 c, .int .i64 d]) 0).run Try.prog w = .ok (.string a) w := by kernel_rfl
theorem ofd1 (a : ByteArray) (b c d : Int) (w : World) : (Instr.field 85 (.agg #[.string a, .int .i64 b, .int .i64 c, .int .i64 d]) 1).run Try.prog w = .ok (.int .i64 b) w := by kernel_rfl
def opV (op : Int) : List Value := [.string (wordI op), .int .i64 (opd op), .int .i64 (takes op), .int .i64 (lays op)]
theorem index_ops : ∀ (k : Nat), k < 32 → ∀ w : World, (Instr.index 89 (.agg opsL.toArray) (.int .i64 k)).run Try.prog w = .ok (.agg (opRow k).toArray) w
  | 0, _, w => by kernel_rfl
  | 1, _, w => by kernel_rfl
  | 2, _, w => by kernel_rfl
  | 3, _, w => by kernel_rfl
  | 4, _, w => by kernel_rfl
  | 5, _, w => by kernel_rfl
  | 6, _, w => by kernel_rfl
  | 7, _, w => by kernel_rfl
  | 8, _, w => by kernel_rfl
  | 9, _, w => by kernel_rfl
  | 10, _, w => by kernel_rfl
  | 11, _, w => by kernel_rfl
  | 12, _, w => by kernel_rfl
  | 13, _, w => by kernel_rfl
  | 14, _, w => by kernel_rfl
  | 15, _, w => by kernel_rfl
  | 16, _, w => by kernel_rfl
  | 17, _, w => by kernel_rfl
  | 18, _, w => by kernel_rfl
  | 19, _, w => by kernel_rfl
  | 20, _, w => by kernel_rfl
  | 21, _, w => by kernel_rfl
  | 22, _, w => by kernel_rfl
  | 23, _, w => by kernel_rfl
  | 24, _, w => by kernel_rfl
  | 25, _, w => by kernel_rfl
  | 26, _, w => by kernel_rfl
  | 27, _, w => by kernel_rfl
  | 28, _, w => by kernel_rfl
  | 29, _, w => by kernel_rfl
  | 30, _, w => by kernel_rfl
  | 31, _, w => by kernel_rfl
  | k + 32, h, _ => by omega
theorem opRow_V {k : Nat} (h1 : 1 ≤ k) (h2 : k ≤ 31) : opRow k = opV k := by
  unfold opRow opV wordI isOp
  rw [if_neg (by omega), if_pos (by rw [decide_eq_true (by omega), decide_eq_true (by omega)]; rfl), Int.toNat_natCast]
theorem opd_far {op : Int} (h : op < 1 ∨ 31 < op) : opV op = [.string ⟨#[]⟩, .int .i64 0, .int .i64 0, .int .i64 0] := by
  have h1 : wordI op = ⟨#[]⟩ := by
    unfold wordI isOp
    rw [if_neg]
    simp only [Bool.and_eq_true, decide_eq_true_eq]
    omega
  have h2 : opd op = 0 := by unfold opd; rw [if_neg (by omega), if_neg (by omega), if_neg (by omega), if_neg (by omega)]
  have h3 : takes op = 0 := by unfold takes; rw [if_neg (by omega), if_neg (by omega)]
  have h4 : lays op = 0 := by unfold lays; rw [if_neg (by omega), if_neg (by omega), if_neg (by omega)]
  unfold opV
  rw [h1, h2, h3, h4]
set_option maxRecDepth 100000 in
theorem operationOf_any (op : Int) (w : World) : Calls Try.prog 58 #[.int .i64 op] w fun e w' => e = .returned (.agg #[.string (wordI op), .int .i64 (opd op), .int .i64 (takes op), .int .i64 (lays op)]) ∧ Below w.heap.size w w' := by
  have hops := hid operations_any
  by_cases h1 : op < 1
  · have t1 : decide (op < 1) = true := decide_eq_true h1
    have hv := hid (opd_far (op := op) (.inl h1))
    have hB : Hid (Below w.heap.size w (w.alloc (.cells #[.string ⟨#[]⟩, .int .i64 0, .int .i64 0, .int .i64 0] 85))) := hid ((Below.refl _ _).alloc (Nat.le_refl _) _)
    clear h1
    go_enter Try.func58, Try.ntmps58
    go_wp2_with fail
    refine bodyPost_ret (v := .agg #[.string ⟨#[]⟩, .int .i64 0, .int .i64 0, .int .i64 0]) ?_ rfl ⟨?_, hB.out⟩
    · exact results_cell_row (P := Try.prog) rfl _ _ w.heap.size 85 _ (0, 0) _ rfl (heap_alloc_last w _) Try.underlying85 rfl (by kernel_rfl)
    · have := hv.out
      unfold opV at this
      simp only [List.cons.injEq] at this
      rw [this.1, this.2.1, this.2.2.1, this.2.2.2.1]
  · by_cases h2 : 31 < op
    · have t1 : decide (op < 1) = false := decide_eq_false h1
      have t2 : decide (31 < op) = true := decide_eq_true h2
      have hv := hid (opd_far (op := op) (.inr h2))
      have hB : Hid (Below w.heap.size w (w.alloc (.cells #[.string ⟨#[]⟩, .int .i64 0, .int .i64 0, .int .i64 0] 85))) := hid ((Below.refl _ _).alloc (Nat.le_refl _) _)
      clear h1 h2
      go_enter Try.func58, Try.ntmps58
      go_wp2_with fail
      refine bodyPost_ret (v := .agg #[.string ⟨#[]⟩, .int .i64 0, .int .i64 0, .int .i64 0]) ?_ rfl ⟨?_, hB.out⟩
      · exact results_cell_row (P := Try.prog) rfl _ _ w.heap.size 85 _ (0, 0) _ rfl (heap_alloc_last w _) Try.underlying85 rfl (by kernel_rfl)
      · have := hv.out
        unfold opV at this
        simp only [List.cons.injEq] at this
        rw [this.1, this.2.1, this.2.2.1, this.2.2.2.1]
    · have t1 : decide (op < 1) = false := decide_eq_false h1
      have t2 : decide (31 < op) = false := decide_eq_false h2
      obtain ⟨k, rfl⟩ : ∃ k : Nat, op = (k : Int) := ⟨op.toNat, by omega⟩
      have hix := index_ops k (by omega)
      rw [opRow_V (by omega) (by omega)] at hix
      unfold opV at hix
      generalize opsL.toArray = T at *
      have k0 := Blk.new w 85 #[.string ⟨#[]⟩, .int .i64 0, .int .i64 0, .int .i64 0]
      have hB0 : Below w.heap.size w (w.alloc (.cells #[.string ⟨#[]⟩, .int .i64 0, .int .i64 0, .int .i64 0] 85)) := (Below.refl _ _).alloc (Nat.le_refl _) _
      have kb := hid k0
      have hB := hid hB0
      clear h1 h2 k0 hB0
      go_enter Try.func58, Try.ntmps58
      go_upto_region 1 with fail
      generalize w.alloc (.cells #[.string ⟨#[]⟩, .int .i64 0, .int .i64 0, .int .i64 0] 85) = w1 at *
      go_wp2_with fail
      refine (hops.out w1).mono ?_
      rintro e w2 ⟨rfl, hb20⟩
      have kb2 := hid (kb.out.below_all hb20)
      have hB2 := hid (hB.out.trans (hb20.mono hB.out.size))
      clear hb20
      have fz : ∀ q, w2.frozen? ⟨w.heap.size, q, none⟩ = false := fun q => kb2.out.frozen q
      have c0 := kb2.out.cell 0
      have c1 := kb2.out.cell 1
      have c2 := kb2.out.cell 2
      have c3 := kb2.out.cell 3
      simp only [List.getElem?_toArray, List.getElem?_cons_zero, List.getElem?_cons_succ] at c0 c1 c2 c3
      go_wp2_with fail
      refine bodyPost_ret (v := .agg #[.string (wordI (k : Int)), .int .i64 (opd (k : Int)), .int .i64 (takes (k : Int)), .int .i64 (lays (k : Int))]) ?_ rfl ⟨rfl, ?_⟩
      · have hk := (((kb2.out.set_ 0 (.string (wordI (k : Int)))).set_ 1 (.int .i64 (opd (k : Int)))).set_ 2 (.int .i64 (takes (k : Int)))).set_ 3 (.int .i64 (lays (k : Int)))
        exact results_cell_row (P := Try.prog) rfl _ _ w.heap.size 85 #[.string (wordI (k : Int)), .int .i64 (opd (k : Int)), .int .i64 (takes (k : Int)), .int .i64 (lays (k : Int))] (0, 0) _ rfl hk Try.underlying85 rfl (by kernel_rfl)
      · exact (((hB2.out.setCell (p := ⟨w.heap.size, 0, none⟩) (Nat.le_refl _) _).setCell (p := ⟨w.heap.size, 1, none⟩) (Nat.le_refl _) _).setCell (p := ⟨w.heap.size, 2, none⟩) (Nat.le_refl _) _).setCell (p := ⟨w.heap.size, 3, none⟩) (Nat.le_refl _) _
set_option maxRecDepth 100000 in
theorem word_any (op : Int) (w : World) : Calls Try.prog 27 #[.int .i64 op] w fun e w' => e = .returned (.string (wordI op)) ∧ Below w.heap.size w w' := by
  have hop := hid (operationOf_any op w)
  have hf := ofd0
  go_enter Try.func27, Try.ntmps27
  go_wp2_with fail
  refine hop.out.mono ?_
  rintro e w2 ⟨rfl, hb0⟩
  have hb := hid hb0
  clear hb0
  go_wp2_with fail
  go_ret
  exact ⟨rfl, hb.out⟩
set_option maxRecDepth 100000 in
theorem operand_any (op : Int) (w : World) : Calls Try.prog 31 #[.int .i64 op] w fun e w' => e = .returned (.int .i64 (opd op)) ∧ Below w.heap.size w w' := by
  have hop := hid (operationOf_any op w)
  have hf := ofd1
  go_enter Try.func31, Try.ntmps31
  go_wp2_with fail
  refine hop.out.mono ?_
  rintro e w2 ⟨rfl, hb0⟩
  have hb := hid hb0
  clear hb0
  go_wp2_with fail
  go_ret
  exact ⟨rfl, hb.out⟩
set_option maxRecDepth 100000 in
theorem takes_any (op : Int) (w : World) : Calls Try.prog 25 #[.int .i64 op] w fun e w' => e = .returned (.tuple #[.int .i64 (takes op), .int .i64 (lays op)]) ∧ Below w.heap.size w w' := by
  have hop := hid (operationOf_any op w)
  go_enter Try.func25, Try.ntmps25
  go_wp2_with fail
  refine hop.out.mono ?_
  rintro e w2 ⟨rfl, hb0⟩
  have k0 := Blk.new w2 85 #[.string (wordI op), .int .i64 (opd op), .int .i64 (takes op), .int .i64 (lays op)]
  have hb1 : Below w.heap.size w (w2.alloc (.cells #[.string (wordI op), .int .i64 (opd op), .int .i64 (takes op), .int .i64 (lays op)] 85)) := hb0.alloc hb0.size _
  have hb := hid hb1
  clear hb0 hb1
  go_upto_region 2 with fail
  have x2 := k0.cell 2
  have x3 := k0.cell 3
  simp only [List.getElem?_toArray, List.getElem?_cons_zero, List.getElem?_cons_succ] at x2 x3
  generalize w2.alloc (.cells #[.string (wordI op), .int .i64 (opd op), .int .i64 (takes op), .int .i64 (lays op)] 85) = w3 at *
  clear k0
  go_quiet (fail)
  go_wp2_with fail
  go_ret2
  exact ⟨rfl, below_drewN hb.out _⟩

end Go.Proofs.Ytbakfkhmopebnaa

namespace Go.Proofs.Ytbakfkhmopebnaa
open Go.RowKit
set_option linter.unusedVariables false
set_option linter.unusedSimpArgs false

theorem bytes_dec (a b : ByteArray) : (a.toList == b.toList) = decide (a = b) := by
  by_cases h : a = b
  · subst h; simp
  · rw [decide_eq_false h]
    exact Bool.eq_false_iff.2 fun e => h (ba_inj (by simpa using e))
def opFrom (s : ByteArray) : Nat → Nat → Int
  | 0, _ => 0
  | f + 1, k => if 0 < k ∧ wordB k = s then k else opFrom s f (k + 1)
def opI (s : ByteArray) : Int := opFrom s 32 0
theorem opFrom_hit {s : ByteArray} {n k : Nat} (h : k < n) (h1 : 0 < k ∧ wordB k = s) : opFrom s (n - k) k = k := by
  rw [show n - k = (n - (k + 1)) + 1 by omega, opFrom, if_pos h1]
theorem opFrom_step {s : ByteArray} {n k : Nat} (h : k < n) (h1 : ¬ (0 < k ∧ wordB k = s)) : opFrom s (n - k) k = opFrom s (n - (k + 1)) (k + 1) := by
  rw [show n - k = (n - (k + 1)) + 1 by omega, opFrom, if_neg h1]
set_option maxRecDepth 100000 in
theorem op_any (s : ByteArray) (w : World) : Calls Try.prog 29 #[.string s] w fun e w' => e = .returned (.int .i64 (opI s)) ∧ Below w.heap.size w w' := by
  have hops := hid (operations_any w)
  have hix0 := index_ops
  have hix := hid hix0
  clear hix0
  generalize opsL.toArray = T at *
  go_enter Try.func29, Try.ntmps29
  go_wp2_with fail
  refine hops.out.mono ?_
  rintro e w2 ⟨rfl, hb0⟩
  have hb := hid hb0
  clear hb0
  go_wp2_with fail
  go_loopw [6] (fun v wr => ∃ k : Nat, v = .int .i64 k ∧ k ≤ 32 ∧ Below w.heap.size w wr ∧ opI s = opFrom s (32 - k) k) (fun v _ => 32 - (intOf v).toNat)
  case atStart => exact ⟨0, rfl, by omega, hb.out, rfl⟩
  case round =>
    obtain ⟨k, rfl, hk, hB0, he0⟩ := hrel
    have hB := hid hB0
    have he := hid he0
    clear hB0 he0
    by_cases hlt : k < 32
    · have i1 : (k : Int) < 32 := by omega
      have hr := hix.out k hlt
      have hw32 : (k : Int) ≤ 32 := by omega
      obtain ⟨c0, c1, c2, c3, hrow, hc0⟩ : ∃ c0 c1 c2 c3, opRow k = [.string c0, c1, c2, c3] ∧ (0 < k → c0 = wordB k) := by
        unfold opRow
        split
        · exact ⟨_, _, _, _, rfl, fun h => by omega⟩
        · exact ⟨_, _, _, _, rfl, fun _ => rfl⟩
      obtain ⟨o1, o2, o3⟩ : c1.oneCell' = true ∧ c2.oneCell' = true ∧ c3.oneCell' = true := by
        unfold opRow at hrow
        split at hrow
        · simp only [List.cons.injEq] at hrow; obtain ⟨_, rfl, rfl, rfl, _⟩ := hrow; exact ⟨rfl, rfl, rfl⟩
        · simp only [List.cons.injEq] at hrow; obtain ⟨_, rfl, rfl, rfl, _⟩ := hrow; exact ⟨rfl, rfl, rfl⟩
      obtain ⟨d1, d2, d3, rfl, rfl, rfl⟩ : ∃ d1 d2 d3, c1 = .int .i64 d1 ∧ c2 = .int .i64 d2 ∧ c3 = .int .i64 d3 := by
        unfold opRow at hrow
        split at hrow
        · simp only [List.cons.injEq] at hrow; exact ⟨_, _, _, hrow.2.1.symm, hrow.2.2.1.symm, hrow.2.2.2.1.symm⟩
        · simp only [List.cons.injEq] at hrow; exact ⟨_, _, _, hrow.2.1.symm, hrow.2.2.1.symm, hrow.2.2.2.1.symm⟩
      rw [hrow] at hr
      clear hrow o1 o2 o3
      have k0 := Blk.new wr 85 #[.string c0, .int .i64 d1, .int .i64 d2, .int .i64 d3]
      have x0 := k0.cell 0
      simp only [List.getElem?_toArray, List.getElem?_cons_zero] at x0
      have hB1 : Hid (Below w.heap.size w (wr.alloc (.cells #[.string c0, .int .i64 d1, .int .i64 d2, .int .i64 d3] 85))) := hid (hB.out.alloc hB.out.size _)
      clear k0
      by_cases h0 : 0 < k
      · have hc := hc0 h0
        have i0 : decide ((0 : Int) < (k : Int)) = true := decide_eq_true (by omega)
        have i0' : decide (0 < k) = true := decide_eq_true h0
        by_cases hs : wordB k = s
        · have hhit := hid (he.out.trans (opFrom_hit hlt ⟨h0, hs⟩))
          have t1 : (c0.toList == s.toList) = true := by rw [bytes_dec, hc]; exact decide_eq_true hs
          clear hc hc0 hs h0
          go_upto_region 4 with fail
          generalize wr.alloc (.cells #[.string c0, .int .i64 d1, .int .i64 d2, .int .i64 d3] 85) = w3 at *
          go_wp2_with fail
          go_ret
          exact ⟨by rw [hhit.out]; rfl, hB1.out⟩
        · have hnx := hid (he.out.trans (opFrom_step hlt fun h => hs h.2))
          have t1 : (c0.toList == s.toList) = false := by rw [bytes_dec, hc]; exact decide_eq_false hs
          clear hc hc0 hs h0
          go_upto_region 4 with fail
          generalize wr.alloc (.cells #[.string c0, .int .i64 d1, .int .i64 d2, .int .i64 d3] 85) = w3 at *
          go_wp2_with fail
          go_roundw
          case rel => exact ⟨k + 1, by go_num, hlt, hB1.out, hnx.out⟩
          case measure => simp [intOf]; omega
      · have hnx := hid (he.out.trans (opFrom_step hlt fun h => h0 h.1))
        have i0 : decide ((0 : Int) < (k : Int)) = false := decide_eq_false (by omega)
        have i0' : decide (0 < k) = false := decide_eq_false h0
        go_upto_region 4 with fail
        generalize wr.alloc (.cells #[.string c0, .int .i64 d1, .int .i64 d2, .int .i64 d3] 85) = w3 at *
        go_wp2_with fail
        go_roundw
        case rel => exact ⟨k + 1, by go_num, hlt, hB1.out, hnx.out⟩
        case measure => simp [intOf]; omega
    · obtain rfl : k = 32 := by omega
      go_wp2_with fail
      go_ret
      exact ⟨by rw [he.out]; rfl, hB.out⟩
/-! the document -/
def wordCs : List Value := (wordsB.drop 1).map .string
theorem wordCs_at {j : Nat} (h : j < 31) : wordCs.toArray[j]? = some (.string (wordB (j + 1))) := by
  unfold wordCs wordB
  have hl : wordsB.length = 32 := by decide
  rw [List.getElem?_toArray, List.getElem?_map, List.getElem?_drop, Nat.add_comm 1 j, List.getD_eq_getElem?_getD, List.getElem?_eq_getElem (by omega)]
  rfl
set_option maxRecDepth 100000 in
theorem rwords_any (w : World) : Calls Try.prog 59 #[] w fun e w' => e = .returned (.slice (some ⟨w.heap.size, 0, none⟩) 31 31) ∧ w' = w.alloc (.cells wordCs.toArray 9) := by
  go_enter Try.func59, Try.ntmps59
  go_wp2_with fail
  go_ret
  exact ⟨rfl, rfl⟩
set_option maxRecDepth 100000 in
theorem rword_any (op : Int) (w : World) : Calls Try.prog 28 #[.int .i64 op] w fun e w' => e = .returned (.string (wordI op)) ∧ Below w.heap.size w w' := by
  have hws := hid (rwords_any w)
  have kb0 := Blk.new w 9 wordCs.toArray
  have hB0 : Below w.heap.size w (w.alloc (.cells wordCs.toArray 9)) := (Below.refl _ _).alloc (Nat.le_refl _) _
  have hB := hid hB0
  clear hB0
  by_cases h1 : op < 1
  · have t1 : decide (op < 1) = true := decide_eq_true h1
    have hv : Hid (wordI op = ⟨#[]⟩) := hid (by have := opd_far (op := op) (.inl h1); unfold opV at this; simpa using congrArg (fun l => l.head?) this)
    clear h1 kb0
    go_enter Try.func28, Try.ntmps28
    go_wp2_with fail
    refine hws.out.mono ?_
    rintro e w2 ⟨rfl, rfl⟩
    generalize w.alloc (.cells wordCs.toArray 9) = w2 at *
    go_wp2_with fail
    go_ret
    exact ⟨by rw [hv.out]; rfl, hB.out⟩
  · by_cases h2 : 31 < op
    · have t1 : decide (op < 1) = false := decide_eq_false h1
      have t2 : decide (31 < op) = true := decide_eq_true h2
      have hv : Hid (wordI op = ⟨#[]⟩) := hid (by have := opd_far (op := op) (.inr h2); unfold opV at this; simpa using congrArg (fun l => l.head?) this)
      clear h1 h2 kb0
      go_enter Try.func28, Try.ntmps28
      go_wp2_with fail
      refine hws.out.mono ?_
      rintro e w2 ⟨rfl, rfl⟩
      generalize w.alloc (.cells wordCs.toArray 9) = w2 at *
      go_wp2_with fail
      go_ret
      exact ⟨by rw [hv.out]; rfl, hB.out⟩
    · have t1 : decide (op < 1) = false := decide_eq_false h1
      have t2 : decide (31 < op) = false := decide_eq_false h2
      obtain ⟨j, rfl⟩ : ∃ j : Nat, op = (j : Int) + 1 := ⟨(op - 1).toNat, by omega⟩
      have hj : j < 31 := by omega
      have hv : Hid (wordI ((j : Int) + 1) = wordB (j + 1)) := hid (by
        unfold wordI isOp
        rw [if_pos (by rw [decide_eq_true (by omega), decide_eq_true (by omega)]; rfl)]
        congr 1)
      have hx := (kb0.cell j).trans (wordCs_at hj)
      have hw : IntKind.i64.wrap ((j : Int) + 1 - 1) = (j : Int) := by rw [show (j : Int) + 1 - 1 = j by omega]; exact IntWalk.i64_in _ (by omega)
      have j31 : (j : Int) < 31 := by omega
      clear h1 h2 kb0
      go_enter Try.func28, Try.ntmps28
      go_wp2_with fail
      refine hws.out.mono ?_
      rintro e w2 ⟨rfl, rfl⟩
      generalize w.alloc (.cells wordCs.toArray 9) = w2 at *
      go_wp2_with fail
      go_ret
      exact ⟨by rw [hv.out]; rfl, hB.out⟩
set_option maxRecDepth 100000 in
theorem rop_any (s : ByteArray) (w : World) : Calls Try.prog 30 #[.string s] w fun e w' => e = .returned (.int .i64 (opI s)) ∧ Below w.heap.size w w' := by
  have hws := hid (rwords_any w)
  have kb0 := Blk.new w 9 wordCs.toArray
  have hB0 : Below w.heap.size w (w.alloc (.cells wordCs.toArray 9)) := (Below.refl _ _).alloc (Nat.le_refl _) _
  have hB := hid hB0
  have kb := hid kb0
  clear hB0 kb0
  go_enter Try.func30, Try.ntmps30
  go_wp2_with fail
  refine hws.out.mono ?_
  rintro e w2 ⟨rfl, rfl⟩
  generalize w.alloc (.cells wordCs.toArray 9) = w2 at *
  go_wp2_with fail
  go_loopw [4] (fun v wr => ∃ k : Nat, v = .int .i64 k ∧ k ≤ 31 ∧ wr = w2 ∧ opI s = opFrom s (32 - (k + 1)) (k + 1)) (fun v _ => 31 - (intOf v).toNat)
  case atStart => exact ⟨0, rfl, by omega, rfl, opFrom_step (n := 32) (k := 0) (by omega) (by omega)⟩
  case round =>
    obtain ⟨k, rfl, hk, rfl, he0⟩ := hrel
    have he := hid he0
    clear he0
    by_cases hlt : k < 31
    · have i1 : (k : Int) < 31 := by omega
      have hx := (kb.out.cell k).trans (wordCs_at hlt)
      have hw : IntKind.i64.wrap ((k : Int) + 1) = (k : Int) + 1 := IntWalk.i64_in _ (by omega)
      by_cases hs : wordB (k + 1) = s
      · have hhit := hid (he.out.trans (opFrom_hit (n := 32) (by omega) ⟨by omega, hs⟩))
        have t1 : ((wordB (k + 1)).toList == s.toList) = true := by rw [bytes_dec]; exact decide_eq_true hs
        clear hs
        generalize wordB (k + 1) = t at *
        go_wp2_with fail
        go_ret
        exact ⟨by rw [hhit.out]; first | rfl | go_num, hB.out⟩
      · have hnx := hid (he.out.trans (opFrom_step (n := 32) (by omega) fun h => hs h.2))
        have t1 : ((wordB (k + 1)).toList == s.toList) = false := by rw [bytes_dec]; exact decide_eq_false hs
        clear hs
        generalize wordB (k + 1) = t at *
        go_wp2_with fail
        go_roundw
        case rel => exact ⟨k + 1, by go_num, hlt, by first | rfl | trivial, hnx.out⟩
        case measure => simp [intOf]; omega
    · obtain rfl : k = 31 := by omega
      go_wp2_with fail
      go_ret
      exact ⟨by rw [he.out]; rfl, hB.out⟩
set_option maxRecDepth 100000 in
theorem roperand_any (op : Int) (w : World) : Calls Try.prog 32 #[.int .i64 op] w fun e w' => e = .returned (.int .i64 (opd op)) ∧ w' = w := by
  by_cases h1 : op = 1
  · subst h1
    go_enter Try.func32, Try.ntmps32
    go_wp2_with fail
    go_ret
    exact ⟨rfl, rfl⟩
  by_cases h2 : op = 2
  · subst h2
    go_enter Try.func32, Try.ntmps32
    go_wp2_with fail
    go_ret
    exact ⟨rfl, rfl⟩
  by_cases h18 : op = 18
  · subst h18
    go_enter Try.func32, Try.ntmps32
    go_wp2_with fail
    go_ret
    exact ⟨rfl, rfl⟩
  by_cases h19 : op = 19
  · subst h19
    go_enter Try.func32, Try.ntmps32
    go_wp2_with fail
    go_ret
    exact ⟨rfl, rfl⟩
  have hv : Hid (opd op = 0) := hid (by unfold opd; rw [if_neg h1, if_neg h2, if_neg h18, if_neg h19])
  have n1 : (op == 1) = false := by simpa using h1
  have n2 : (op == 2) = false := by simpa using h2
  have n18 : (op == 18) = false := by simpa using h18
  have n19 : (op == 19) = false := by simpa using h19
  clear h1 h2 h18 h19
  go_enter Try.func32, Try.ntmps32
  go_wp2_with fail
  go_ret
  exact ⟨by rw [hv.out]; rfl, rfl⟩
set_option maxRecDepth 100000 in
set_option maxHeartbeats 4000000 in
theorem rtakes_any (op : Int) (w : World) : Calls Try.prog 26 #[.int .i64 op] w fun e w' => e = .returned (.tuple #[.int .i64 (takes op), .int .i64 (lays op)]) ∧ w' = w := by
  by_cases h1 : op = 1
  · subst h1
    go_enter Try.func26, Try.ntmps26
    go_wp2_with fail
    go_ret2
    exact ⟨rfl, rfl⟩
  by_cases h2 : op = 2
  · subst h2
    go_enter Try.func26, Try.ntmps26
    go_wp2_with fail
    go_ret2
    exact ⟨rfl, rfl⟩
  by_cases h3 : op = 3
  · subst h3
    go_enter Try.func26, Try.ntmps26
    go_wp2_with fail
    go_ret2
    exact ⟨rfl, rfl⟩
  by_cases h4 : op = 4
  · subst h4
    go_enter Try.func26, Try.ntmps26
    go_wp2_with fail
    go_ret2
    exact ⟨rfl, rfl⟩
  by_cases h19 : op = 19
  · subst h19
    go_enter Try.func26, Try.ntmps26
    go_wp2_with fail
    go_ret2
    exact ⟨rfl, rfl⟩
  by_cases h23 : op = 23
  · subst h23
    go_enter Try.func26, Try.ntmps26
    go_wp2_with fail
    go_ret2
    exact ⟨rfl, rfl⟩
  by_cases h29 : op = 29
  · subst h29
    go_enter Try.func26, Try.ntmps26
    go_wp2_with fail
    go_ret2
    exact ⟨rfl, rfl⟩
  by_cases h30 : op = 30
  · subst h30
    go_enter Try.func26, Try.ntmps26
    go_wp2_with fail
    go_ret2
    exact ⟨rfl, rfl⟩
  by_cases h5 : op = 5
  · subst h5
    go_enter Try.func26, Try.ntmps26
    go_wp2_with fail
    go_ret2
    exact ⟨rfl, rfl⟩
  by_cases h6 : op = 6
  · subst h6
    go_enter Try.func26, Try.ntmps26
    go_wp2_with fail
    go_ret2
    exact ⟨rfl, rfl⟩
  by_cases h12 : op = 12
  · subst h12
    go_enter Try.func26, Try.ntmps26
    go_wp2_with fail
    go_ret2
    exact ⟨rfl, rfl⟩
  by_cases h15 : op = 15
  · subst h15
    go_enter Try.func26, Try.ntmps26
    go_wp2_with fail
    go_ret2
    exact ⟨rfl, rfl⟩
  by_cases h20 : op = 20
  · subst h20
    go_enter Try.func26, Try.ntmps26
    go_wp2_with fail
    go_ret2
    exact ⟨rfl, rfl⟩
  by_cases h21 : op = 21
  · subst h21
    go_enter Try.func26, Try.ntmps26
    go_wp2_with fail
    go_ret2
    exact ⟨rfl, rfl⟩
  by_cases h25 : op = 25
  · subst h25
    go_enter Try.func26, Try.ntmps26
    go_wp2_with fail
    go_ret2
    exact ⟨rfl, rfl⟩
  by_cases h26 : op = 26
  · subst h26
    go_enter Try.func26, Try.ntmps26
    go_wp2_with fail
    go_ret2
    exact ⟨rfl, rfl⟩
  by_cases h27 : op = 27
  · subst h27
    go_enter Try.func26, Try.ntmps26
    go_wp2_with fail
    go_ret2
    exact ⟨rfl, rfl⟩
  by_cases h28 : op = 28
  · subst h28
    go_enter Try.func26, Try.ntmps26
    go_wp2_with fail
    go_ret2
    exact ⟨rfl, rfl⟩
  by_cases h22 : op = 22
  · subst h22
    go_enter Try.func26, Try.ntmps26
    go_wp2_with fail
    go_ret2
    exact ⟨rfl, rfl⟩
  by_cases h7 : op = 7
  · subst h7
    go_enter Try.func26, Try.ntmps26
    go_wp2_with fail
    go_ret2
    exact ⟨rfl, rfl⟩
  by_cases h8 : op = 8
  · subst h8
    go_enter Try.func26, Try.ntmps26
    go_wp2_with fail
    go_ret2
    exact ⟨rfl, rfl⟩
  by_cases h9 : op = 9
  · subst h9
    go_enter Try.func26, Try.ntmps26
    go_wp2_with fail
    go_ret2
    exact ⟨rfl, rfl⟩
  by_cases h10 : op = 10
  · subst h10
    go_enter Try.func26, Try.ntmps26
    go_wp2_with fail
    go_ret2
    exact ⟨rfl, rfl⟩
  by_cases h11 : op = 11
  · subst h11
    go_enter Try.func26, Try.ntmps26
    go_wp2_with fail
    go_ret2
    exact ⟨rfl, rfl⟩
  by_cases h13 : op = 13
  · subst h13
    go_enter Try.func26, Try.ntmps26
    go_wp2_with fail
    go_ret2
    exact ⟨rfl, rfl⟩
  by_cases h14 : op = 14
  · subst h14
    go_enter Try.func26, Try.ntmps26
    go_wp2_with fail
    go_ret2
    exact ⟨rfl, rfl⟩
  by_cases h16 : op = 16
  · subst h16
    go_enter Try.func26, Try.ntmps26
    go_wp2_with fail
    go_ret2
    exact ⟨rfl, rfl⟩
  by_cases h17 : op = 17
  · subst h17
    go_enter Try.func26, Try.ntmps26
    go_wp2_with fail
    go_ret2
    exact ⟨rfl, rfl⟩
  by_cases h24 : op = 24
  · subst h24
    go_enter Try.func26, Try.ntmps26
    go_wp2_with fail
    go_ret2
    exact ⟨rfl, rfl⟩
  have hv : Hid (takes op = 0 ∧ lays op = 0) := hid (by
    refine ⟨?_, ?_⟩
    · unfold takes; rw [if_neg (by omega), if_neg (by omega)]
    · unfold lays; rw [if_neg (by omega), if_neg (by omega), if_neg (by omega)])
  have n1 : (op == 1) = false := by simpa using h1
  have n2 : (op == 2) = false := by simpa using h2
  have n3 : (op == 3) = false := by simpa using h3
  have n4 : (op == 4) = false := by simpa using h4
  have n19 : (op == 19) = false := by simpa using h19
  have n23 : (op == 23) = false := by simpa using h23
  have n29 : (op == 29) = false := by simpa using h29
  have n30 : (op == 30) = false := by simpa using h30
  have n5 : (op == 5) = false := by simpa using h5
  have n6 : (op == 6) = false := by simpa using h6
  have n12 : (op == 12) = false := by simpa using h12
  have n15 : (op == 15) = false := by simpa using h15
  have n20 : (op == 20) = false := by simpa using h20
  have n21 : (op == 21) = false := by simpa using h21
  have n25 : (op == 25) = false := by simpa using h25
  have n26 : (op == 26) = false := by simpa using h26
  have n27 : (op == 27) = false := by simpa using h27
  have n28 : (op == 28) = false := by simpa using h28
  have n22 : (op == 22) = false := by simpa using h22
  have n7 : (op == 7) = false := by simpa using h7
  have n8 : (op == 8) = false := by simpa using h8
  have n9 : (op == 9) = false := by simpa using h9
  have n10 : (op == 10) = false := by simpa using h10
  have n11 : (op == 11) = false := by simpa using h11
  have n13 : (op == 13) = false := by simpa using h13
  have n14 : (op == 14) = false := by simpa using h14
  have n16 : (op == 16) = false := by simpa using h16
  have n17 : (op == 17) = false := by simpa using h17
  have n24 : (op == 24) = false := by simpa using h24
  clear h1 h2 h3 h4 h19 h23 h29 h30 h5 h6 h12 h15 h20 h21 h25 h26 h27 h28 h22 h7 h8 h9 h10 h11 h13 h14 h16 h17 h24
  go_enter Try.func26, Try.ntmps26
  go_wp2_with fail
  go_ret2
  exact ⟨by rw [hv.out.1, hv.out.2]; rfl, rfl⟩

end Go.Proofs.Ytbakfkhmopebnaa

namespace Go.Proofs.Ytbakfkhmopebnaa
open Go.RowKit
set_option linter.unusedVariables false
set_option linter.unusedSimpArgs false

theorem plain_any (c : Nat) (w : World) : Calls Try.prog 93 #[.int .u8 c] w fun e w' => e = .returned (.bool (decide (32 ≤ c) && decide (c ≤ 126))) ∧ w' = w := by
  by_cases h : 32 ≤ c
  · have t1 : decide ((32 : Int) ≤ (c : Int)) = true := decide_eq_true (by omega)
    have hc : Hid ((decide (32 ≤ c) && decide (c ≤ 126)) = decide ((c : Int) ≤ 126)) := hid (by rw [decide_eq_true h, Bool.true_and]; exact decide_eq_decide.2 (by omega))
    clear h
    go_enter Try.func93, Try.ntmps93
    go_wp2_with fail
    go_ret
    exact ⟨by rw [hc.out]; first | rfl | simp, rfl⟩
  · have t1 : decide ((32 : Int) ≤ (c : Int)) = false := decide_eq_false (by omega)
    have hc : Hid ((decide (32 ≤ c) && decide (c ≤ 126)) = false) := hid (by rw [decide_eq_false h, Bool.false_and])
    clear h
    go_enter Try.func93, Try.ntmps93
    go_wp2_with fail
    go_ret
    exact ⟨by rw [hc.out]; rfl, rfl⟩
theorem rmay_any (c : Nat) (w : World) : Calls Try.prog 95 #[.int .u8 c] w fun e w' => e = .returned (.bool (decide (32 ≤ c) && decide (c ≤ 126))) ∧ w' = w := by
  by_cases h : 32 ≤ c
  · have t1 : decide ((32 : Int) ≤ (c : Int)) = true := decide_eq_true (by omega)
    have hc : Hid ((decide (32 ≤ c) && decide (c ≤ 126)) = decide ((c : Int) ≤ 126)) := hid (by rw [decide_eq_true h, Bool.true_and]; exact decide_eq_decide.2 (by omega))
    clear h
    go_enter Try.func95, Try.ntmps95
    go_wp2_with fail
    go_ret
    exact ⟨by rw [hc.out]; first | rfl | simp, rfl⟩
  · have t1 : decide ((32 : Int) ≤ (c : Int)) = false := decide_eq_false (by omega)
    have hc : Hid ((decide (32 ≤ c) && decide (c ≤ 126)) = false) := hid (by rw [decide_eq_false h, Bool.false_and])
    clear h
    go_enter Try.func95, Try.ntmps95
    go_wp2_with fail
    go_ret
    exact ⟨by rw [hc.out]; rfl, rfl⟩

theorem okT_at {s : ByteArray} {k : Nat} (h : k < s.size) (hb : okB (s.data[k]'h) = false) : okT s = false := by
  unfold okT
  rw [List.all_eq_false]
  exact ⟨s.data[k]'h, by rw [Array.mem_toList_iff]; exact Array.getElem_mem h, by rw [hb]; decide⟩
theorem okT_all {s : ByteArray} (h : ∀ k (hk : k < s.size), okB (s.data[k]'hk) = true) : okT s = true := by
  unfold okT
  rw [List.all_eq_true]
  intro c hc
  rw [Array.mem_toList_iff] at hc
  obtain ⟨k, hk, rfl⟩ := Array.mem_iff_getElem.1 hc
  exact h k hk
theorem mayB {F : FuncId} {s : ByteArray} {k : Nat} {w : World} {b : Bool} (hk : k < s.size) (hc : okB (s.data[k]'hk) = b) (h : Calls Try.prog F #[.int .u8 ((s[k]'hk).toNat : Nat)] w fun e w' => e = .returned (.bool (decide (32 ≤ (s[k]'hk).toNat) && decide ((s[k]'hk).toNat ≤ 126))) ∧ w' = w) :
    Calls Try.prog F #[.int .u8 ((s[k]'hk).toNat : Nat)] w fun e w' => e = .returned (.bool b) ∧ w' = w := by
  rwa [show (decide (32 ≤ (s[k]'hk).toNat) && decide ((s[k]'hk).toNat ≤ 126)) = b from hc] at h
set_option maxRecDepth 100000 in
theorem printable_any (s : ByteArray) (w : World) (hs : s.size ≤ 9223372036854775806) : Calls Try.prog 61 #[.string s] w fun e w' => e = .returned (.bool (okT s)) ∧ w' = w := by
  go_enter Try.func61, Try.ntmps61
  go_wp2_with fail
  go_loopw [6] (fun v wr => ∃ k : Nat, v = .int .i64 k ∧ k ≤ s.size ∧ wr = w ∧ ∀ j (hj : j < s.size), j < k → okB (s.data[j]'hj) = true) (fun v _ => s.size - (intOf v).toNat)
  case atStart => exact ⟨0, rfl, Nat.zero_le _, rfl, fun j _ h => by omega⟩
  case round =>
    obtain ⟨k, rfl, hk, rfl, ha0⟩ := hrel
    have ha := hid ha0
    clear ha0
    by_cases hlt : k < s.size
    · have i1 : (k : Int) < (s.size : Int) := by omega
      have hs9 : (s.size : Int) ≤ 9223372036854775806 := by omega
      cases hc : okB (s.data[k]'hlt) with
      | true =>
        have hpl := hid (mayB hlt hc (plain_any _ wr))
        have hc := hid hc
        go_wp2_with fail
        refine hpl.out.mono ?_
        rintro e w2 ⟨rfl, rfl⟩
        go_wp2_with fail
        go_roundw
        case rel => exact ⟨k + 1, by go_num, hlt, by first | rfl | trivial, fun j hj hjk => by
          by_cases e : j = k
          · subst e; exact hc.out
          · exact ha.out j hj (by omega)⟩
        case measure => simp [intOf]; omega
      | false =>
        have hpl := hid (mayB hlt hc (plain_any _ wr))
        have hfin : Hid (okT s = false) := hid (okT_at hlt hc)
        clear hc
        go_wp2_with fail
        refine hpl.out.mono ?_
        rintro e w2 ⟨rfl, rfl⟩
        go_wp2_with fail
        go_ret
        exact ⟨by rw [hfin.out]; rfl, by first | rfl | trivial⟩
    · obtain rfl : k = s.size := by omega
      have hfin : Hid (okT s = true) := hid (okT_all fun j hj => ha.out j hj hj)
      go_wp2_with fail
      go_ret
      exact ⟨by rw [hfin.out]; rfl, by first | rfl | trivial⟩
theorem run_eqVal (a b : Vl) (w : World) :
    (Op.equalIn 10000 51 (.agg #[.int .i64 a.k, .int .i64 a.n, .string a.s]) (.agg #[.int .i64 b.k, .int .i64 b.n, .string b.s])).run Try.prog w = .ok (decide (a = b)) w := by
  have ht : Try.prog.underlying 51 = some (.struct (Try.prog.fieldsOf 51)) := by kernel_rfl
  have hp : Try.prog.stoodInHeld 51 = false := by kernel_rfl
  rw [run_equalIn_agg w 9999 _ _ _ ht hp]
  have e : decide (a = b) = (a.k == b.k && (a.n == b.n && (a.s.toList == b.s.toList))) := by
    rw [bytes_dec, Bool.eq_iff_iff]
    simp only [decide_eq_true_eq, Bool.and_eq_true, beq_iff_eq]
    exact ⟨fun e => by subst e; simp, fun ⟨h1, h2, h3⟩ => by cases a; cases b; simp_all⟩
  rw [e]
  clear ht hp e
  simp only [Program.fieldsOf, Try.underlying51]
  go_simp
  by_cases h1 : a.k = b.k <;> by_cases h2 : a.n = b.n <;> by_cases h3 : a.s.toList = b.s.toList <;> simp [h1, h2, h3]
theorem guardVal : Try.prog.eqGuardType Try.prog.depth 51 = false := by kernel_rfl
theorem eql_zero (k n : Int) (s : ByteArray) (w : World) : (binOp .eql 51 (.agg #[.int .i64 k, .int .i64 n, .string s]) (.agg #[.int .i64 0, .int .i64 0, .string ⟨#[]⟩])).run Try.prog w = .ok (.bool (decide ((⟨k, n, s⟩ : Vl) = vl0))) w := by
  have h := run_eqVal ⟨k, n, s⟩ vl0 w
  have e : vl0 = ⟨0, 0, ⟨#[]⟩⟩ := rfl
  rw [e] at h ⊢
  simp only at h
  rw [run_eql_struct, h]
  simp only [Result.andThen]
theorem ok_none (n : Int) (s : ByteArray) : Vl.ok ⟨0, n, s⟩ = decide ((⟨0, n, s⟩ : Vl) = vl0) := by
  unfold Vl.ok vl0
  rw [if_pos rfl, Bool.eq_iff_iff]
  simp
theorem str_nil {s : ByteArray} (h : s ≠ ⟨#[]⟩) : (s.toList == (⟨#[]⟩ : ByteArray).toList) = false ∧ (s.toList == []) = false ∧ ¬ s.toList = [] := by
  have h1 : (s.toList == (⟨#[]⟩ : ByteArray).toList) = false := by rw [bytes_dec]; exact decide_eq_false h
  have h2 : (⟨#[]⟩ : ByteArray).toList = [] := by rw [ByteArray.toList_eq]
  rw [h2] at h1
  exact ⟨by rw [h2]; exact h1, h1, by simpa using h1⟩
set_option maxRecDepth 100000 in
theorem valid_any (v : Vl) (w : World) (hs : v.s.size ≤ 9223372036854775806) : Calls Try.prog 34 #[.agg #[.int .i64 v.k, .int .i64 v.n, .string v.s]] w fun e w' => e = .returned (.bool v.ok) ∧ Below w.heap.size w w' := by
  obtain ⟨k, n, s⟩ := v
  have hgd := guardVal
  simp only at hs
  have hB : Hid (Below w.heap.size w (w.alloc (.cells #[.int .i64 k, .int .i64 n, .string s] 51))) := hid ((Below.refl _ _).alloc (Nat.le_refl _) _)
  have kb := Blk.new w 51 #[.int .i64 k, .int .i64 n, .string s]
  have x0 := kb.cell 0
  have x1 := kb.cell 1
  have x2 := kb.cell 2
  simp only [List.getElem?_toArray, List.getElem?_cons_zero, List.getElem?_cons_succ] at x0 x1 x2
  have hs9 := hid hs
  clear kb hs
  by_cases hk0 : k = 0
  · subst hk0
    have hz := eql_zero 0 n s
    have hok := hid (ok_none n s)
    generalize decide ((⟨0, n, s⟩ : Vl) = vl0) = b at *
    go_enter Try.func34, Try.ntmps34
    go_upto_region 1 with fail
    generalize w.alloc (.cells #[.int .i64 0, .int .i64 n, .string s] 51) = w1 at *
    go_wp2_with fail
    go_ret
    exact ⟨by rw [hok.out]; rfl, hB.out⟩
  have n0 : (k == 0) = false := by simpa using hk0
  by_cases hk1 : k = 1
  · subst hk1
    by_cases he : s = ⟨#[]⟩
    · subst he
      have hok : Hid (Vl.ok ⟨1, n, ⟨#[]⟩⟩ = true) := hid rfl
      go_enter Try.func34, Try.ntmps34
      go_upto_region 1 with fail
      generalize w.alloc (.cells #[.int .i64 1, .int .i64 n, .string ⟨#[]⟩] 51) = w1 at *
      go_wp2_with fail
      go_ret
      exact ⟨by rw [hok.out]; rfl, hB.out⟩
    · have hok : Hid (Vl.ok ⟨1, n, s⟩ = false) := hid (by unfold Vl.ok; simp only; rw [if_neg (by decide)]; simp only [if_true]; exact decide_eq_false he)
      obtain ⟨e1, e2, e3⟩ := str_nil he
      go_enter Try.func34, Try.ntmps34
      go_upto_region 1 with fail
      generalize w.alloc (.cells #[.int .i64 1, .int .i64 n, .string s] 51) = w1 at *
      go_wp2_with fail
      go_ret
      exact ⟨by rw [hok.out]; rfl, hB.out⟩
  have n1 : (k == 1) = false := by simpa using hk1
  by_cases hk2 : k = 2
  · subst hk2
    have hok : Hid (Vl.ok ⟨2, n, s⟩ = (decide (n = 0) && (decide (s.size ≤ 64) && okT s))) := hid rfl
    clear hk0 hk1 n0 n1
    by_cases hn : n = 0
    · subst hn
      by_cases hz : s.size ≤ 64
      · have z1 : decide ((s.size : Int) ≤ 64) = true := decide_eq_true (by omega)
        have z2 : decide (s.size ≤ 64) = true := decide_eq_true hz
        have hpr := hid fun w => printable_any s w (by omega)
        have hf : Hid (Vl.ok ⟨2, 0, s⟩ = okT s) := hid (by rw [hok.out, z2]; simp)
        clear hz
        go_enter Try.func34, Try.ntmps34
        go_upto_region 1 with fail
        generalize w.alloc (.cells #[.int .i64 2, .int .i64 0, .string s] 51) = w1 at *
        go_wp2_with fail
        refine (hpr.out _).mono ?_
        rintro e w2 ⟨rfl, rfl⟩
        go_wp2_with fail
        go_ret
        exact ⟨by rw [hf.out]; rfl, hB.out⟩
      · have z1 : decide ((s.size : Int) ≤ 64) = false := decide_eq_false (by omega)
        have z2 : decide (s.size ≤ 64) = false := decide_eq_false hz
        have hf : Hid (Vl.ok ⟨2, 0, s⟩ = false) := hid (by rw [hok.out, z2]; simp)
        clear hz
        go_enter Try.func34, Try.ntmps34
        go_upto_region 1 with fail
        generalize w.alloc (.cells #[.int .i64 2, .int .i64 0, .string s] 51) = w1 at *
        go_wp2_with fail
        go_ret
        exact ⟨by rw [hf.out]; rfl, hB.out⟩
    · have n1 : (n == 0) = false := by simpa using hn
      have hf : Hid (Vl.ok ⟨2, n, s⟩ = false) := hid (by rw [hok.out, decide_eq_false hn]; rfl)
      clear hn
      go_enter Try.func34, Try.ntmps34
      go_upto_region 1 with fail
      generalize w.alloc (.cells #[.int .i64 2, .int .i64 n, .string s] 51) = w1 at *
      go_wp2_with fail
      go_ret
      exact ⟨by rw [hf.out]; rfl, hB.out⟩
  have n2 : (k == 2) = false := by simpa using hk2
  have hf : Hid (Vl.ok ⟨k, n, s⟩ = false) := hid (by unfold Vl.ok; simp only; rw [if_neg hk0, if_neg hk1, if_neg hk2])
  clear hk0 hk1 hk2
  go_enter Try.func34, Try.ntmps34
  go_upto_region 1 with fail
  generalize w.alloc (.cells #[.int .i64 k, .int .i64 n, .string s] 51) = w1 at *
  go_wp2_with fail
  go_ret
  exact ⟨by rw [hf.out]; rfl, hB.out⟩
set_option maxRecDepth 100000 in
theorem rvalid_any (v : Vl) (w : World) (hs : v.s.size ≤ 9223372036854775806) : Calls Try.prog 65 #[.agg #[.int .i64 v.k, .int .i64 v.n, .string v.s]] w fun e w' => e = .returned (.bool v.ok) ∧ Below w.heap.size w w' := by
  obtain ⟨k, n, s⟩ := v
  have hgd := guardVal
  simp only at hs
  have hB : Hid (Below w.heap.size w (w.alloc (.cells #[.int .i64 k, .int .i64 n, .string s] 51))) := hid ((Below.refl _ _).alloc (Nat.le_refl _) _)
  have kb := Blk.new w 51 #[.int .i64 k, .int .i64 n, .string s]
  have x0 := kb.cell 0
  have x1 := kb.cell 1
  have x2 := kb.cell 2
  simp only [List.getElem?_toArray, List.getElem?_cons_zero, List.getElem?_cons_succ] at x0 x1 x2
  have hs9 := hid hs
  clear kb hs
  by_cases hk0 : k = 0
  · subst hk0
    by_cases hn : n = 0
    · subst hn
      by_cases he : s = ⟨#[]⟩
      · subst he
        have hok : Hid (Vl.ok ⟨0, 0, ⟨#[]⟩⟩ = true) := hid rfl
        go_enter Try.func65, Try.ntmps65
        go_upto_region 1 with fail
        generalize w.alloc (.cells #[.int .i64 0, .int .i64 0, .string ⟨#[]⟩] 51) = w1 at *
        go_wp2_with fail
        go_ret
        exact ⟨by rw [hok.out]; rfl, hB.out⟩
      · have hok : Hid (Vl.ok ⟨0, 0, s⟩ = false) := hid (by rw [ok_none]; exact decide_eq_false fun h => he (by unfold vl0 at h; simpa using h))
        obtain ⟨e1, e2, e3⟩ := str_nil he
        go_enter Try.func65, Try.ntmps65
        go_upto_region 1 with fail
        generalize w.alloc (.cells #[.int .i64 0, .int .i64 0, .string s] 51) = w1 at *
        go_wp2_with fail
        go_ret
        exact ⟨by rw [hok.out]; rfl, hB.out⟩
    · have hok : Hid (Vl.ok ⟨0, n, s⟩ = false) := hid (by rw [ok_none]; exact decide_eq_false fun h => hn (by unfold vl0 at h; simp at h; exact h.1))
      have n1 : (n == 0) = false := by simpa using hn
      clear hn
      go_enter Try.func65, Try.ntmps65
      go_upto_region 1 with fail
      generalize w.alloc (.cells #[.int .i64 0, .int .i64 n, .string s] 51) = w1 at *
      go_wp2_with fail
      go_ret
      exact ⟨by rw [hok.out]; rfl, hB.out⟩
  have n0 : (k == 0) = false := by simpa using hk0
  by_cases hk1 : k = 1
  · subst hk1
    by_cases he : s = ⟨#[]⟩
    · subst he
      have hok : Hid (Vl.ok ⟨1, n, ⟨#[]⟩⟩ = true) := hid rfl
      go_enter Try.func65, Try.ntmps65
      go_upto_region 1 with fail
      generalize w.alloc (.cells #[.int .i64 1, .int .i64 n, .string ⟨#[]⟩] 51) = w1 at *
      go_wp2_with fail
      go_ret
      exact ⟨by rw [hok.out]; rfl, hB.out⟩
    · have hok : Hid (Vl.ok ⟨1, n, s⟩ = false) := hid (by unfold Vl.ok; simp only; rw [if_neg (by decide)]; simp only [if_true]; exact decide_eq_false he)
      obtain ⟨e1, e2, e3⟩ := str_nil he
      go_enter Try.func65, Try.ntmps65
      go_upto_region 1 with fail
      generalize w.alloc (.cells #[.int .i64 1, .int .i64 n, .string s] 51) = w1 at *
      go_wp2_with fail
      go_ret
      exact ⟨by rw [hok.out]; rfl, hB.out⟩
  have n1 : (k == 1) = false := by simpa using hk1
  by_cases hk2 : k = 2
  · subst hk2
    have hok : Hid (Vl.ok ⟨2, n, s⟩ = (decide (n = 0) && (decide (s.size ≤ 64) && okT s))) := hid rfl
    clear hk0 hk1 n0 n1
    go_enter Try.func65, Try.ntmps65
    go_upto_region 1 with fail
    generalize w.alloc (.cells #[.int .i64 2, .int .i64 n, .string s] 51) = w1 at *
    go_wp2_with fail
    go_loopw [3] (fun v wr => ∃ k : Nat, v = .int .i64 k ∧ k ≤ s.size ∧ wr = w1 ∧ ∀ j (hj : j < s.size), j < k → okB (s.data[j]'hj) = true) (fun v _ => s.size - (intOf v).toNat)
    case atStart => exact ⟨0, rfl, Nat.zero_le _, rfl, fun j _ h => by omega⟩
    case round =>
      obtain ⟨k, rfl, hk, rfl, ha0⟩ := hrel
      have ha := hid ha0
      clear ha0
      by_cases hlt : k < s.size
      · have i1 : (k : Int) < (s.size : Int) := by omega
        have hw : IntKind.i64.wrap ((k : Int) + 1) = (k : Int) + 1 := IntWalk.i64_in _ (by have := hs9.out; omega)
        cases hc : okB (s.data[k]'hlt) with
        | true =>
          have hpl := hid (mayB hlt hc (rmay_any _ wr))
          have hc := hid hc
          go_wp2_with fail
          refine hpl.out.mono ?_
          rintro e w2 ⟨rfl, rfl⟩
          go_wp2_with fail
          go_roundw
          case rel => exact ⟨k + 1, by go_num, hlt, by first | rfl | trivial, fun j hj hjk => by
            by_cases e : j = k
            · subst e; exact hc.out
            · exact ha.out j hj (by omega)⟩
          case measure => simp [intOf]; omega
        | false =>
          have hpl := hid (mayB hlt hc (rmay_any _ wr))
          have hfin : Hid (Vl.ok ⟨2, n, s⟩ = false) := hid (by rw [hok.out, okT_at hlt hc]; simp)
          clear hc
          go_wp2_with fail
          refine hpl.out.mono ?_
          rintro e w2 ⟨rfl, rfl⟩
          go_wp2_with fail
          go_ret
          exact ⟨by rw [hfin.out]; rfl, hB.out⟩
      · obtain rfl : k = s.size := by omega
        have hfin : Hid (okT s = true) := hid (okT_all fun j hj => ha.out j hj hj)
        by_cases hn : n = 0
        · subst hn
          have hf : Hid (Vl.ok ⟨2, 0, s⟩ = decide (s.size ≤ 64)) := hid (by rw [hok.out, hfin.out]; simp)
          have hz : Hid (decide (s.size ≤ 64) = decide ((s.size : Int) ≤ 64)) := hid (decide_eq_decide.2 (by omega))
          go_wp2_with fail
          go_ret
          exact ⟨by rw [hf.out]; first | rfl | (rw [hz.out]; rfl) | simp, hB.out⟩
        · have n1 : (n == 0) = false := by simpa using hn
          have hf : Hid (Vl.ok ⟨2, n, s⟩ = false) := hid (by rw [hok.out, decide_eq_false hn]; rfl)
          clear hn
          go_wp2_with fail
          go_ret
          exact ⟨by rw [hf.out]; rfl, hB.out⟩
  have n2 : (k == 2) = false := by simpa using hk2
  have hf : Hid (Vl.ok ⟨k, n, s⟩ = false) := hid (by unfold Vl.ok; simp only; rw [if_neg hk0, if_neg hk1, if_neg hk2])
  clear hk0 hk1 hk2
  go_enter Try.func65, Try.ntmps65
  go_upto_region 1 with fail
  generalize w.alloc (.cells #[.int .i64 k, .int .i64 n, .string s] 51) = w1 at *
  go_wp2_with fail
  go_ret
  exact ⟨by rw [hf.out]; rfl, hB.out⟩

end Go.Proofs.Ytbakfkhmopebnaa

