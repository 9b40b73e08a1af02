/- Texts of the proof, joined: KBack, KRRd, KRRd2, KRNew, KRNum, KNum, KRUint, KTk, VPl, KRText. -/
import Derived.Test.YtbnpidmlcjofiaaDoorJ03
import Derived.Test.YtbnpidmlcjofiaaDoorJ05
import Derived.Test.YtbnpidmlcjofiaaDoorJ04
import Derived.Laws.Rows
import Derived.Lib.ParseIntBTie
import Derived.Lib.ItoaNum
import Derived.Laws.BytesArg
namespace Go.Proofs.YtbnpidmlcjofiaaDoor
set_option linter.unusedVariables false
set_option linter.unusedSimpArgs false

/-- these bytes stand at a place -/
def Has (b : List Nat) (a : Nat) (l : List Nat) : Prop := ∀ j c, l[j]? = some c → b[a + j]? = some c
theorem Has.app {b : List Nat} {a : Nat} {l m : List Nat} (h : Has b a (l ++ m)) : Has b a l ∧ Has b (a + l.length) m := by
  refine ⟨fun j c hj => h j c ?_, fun j c hj => ?_⟩
  · rw [List.getElem?_append_left (List.getElem?_eq_some_iff.1 hj).1]; exact hj
  · rw [Nat.add_assoc]
    refine h _ c ?_
    rw [List.getElem?_append_right (by omega), Nat.add_sub_cancel_left]; exact hj
theorem Has.cons {b : List Nat} {a c : Nat} {m : List Nat} (h : Has b a (c :: m)) : b[a]? = some c ∧ Has b (a + 1) m := ⟨h 0 c rfl, (Has.app (l := [c]) h).2⟩
theorem Has.self (l : List Nat) : Has l 0 l := fun j c hj => by rwa [Nat.zero_add]
theorem Has.len {b : List Nat} {a : Nat} {l : List Nat} (h : Has b a l) (hl : 0 < l.length) : a + l.length ≤ b.length := by
  have := h (l.length - 1) _ (List.getElem?_eq_getElem (by omega))
  have := (List.getElem?_eq_some_iff.1 this).1
  omega
theorem Has.took {b : List Nat} {a : Nat} {l : List Nat} (h : Has b a l) (ha : a + l.length ≤ b.length) : (b.drop a).take l.length = l := by
  apply List.ext_getElem?
  intro j
  by_cases hj : j < l.length
  · rw [List.getElem?_take_of_lt hj, List.getElem?_drop, h j _ (List.getElem?_eq_getElem hj), List.getElem?_eq_getElem hj]
  · rw [List.getElem?_take_eq_none (by omega), List.getElem?_eq_none (by omega)]
theorem num_has {b : List Nat} {a n : Nat} (h : Has b a (putU n)) (hn : n < 18446744073709551616) : num b a = .inl (n, (putU n).length) := by
  unfold num
  have h9 : n < 128 ^ 9 * 2 := by
    have : 128 ^ 9 * 2 = 18446744073709551616 := by decide
    omega
  have := num_putF b a 9 n 0 0 rfl h9 (by omega) (fun j c hj => by rw [Nat.add_zero]; exact h j c hj)
  simpa [putU] using this
section
variable {r : Rr} {n : Nat}
theorem count_has {most : Nat} (he : r.e = 0) (h : Has r.b r.at_ (putU n)) (hm : n ≤ most) (hs : most < 18446744073709551616) : r.count most = (n, r.took (putU n).length) := by
  unfold Rr.count
  rw [if_neg (by simp [he]), num_has h (by omega)]
  simp only
  rw [if_neg (by omega)]
theorem uint_has (he : r.e = 0) (h : Has r.b r.at_ (putU n)) (hs : n < 18446744073709551616) : r.uint = (n, r.took (putU n).length) := by
  unfold Rr.uint
  rw [if_neg (by simp [he]), num_has h (by omega)]
theorem int_has {n : Int} (he : r.e = 0) (h : Has r.b r.at_ (putU (zig n))) (h1 : -9223372036854775808 ≤ n) (h2 : n ≤ 9223372036854775807) : r.int = (n, r.took (putU (zig n)).length) := by
  unfold Rr.int
  rw [if_neg (by simp [he]), num_has h (zig_lt h1 h2)]
  simp only
  rw [zag_zig]
theorem byte_has {c : Nat} (he : r.e = 0) (h : r.b[r.at_]? = some c) : r.byte = (c, r.took 1) := by
  unfold Rr.byte
  rw [if_neg (by simp [he]), h]
theorem text_has {s : ByteArray} (he : r.e = 0) (h : Has r.b r.at_ (putU s.size ++ tb s)) (hs : s.size ≤ 64) : r.text 64 = (s, r.took ((putU s.size).length + s.size)) := by
  obtain ⟨h1, h2⟩ := h.app
  unfold Rr.text
  rw [if_neg (by simp [he]), num_has h1 (by omega)]
  simp only
  have hl := h1.len (by have := putF_len 9 s.size; unfold putU; omega)
  have hr : r.at_ + (putU s.size).length + (tb s).length ≤ r.b.length := by
    by_cases e : (tb s).length = 0
    · omega
    · have := h2.len (by omega); omega
  have ht := h2.took hr
  rw [tb_len] at ht hr
  rw [if_neg (by omega), if_neg (by omega), ht, bt_tb]
theorem vput_len (v : Vl) (h : v.ok = true) : 1 ≤ (vput v).length := by
  unfold vput
  rw [if_pos h]
  split
  · simp
  · split <;> simp
def Vl.rng (v : Vl) : Prop := -9223372036854775808 ≤ v.n ∧ v.n ≤ 9223372036854775807
theorem ok_forms {v : Vl} (h : v.ok = true) : v = vl0 ∨ (v.k = 1 ∧ v.s = ⟨#[]⟩) ∨ (v.k = 2 ∧ v.n = 0 ∧ v.s.size ≤ 64 ∧ okT v.s = true) := by
  unfold Vl.ok at h
  split at h
  · rename_i h1
    simp only [Bool.and_eq_true, decide_eq_true_eq] at h
    obtain ⟨k, n, s⟩ := v
    simp only at h1 h
    exact .inl (by rw [h1, h.1, h.2]; rfl)
  · split at h
    · rename_i h2
      exact .inr (.inl ⟨h2, of_decide_eq_true h⟩)
    · split at h
      · rename_i h3
        simp only [Bool.and_eq_true, decide_eq_true_eq] at h
        exact .inr (.inr ⟨h3, h.1, h.2.1, h.2.2⟩)
      · cases h
theorem took_e (r : Rr) (k : Nat) : (r.took k).e = r.e ∧ (r.took k).b = r.b ∧ (r.took k).at_ = r.at_ + k := ⟨rfl, rfl, rfl⟩
theorem take_has {v : Vl} (he : r.e = 0) (hv : v.ok = true) (hr : v.rng) (h : Has r.b r.at_ (vput v)) : ∃ r', r.take = (v, r') ∧ r'.b = r.b ∧ r'.e = 0 ∧ r'.at_ = r.at_ + (vput v).length := by
  unfold vput at h ⊢
  rw [if_pos hv] at h ⊢
  rcases ok_forms hv with rfl | ⟨h1, h2⟩ | ⟨h1, h2, h3, h4⟩
  · rw [if_neg (by decide), if_neg (by decide)] at h ⊢
    have h0 := h.cons.1
    refine ⟨r.took 1, ?_, rfl, he, rfl⟩
    unfold Rr.take
    rw [byte_has he h0]
    simp
  · rw [if_pos h1] at h ⊢
    obtain ⟨h0, h5⟩ := h.cons
    refine ⟨(r.took 1).took (putU (zig v.n)).length, ?_, rfl, he, ?_⟩
    · unfold Rr.take
      rw [byte_has he h0]
      simp only
      rw [if_neg (by decide)]
      simp only [if_true]
      rw [int_has (r := r.took 1) he h5 hr.1 hr.2]
      simp only
      rw [if_pos (show ((r.took 1).took (putU (zig v.n)).length).e = 0 from he)]
      obtain ⟨k, n, s⟩ := v
      simp only at h1 h2
      rw [h1, h2]
    · show r.at_ + 1 + _ = _
      simp; omega
  · rw [if_neg (by omega), if_pos h1] at h ⊢
    obtain ⟨h0, h5⟩ := h.cons
    refine ⟨(r.took 1).took ((putU v.s.size).length + v.s.size), ?_, rfl, he, ?_⟩
    · unfold Rr.take
      rw [byte_has he h0]
      simp only
      rw [if_neg (by decide), if_neg (by decide)]
      simp only [if_true]
      rw [text_has (r := r.took 1) he h5 h3]
      simp only
      rw [if_pos h4, if_pos (show ((r.took 1).took ((putU v.s.size).length + v.s.size)).e = 0 from he)]
      obtain ⟨k, n, s⟩ := v
      simp only at h1 h2
      rw [h1, h2]
    · show r.at_ + 1 + _ = _
      simp [tb_len]; omega
end
theorem getC_has : ∀ (cs : List Vl) (r : Rr) (l : List Vl), r.e = 0 → (∀ v ∈ cs, v.ok = true ∧ v.k ≠ 0 ∧ v.rng) → Has r.b r.at_ (cs.flatMap vput) → ∃ r', getC cs.length r l = .inl (r', l ++ cs) ∧ r'.b = r.b ∧ r'.e = 0 ∧ r'.at_ = r.at_ + (cs.flatMap vput).length := by
  intro cs
  induction cs with
  | nil => intro r l he _ _; exact ⟨r, by simp [getC], rfl, he, by simp⟩
  | cons v cs ih =>
    intro r l he hv h
    rw [List.flatMap_cons] at h
    obtain ⟨h1, h2⟩ := h.app
    obtain ⟨a1, a2, a3⟩ := hv v List.mem_cons_self
    obtain ⟨r1, b1, b2, b3, b4⟩ := take_has he a1 a3 h1
    obtain ⟨r2, c1, c2, c3, c4⟩ := ih r1 (l ++ [v]) b3 (fun u hu => hv u (List.mem_cons_of_mem _ hu)) (by rw [b2, b4]; exact h2)
    refine ⟨r2, ?_, c2.trans b2, c3, ?_⟩
    · rw [List.length_cons, getC, if_neg (by simp [he]), b1]
      simp only
      rw [if_neg (by rintro ⟨_, h⟩; exact a2 h), c1]
      simp
    · rw [c4, b4, List.flatMap_cons, List.length_append]; omega
theorem getI_has : ∀ (code : List Is) (r : Rr) (l : List Is), r.e = 0 → (∀ i ∈ code, 0 ≤ i.op ∧ 0 ≤ i.n ∧ i.n ≤ 255) → Has r.b r.at_ (code.flatMap iput) → ∃ r', getI code.length r l none = (r', l ++ code, none) ∧ r'.b = r.b ∧ r'.e = 0 ∧ r'.at_ = r.at_ + (code.flatMap iput).length := by
  intro code
  induction code with
  | nil => intro r l he _ _; exact ⟨r, by simp [getI], rfl, he, by simp⟩
  | cons i code ih =>
    intro r l he hv h
    rw [List.flatMap_cons] at h
    obtain ⟨h1, h2⟩ := h.app
    obtain ⟨a1, a2, a3⟩ := hv i List.mem_cons_self
    unfold iput at h1
    obtain ⟨g1, g2⟩ := h1.cons
    obtain ⟨r2, c1, c2, c3, c4⟩ := ih ((r.took 1).took (putU i.n.toNat).length) (l ++ [i]) he (fun u hu => hv u (List.mem_cons_of_mem _ hu)) (by
      show Has r.b (r.at_ + 1 + _) _
      unfold iput at h2
      rw [List.length_cons] at h2
      rwa [show r.at_ + 1 + (putU i.n.toNat).length = r.at_ + ((putU i.n.toNat).length + 1) by omega])
    refine ⟨r2, ?_, c2, c3, ?_⟩
    · rw [List.length_cons, getI, if_neg (by simp [he]), byte_has he g1]
      simp only
      rw [uint_has (r := r.took 1) he g2 (by omega)]
      simp only
      rw [if_neg (by omega), show min i.n.toNat 255 = i.n.toNat by omega, Int.toNat_of_nonneg a1, Int.toNat_of_nonneg a2, c1]
      simp
    · rw [c4, List.flatMap_cons, List.length_append]
      show r.at_ + 1 + _ + _ = _
      unfold iput
      rw [List.length_cons]; omega
/-- what a form that is right says -/
theorem form_ok {p : Pr} (h : p.form.1 = 0) : 0 ≤ p.args ∧ p.args ≤ 8 ∧ p.cs.length ≤ 32 ∧ (∀ v ∈ p.cs, v.ok = true ∧ v.k ≠ 0) ∧ 0 < p.code.length ∧ p.code.length ≤ 256 ∧ ∀ i ∈ p.code, isOp i.op = true ∧ 0 ≤ i.n ∧ i.n < p.most i.op := by
  unfold Pr.form at h
  split at h
  · cases h
  rename_i h1
  split at h
  · cases h
  rename_i h2
  split at h
  · rename_i h3; exact absurd h h3
  rename_i h3
  split at h
  · cases h
  rename_i h4
  refine ⟨by omega, by omega, by omega, fun v hv => ?_, by omega, by omega, fun i hi => ?_⟩
  · obtain ⟨j, hj, rfl⟩ := List.mem_iff_getElem.1 hv
    rcases scan_form (fun i => conE (p.cs.getD i vl0)) p.cs.length 0 with ⟨_, h5⟩ | ⟨q, _, _, h6, h7, _⟩
    · have := h5 j (Nat.zero_le _) (by omega)
      simp only [List.getD_eq_getElem?_getD, List.getElem?_eq_getElem hj, Option.getD_some, conE] at this
      split at this
      · assumption
      · cases this
    · rw [h7] at h3; exact absurd h3 (by simpa using h6)
  · obtain ⟨j, hj, rfl⟩ := List.mem_iff_getElem.1 hi
    rcases scan_form (fun i => p.insE (p.code.getD i is0)) p.code.length 0 with ⟨_, h5⟩ | ⟨q, _, _, h6, h7, _⟩
    · have := h5 j (Nat.zero_le _) (by omega)
      simp only [List.getD_eq_getElem?_getD, List.getElem?_eq_getElem hj, Option.getD_some, Pr.insE] at this
      split at this
      · cases this
      · rename_i h8
        split at this
        · rename_i h9; exact ⟨by simpa using h8, h9.1, h9.2⟩
        · cases this
    · rw [h7] at h; exact absurd h h6
theorem most_le {p : Pr} (h : p.form.1 = 0) (op : Int) : p.most op ≤ 256 := by
  obtain ⟨h1, h2, h3, _, _, h6, _⟩ := form_ok h
  unfold Pr.most
  split
  · omega
  · split
    · omega
    · split <;> omega
theorem get_put {p : Pr} (hc : p.check.1 = 0) (hr : ∀ v ∈ p.cs, v.rng) : getP p.put = .inl p := by
  obtain ⟨d, hd, hf, _⟩ := deps_len hc
  obtain ⟨f1, f2, f3, f4, f5, f6, f7⟩ := form_ok hf
  have h0 := Has.self p.put
  unfold Pr.put at h0
  obtain ⟨g1, h1⟩ := h0.app
  obtain ⟨g2, h2⟩ := h1.app
  obtain ⟨g3, h3⟩ := h2.app
  obtain ⟨g4, g5⟩ := h3.app
  obtain ⟨B, hB⟩ : ∃ B, B = p.put := ⟨_, rfl⟩
  have hB' : putU p.args.toNat ++ (putU p.cs.length ++ (p.cs.flatMap vput ++ (putU p.code.length ++ p.code.flatMap iput))) = B := by rw [hB]; rfl
  rw [hB'] at g1 g2 g3 g4 g5
  rw [← hB]
  unfold getP
  have c1 := count_has (r := Rr.new B) (most := 8) (n := p.args.toNat) rfl g1 (by omega) (by omega)
  rw [show ((8 : Nat) : Int) = 8 from rfl] at c1
  rw [c1]
  simp only
  obtain ⟨R1, hR1⟩ : ∃ R1, R1 = (Rr.new B).took (putU p.args.toNat).length := ⟨_, rfl⟩
  rw [← hR1]
  have b1 : R1.b = B ∧ R1.e = 0 ∧ R1.at_ = 0 + (putU p.args.toNat).length := by subst hR1; exact ⟨rfl, rfl, rfl⟩
  have c2 := count_has (r := R1) (most := 32) (n := p.cs.length) b1.2.1 (by rw [b1.1, b1.2.2]; exact g2) f3 (by omega)
  rw [show ((32 : Nat) : Int) = 32 from rfl] at c2
  rw [c2]
  simp only
  obtain ⟨R2, hR2⟩ : ∃ R2, R2 = R1.took (putU p.cs.length).length := ⟨_, rfl⟩
  rw [← hR2]
  have b2 : R2.b = B ∧ R2.e = 0 ∧ R2.at_ = 0 + (putU p.args.toNat).length + (putU p.cs.length).length := by subst hR2; exact ⟨b1.1, b1.2.1, by show R1.at_ + _ = _; rw [b1.2.2]⟩
  obtain ⟨R3, c3, d1, d2, d3⟩ := getC_has p.cs R2 [] b2.2.1 (fun v hv => ⟨(f4 v hv).1, (f4 v hv).2, hr v hv⟩) (by rw [b2.1, b2.2.2]; exact g3)
  rw [c3]
  simp only [List.nil_append]
  have c4 := count_has (r := R3) (most := 256) (n := p.code.length) d2 (by rw [d1, b2.1, d3, b2.2.2]; exact g4) f6 (by omega)
  rw [show ((256 : Nat) : Int) = 256 from rfl] at c4
  rw [c4]
  simp only
  obtain ⟨R4, hR4⟩ : ∃ R4, R4 = R3.took (putU p.code.length).length := ⟨_, rfl⟩
  rw [← hR4]
  have b4 : R4.b = B ∧ R4.e = 0 ∧ R4.at_ = 0 + (putU p.args.toNat).length + (putU p.cs.length).length + (p.cs.flatMap vput).length + (putU p.code.length).length := by subst hR4; exact ⟨d1.trans b2.1, d2, by show R3.at_ + _ = _; rw [d3, b2.2.2]⟩
  obtain ⟨R5, c5, e1, e2, e3⟩ := getI_has p.code R4 [] b4.2.1 (fun i hi => by
    obtain ⟨q1, q2, q3⟩ := f7 i hi
    have := most_le hf i.op
    unfold isOp at q1
    simp only [Bool.and_eq_true, decide_eq_true_eq] at q1
    exact ⟨by omega, q2, by omega⟩) (by rw [b4.1, b4.2.2]; exact g5)
  rw [c5]
  simp only [List.nil_append]
  have hend : R5.end_ = R5 := by
    unfold Rr.end_
    rw [if_neg]
    rintro ⟨_, h⟩
    rw [e1, b4.1, e3, b4.2.2, ← hB'] at h
    simp only [List.length_append] at h
    omega
  rw [hend, if_neg (by rw [e2]; decide)]
  have hp : (⟨((p.args.toNat : Nat) : Int), p.cs, p.code⟩ : Pr) = p := by
    obtain ⟨a, cs, code⟩ := p
    simp only at f1 ⊢
    rw [Int.toNat_of_nonneg f1]
  rw [hp, if_neg (by rw [hc]; decide)]

end Go.Proofs.YtbnpidmlcjofiaaDoor

namespace Go.Proofs.YtbnpidmlcjofiaaDoor
open Go.RowKit
set_option linter.unusedVariables false
set_option linter.unusedSimpArgs false

def rcell (A : Option Addr) (c : Nat) (r : Rr) : Array Value := #[.slice A r.b.length c, .int .i64 (r.at_ : Nat), .int .i64 (r.last : Nat), .int .i64 r.e, .int .i64 (r.spot : Nat)]
structure RrOf (T : TypeId) (S : Nat → Prop) (w : World) (g : Nat) (A : Option Addr) (c : Nat) (r : Rr) : Prop where
  blk : Blk w g T #[.slice A r.b.length c, .int .i64 (r.at_ : Nat), .int .i64 (r.last : Nat), .int .i64 r.e, .int .i64 (r.spot : Nat)]
  row : Rd S w 1 A r.b.length (bcells r.b)
  ne : ∀ k, S k → k ≠ g
  at_le : r.at_ ≤ r.b.length
  len : r.b.length ≤ 140737488351232
  byt : ∀ x ∈ r.b, x < 256
  cap : r.b.length ≤ c
abbrev RrIn := RrOf 45
theorem bcells_at {l : List Nat} {k : Nat} (h : k < l.length) : (bcells l)[k]? = some (.int .u8 (l[k] : Nat)) := by unfold bcells; rw [List.getElem?_map, List.getElem?_eq_getElem h]; rfl
theorem RrOf.drewN {T : TypeId} {S : Nat → Prop} {w : World} {g : Nat} {A : Option Addr} {c : Nat} {r : Rr} (h : RrOf T S w g A c r) (n : Nat) : RrOf T S (w.drewN n) g A c r := ⟨h.blk.drewN n, h.row.drewN n, h.ne, h.at_le, h.len, h.byt, h.cap⟩
theorem RrOf.go {T : TypeId} {S : Nat → Prop} {w w' : World} {g : Nat} {A : Option Addr} {c : Nat} {r r' : Rr} (h : RrOf T S w g A c r) (hu : Upd (fun k => k = g) w w') (hb : Blk w' g T #[.slice A r.b.length c, .int .i64 (r'.at_ : Nat), .int .i64 (r'.last : Nat), .int .i64 r'.e, .int .i64 (r'.spot : Nat)]) (hbb : r'.b = r.b) (ha : r'.at_ ≤ r.b.length) : RrOf T S w' g A c r' :=
  ⟨by rw [hbb]; exact hb, by rw [hbb]; exact h.row.upd hu fun b hb => h.ne b hb, h.ne, by rw [hbb]; exact ha, by rw [hbb]; exact h.len, by rw [hbb]; exact h.byt, by rw [hbb]; exact h.cap⟩
theorem RrOf.upd {T : TypeId} {S : Nat → Prop} {w w' : World} {g : Nat} {A : Option Addr} {c : Nat} {r : Rr} (h : RrOf T S w g A c r) {M : Nat → Prop} (hu : Upd M w w') (hg : ¬ M g) (hS : ∀ b, S b → ¬ M b) : RrOf T S w' g A c r :=
  ⟨h.blk.upd hu hg, h.row.upd hu hS, h.ne, h.at_le, h.len, h.byt, h.cap⟩
/-- what a method leaves that hands nothing back -/
def RGone (S : Nat → Prop) (w : World) (g : Nat) (A : Option Addr) (c : Nat) (r : Rr) (e : Ending) (w' : World) : Prop := e = .returned (.tuple #[]) ∧ Upd (fun k => k = g) w w' ∧ RrIn S w' g A c r
set_option maxRecDepth 100000 in
theorem rfails_any {S : Nat → Prop} {w : World} {g : Nat} {A : Option Addr} {c : Nat} {r : Rr} (h : RrIn S w g A c r) (e : Int) : Calls Tryd.prog 83 #[.pointer (some ⟨g, 0, none⟩), .int .i64 e] w (RGone S w g A c (r.fails e)) := by
  have H := hid h
  have kb := h.blk
  have x0 := kb.cell 0
  have x1 := kb.cell 1
  have x2 := kb.cell 2
  have x3 := kb.cell 3
  have x4 := kb.cell 4
  simp only [List.getElem?_toArray, List.getElem?_cons_zero, List.getElem?_cons_succ] at x0 x1 x2 x3 x4
  have fz := fun q => kb.frozen q
  have kb1 := kb.set_ 3 (.int .i64 e)
  have hlt := kb.lt
  have U1 : Upd (fun k => k = g) w (w.setCell ⟨g, 3, none⟩ (.int .i64 e)) := (Upd.refl (fun k => k = g) w).setCell (p := ⟨g, 3, none⟩) (fun _ => rfl) _
  have hK1 := hid kb1; have hU1 := hid U1
  clear h kb kb1 U1
  go_enter Tryd.func83, Tryd.ntmps83
  go_upto_region 1 with fail
  generalize w.setCell ⟨g, 3, none⟩ (.int .i64 e) = w1 at *
  clear x0 x1 x2 x3 x4 fz
  have fz := fun q => hK1.out.frozen q
  have hlt1 := hK1.out.lt
  have x0 : w1.cell? ⟨g, 0, none⟩ = some (.slice A r.b.length c) := hK1.out.cell 0
  have x1 : w1.cell? ⟨g, 1, none⟩ = some (.int .i64 (r.at_ : Nat)) := hK1.out.cell 1
  have x2 : w1.cell? ⟨g, 2, none⟩ = some (.int .i64 (r.last : Nat)) := hK1.out.cell 2
  have x3 : w1.cell? ⟨g, 3, none⟩ = some (.int .i64 e) := hK1.out.cell 3
  have x4 : w1.cell? ⟨g, 4, none⟩ = some (.int .i64 (r.spot : Nat)) := hK1.out.cell 4
  go_wp2_with fail
  go_end0
  exact ⟨rfl, hU1.out.setCell (p := ⟨g, 4, none⟩) (fun _ => rfl) _, H.out.go (hU1.out.setCell (p := ⟨g, 4, none⟩) (fun _ => rfl) _) (by simpa [Rr.fails, Rr.took] using hK1.out.set_ 4 (.int .i64 (r.at_ : Nat))) rfl H.out.at_le⟩
set_option maxRecDepth 100000 in
theorem rtook_any {S : Nat → Prop} {w : World} {g : Nat} {A : Option Addr} {c : Nat} {r : Rr} (h : RrIn S w g A c r) (n : Nat) (hn : r.at_ + n ≤ r.b.length) : Calls Tryd.prog 84 #[.pointer (some ⟨g, 0, none⟩), .int .i64 (n : Nat)] w (RGone S w g A c (r.took n)) := by
  have H := hid h
  have kb := h.blk
  have x0 := kb.cell 0
  have x1 := kb.cell 1
  have x2 := kb.cell 2
  have x3 := kb.cell 3
  have x4 := kb.cell 4
  simp only [List.getElem?_toArray, List.getElem?_cons_zero, List.getElem?_cons_succ] at x0 x1 x2 x3 x4
  have fz := fun q => kb.frozen q
  have kb1 := kb.set_ 2 (.int .i64 (r.at_ : Nat))
  have hlt := kb.lt
  have U1 : Upd (fun k => k = g) w (w.setCell ⟨g, 2, none⟩ (.int .i64 (r.at_ : Nat))) := (Upd.refl (fun k => k = g) w).setCell (p := ⟨g, 2, none⟩) (fun _ => rfl) _
  have hK1 := hid kb1; have hU1 := hid U1
  have hn' := hid hn
  have f1 : IntKind.i64.wrap ((r.at_ : Int) + (n : Int)) = (r.at_ : Int) + (n : Int) := by have := h.len; rw [IntKind.wrap_i64]; omega
  clear hn
  clear h kb kb1 U1
  go_enter Tryd.func84, Tryd.ntmps84
  go_upto_region 1 with fail
  generalize w.setCell ⟨g, 2, none⟩ (.int .i64 (r.at_ : Nat)) = w1 at *
  clear x0 x1 x2 x3 x4 fz
  have fz := fun q => hK1.out.frozen q
  have hlt1 := hK1.out.lt
  have x0 : w1.cell? ⟨g, 0, none⟩ = some (.slice A r.b.length c) := hK1.out.cell 0
  have x1 : w1.cell? ⟨g, 1, none⟩ = some (.int .i64 (r.at_ : Nat)) := hK1.out.cell 1
  have x2 : w1.cell? ⟨g, 2, none⟩ = some (.int .i64 (r.at_ : Nat)) := hK1.out.cell 2
  have x3 : w1.cell? ⟨g, 3, none⟩ = some (.int .i64 r.e) := hK1.out.cell 3
  have x4 : w1.cell? ⟨g, 4, none⟩ = some (.int .i64 (r.spot : Nat)) := hK1.out.cell 4
  go_wp2_with fail
  go_end0
  exact ⟨rfl, hU1.out.setCell (p := ⟨g, 1, none⟩) (fun _ => rfl) _, H.out.go (hU1.out.setCell (p := ⟨g, 1, none⟩) (fun _ => rfl) _) (by simpa [Rr.fails, Rr.took] using hK1.out.set_ 1 (.int .i64 ((r.at_ + n : Nat) : Int))) rfl hn'.out⟩
set_option maxRecDepth 100000 in
theorem rbyte_any {S : Nat → Prop} {w : World} {g : Nat} {A : Option Addr} {c : Nat} {r : Rr} (h : RrIn S w g A c r) : Calls Tryd.prog 59 #[.pointer (some ⟨g, 0, none⟩)] w fun e w' => e = .returned (.int .u8 (r.byte.1 : Nat)) ∧ Upd (fun k => k = g) w w' ∧ RrIn S w' g A c (r.byte.2) := by
  have H := hid h
  have kb := h.blk
  have x0 := kb.cell 0
  have x1 := kb.cell 1
  have x2 := kb.cell 2
  have x3 := kb.cell 3
  have x4 := kb.cell 4
  simp only [List.getElem?_toArray, List.getElem?_cons_zero, List.getElem?_cons_succ] at x0 x1 x2 x3 x4
  have fz := fun q => kb.frozen q
  have hlt := kb.lt
  have hal := hid h.at_le
  have hln : (r.b.length : Int) ≤ 140737488351232 := by have := h.len; omega
  have hat0 : (r.at_ : Int) ≤ (r.b.length : Int) := by have := h.at_le; omega
  by_cases he : r.e = 0
  · have t1 : (r.e == 0) = true := by simpa using he
    have t2 : (r.e != 0) = false := by simpa using he
    by_cases hat : r.at_ < r.b.length
    · obtain ⟨ba, o, hA, hSb, hbl, hc⟩ := h.row.at_ (k := r.at_) (by omega)
      have y0 := hc r.at_ _ (bcells_at hat)
      have i1 : (r.at_ : Int) < (r.b.length : Int) := by omega
      have i2 : ¬ ((r.b.length : Int) ≤ (r.at_ : Int)) := by omega
      have hby := hid (byte_has he (c := r.b[r.at_]) (by rw [List.getElem?_eq_getElem hat]))
      have htk := hid (fun (W : World) (hW : RrIn S W g A c r) => (show Calls Tryd.prog 84 #[.pointer (some ⟨g, 0, none⟩), .int .i64 1] W (RGone S W g A c (r.took 1)) from rtook_any hW 1 (by omega)))
      generalize r.b[r.at_] = cv at *
      subst hA
      clear hc h he hat kb hal
      go_enter Tryd.func59, Tryd.ntmps59
      go_upto_region 3 with fail
      go_quiet (fail)
      go_upto_region 6 with fail
      go_quiet (fail)
      go_wp2_with fail
      refine (htk.out _ (H.out.drewN _)).mono ?_
      rintro e w2 ⟨rfl, hu0, hr0⟩
      have hu2 := hid hu0; have hr2 := hid hr0
      clear hu0 hr0
      go_wp2_with fail
      go_ret
      rw [hby.out]
      exact ⟨rfl, ((Upd.refl (fun k => k = g) w).drewN _).trans (hu2.out) fun _ _ h => h, hr2.out⟩
    · have i1 : (r.b.length : Int) ≤ (r.at_ : Int) := by omega
      have i2 : r.b.length ≤ r.at_ := by omega
      have hby : Hid (r.byte = (0, r.fails 3)) := hid (by unfold Rr.byte; rw [if_neg (by omega), List.getElem?_eq_none (by omega)])
      clear h he hat kb hal
      go_enter Tryd.func59, Tryd.ntmps59
      go_upto_region 3 with fail
      go_quiet (fail)
      go_wp2_with fail
      refine (rfails_any (H.out.drewN _) 3).mono ?_
      rintro e w2 ⟨rfl, hu0, hr0⟩
      have hu2 := hid hu0; have hr2 := hid hr0
      clear hu0 hr0
      go_wp2_with fail
      go_ret
      rw [hby.out]
      exact ⟨rfl, ((Upd.refl (fun k => k = g) w).drewN _).trans (hu2.out) fun _ _ h => h, hr2.out⟩
  · have t1 : (r.e == 0) = false := by simpa using he
    have t2 : (r.e != 0) = true := by simpa using he
    have hby : Hid (r.byte = (0, r)) := hid (by unfold Rr.byte; rw [if_pos he])
    generalize r.e = re at *
    clear h he kb hal hat0 hln
    go_enter Tryd.func59, Tryd.ntmps59
    go_wp2_with fail
    go_ret
    rw [hby.out]
    exact ⟨rfl, Upd.refl _ _, H.out⟩

end Go.Proofs.YtbnpidmlcjofiaaDoor

namespace Go.Proofs.YtbnpidmlcjofiaaDoor
open Go.RowKit
set_option linter.unusedVariables false
set_option linter.unusedSimpArgs false

set_option maxRecDepth 100000 in
theorem rfail_any {S : Nat → Prop} {w : World} {g : Nat} {A : Option Addr} {c : Nat} {r : Rr} (h : RrIn S w g A c r) (e : Int) : Calls Tryd.prog 62 #[.pointer (some ⟨g, 0, none⟩), .int .i64 e] w (RGone S w g A c (r.fail e)) := by
  have H := hid h
  have kb := h.blk
  have x0 := kb.cell 0
  have x1 := kb.cell 1
  have x2 := kb.cell 2
  have x3 := kb.cell 3
  have x4 := kb.cell 4
  simp only [List.getElem?_toArray, List.getElem?_cons_zero, List.getElem?_cons_succ] at x0 x1 x2 x3 x4
  have fz := fun q => kb.frozen q
  have hlt := kb.lt
  by_cases he : r.e = 0
  · have t1 : (r.e == 0) = true := by simpa using he
    by_cases hz : e = 0
    · have t3 : (e != 0) = false := by simpa using hz
      have hf : Hid (r.fail e = r) := hid (by unfold Rr.fail; rw [if_neg (by rintro ⟨_, h⟩; exact h hz)])
      generalize r.e = re at *
      clear h he kb hz
      go_enter Tryd.func62, Tryd.ntmps62
      go_wp2_with fail
      go_end0
      exact ⟨rfl, Upd.refl _ _, by rw [hf.out]; exact H.out⟩
    · have t3 : (e != 0) = true := by simpa using hz
      have hf : Hid (r.fail e = { r with e := e, spot := r.last }) := hid (by unfold Rr.fail; rw [if_pos ⟨he, hz⟩])
      have kb1 := kb.set_ 3 (.int .i64 e)
      have U1 : Upd (fun k => k = g) w (w.setCell ⟨g, 3, none⟩ (.int .i64 e)) := (Upd.refl (fun k => k = g) w).setCell (p := ⟨g, 3, none⟩) (fun _ => rfl) _
      have hK1 := hid kb1; have hU1 := hid U1
      clear h kb kb1 U1 hz he
      go_enter Tryd.func62, Tryd.ntmps62
      go_upto_region 2 with fail
      generalize w.setCell ⟨g, 3, none⟩ (.int .i64 e) = w1 at *
      clear x0 x1 x2 x3 x4 fz
      have fz := fun q => hK1.out.frozen q
      have hlt1 := hK1.out.lt
      have x0 : w1.cell? ⟨g, 0, none⟩ = some (.slice A r.b.length c) := hK1.out.cell 0
      have x1 : w1.cell? ⟨g, 1, none⟩ = some (.int .i64 (r.at_ : Nat)) := hK1.out.cell 1
      have x2 : w1.cell? ⟨g, 2, none⟩ = some (.int .i64 (r.last : Nat)) := hK1.out.cell 2
      have x3 : w1.cell? ⟨g, 3, none⟩ = some (.int .i64 e) := hK1.out.cell 3
      have x4 : w1.cell? ⟨g, 4, none⟩ = some (.int .i64 (r.spot : Nat)) := hK1.out.cell 4
      go_wp2_with fail
      go_end0
      refine ⟨rfl, hU1.out.setCell (p := ⟨g, 4, none⟩) (fun _ => rfl) _, ?_⟩
      rw [hf.out]
      exact H.out.go (hU1.out.setCell (p := ⟨g, 4, none⟩) (fun _ => rfl) _) (by simpa using hK1.out.set_ 4 (.int .i64 (r.last : Nat))) rfl H.out.at_le
  · have t1 : (r.e == 0) = false := by simpa using he
    have hf : Hid (r.fail e = r) := hid (by unfold Rr.fail; rw [if_neg (by rintro ⟨h, _⟩; exact he h)])
    generalize r.e = re at *
    clear h he kb
    go_enter Tryd.func62, Tryd.ntmps62
    go_wp2_with fail
    go_end0
    exact ⟨rfl, Upd.refl _ _, by rw [hf.out]; exact H.out⟩
end Go.Proofs.YtbnpidmlcjofiaaDoor

namespace Go.Proofs.YtbnpidmlcjofiaaDoor
open Go.RowKit
set_option linter.unusedVariables false
set_option linter.unusedSimpArgs false

set_option maxRecDepth 100000 in
set_option maxHeartbeats 1000000 in
theorem rnew_any (S : Nat → Prop) (A0 : Option Addr) (c0 : Nat) (bs : List Nat) (w : World) (ha : Rd S w 1 A0 bs.length (bcells bs)) (hl : bs.length ≤ 140737488351232) (hb : ∀ x ∈ bs, x < 256) :
    Calls Tryd.prog 19 #[.slice A0 bs.length c0] w fun e w' => ∃ g A c S', e = .returned (.pointer (some ⟨g, 0, none⟩)) ∧ Below w.heap.size w w' ∧ w.heap.size ≤ g ∧ (∀ k, S' k → w.heap.size ≤ k) ∧ RrIn S' w' g A c (Rr.new bs) := by
  obtain ⟨ib, hb0, hb1, hb2, hb3⟩ := info_parts info_u8
  have hra := hid (ha.alloc (.cells #[] 5))
  have hbl := hid hl
  have hbb := hid hb
  clear ha hl hb
  go_enter Tryd.func19, Tryd.ntmps19
  go_wp2_with (
    at_builtin
    refine wpList_append_rd _ rfl (.tmp 3) (.tmp 4) 22 rfl w.heap.size 5 ib _ 1 1 Tryd.underlying22 hb0 hb1 hb2 hb3 rfl (by omega) (.slice (some ⟨w.heap.size, 0, none⟩) 0 0) 0 [] rfl (own_empty w 5 1) S A0 bs.length c0 (bcells bs) rfl hra.out (bcells_one bs) (by simp only [maxLen]; have := hbl.out; omega) (by have := hbl.out; omega) (by simp) ?_
    intro v2 w2 hown0 hg0 hat0
    have hB20 := below_of_copy hg0
    obtain ⟨A, c, rfl, hcp0, _⟩ := own_form hown0
    have hcp : Hid (bs.length ≤ c) := hid (by omega)
    have hown2 : Hid (w2.ownsRow w.heap.size 5 1 (.slice A bs.length c) bs.length (bcells bs)) := hid (by simpa using hown0)
    have hB2 := hid hB20
    rw [Nat.zero_add]
    clear hown0 hB20 hg0 hat0 hcp0)
  go_ret
  have hrd := Rd.of_own hown2.out
  have hlt := fun k hk => hown2.out.lt k hk
  refine ⟨w2.heap.size, A, c, fun b => some b = (Value.slice A bs.length c).ownBlock, rfl, hB2.out.alloc hB2.out.size _, hB2.out.size, fun k hk => (hlt k hk.symm).1, ⟨Blk.new w2 45 _, hrd.alloc _, fun k hk => ?_, Nat.zero_le _, hbl.out, hbb.out, hcp.out⟩⟩
  have := (hlt k hk.symm).2
  omega

end Go.Proofs.YtbnpidmlcjofiaaDoor

namespace Go.Proofs.YtbnpidmlcjofiaaDoor
open Go.RowKit
set_option linter.unusedVariables false
set_option linter.unusedSimpArgs false

def numV : (Nat × Nat) ⊕ Int → Value
  | .inl (n, k) => .tuple #[.int .u64 (n : Nat), .int .i64 (k : Nat), .int .i64 0]
  | .inr e => .tuple #[.int .u64 0, .int .i64 0, .int .i64 e]
theorem shl7 (i : Nat) : (2 : Int) ^ (7 * i) = ((128 ^ i : Nat) : Int) := by
  rw [show (128 : Nat) ^ i = 2 ^ (7 * i) from by rw [Nat.pow_mul]]
  exact (Int.natCast_pow 2 (7 * i)).symm
theorem sum_any (i acc c Q : Nat) (hQ : Q = acc + c % 128 * 128 ^ i) (hb : Q < 18446744073709551616) : IntKind.u64.wrap ((acc : Int) + IntKind.u64.wrap ((c : Int) % 128 * 2 ^ (7 * i))) = (Q : Int) := by
  have e : (c : Int) % 128 * ((128 ^ i : Nat) : Int) = ((c % 128 * 128 ^ i : Nat) : Int) := by rw [Int.natCast_mul]; rfl
  rw [shl7, e, IntKind.wrap_u64, IntKind.wrap_u64]
  generalize c % 128 * 128 ^ i = X at *
  omega
theorem num_step {l : List Nat} {i acc c : Nat} (hi : i < 10) (hc : l[i]? = some c) : numF l 0 (10 - i) i acc = if i = 9 ∧ 1 < c then .inr 11 else if c < 128 then (if 0 < i ∧ c = 0 then .inr 10 else .inl (acc + c * 128 ^ i, i + 1)) else numF l 0 (10 - (i + 1)) (i + 1) (acc + c % 128 * 128 ^ i) := by
  rw [show 10 - i = (10 - (i + 1)) + 1 by omega, numF, Nat.zero_add, hc]
theorem acc_lt {i acc c : Nat} (hi : i < 9) (ha : acc < 128 ^ i) : acc + c % 128 * 128 ^ i < 128 ^ (i + 1) ∧ acc + c % 128 * 128 ^ i < 18446744073709551616 := by
  have h1 : c % 128 * 128 ^ i ≤ 127 * 128 ^ i := Nat.mul_le_mul_right _ (by omega)
  have h2 : acc + c % 128 * 128 ^ i < 128 ^ (i + 1) := by rw [Nat.pow_succ]; omega
  have h3 : 128 ^ (i + 1) ≤ 128 ^ 9 := Nat.pow_le_pow_right (by omega) (by omega)
  have h4 : 128 ^ 9 < 18446744073709551616 := by decide
  exact ⟨h2, by omega⟩
set_option maxRecDepth 100000 in
set_option maxHeartbeats 1000000 in
theorem rnumber_any (S : Nat → Prop) (A : Option Addr) (c : Nat) (l : List Nat) (w : World) (ha : Rd S w 1 A l.length (bcells l)) (hl : l.length ≤ 140737488351232) (hb : ∀ x ∈ l, x < 256) :
    Calls Tryd.prog 86 #[.slice A l.length c] w fun e w' => e = .returned (numV (num l 0)) ∧ Below w.heap.size w w' := by
  have hra := hid ha
  have hbl := hid hl
  have hbb := hid hb
  clear ha hl hb
  go_enter Tryd.func86, Tryd.ntmps86
  go_wp2_with fail
  go_loopw [5, 6] (fun n v wr => ∃ (i acc : Nat), n = .int .u64 (acc : Nat) ∧ v = .int .i64 i ∧ i ≤ 10 ∧ acc < 128 ^ i ∧ numF l 0 (10 - i) i acc = num l 0 ∧ Below w.heap.size w wr) (fun n v _ => 10 - (intOf v).toNat)
  case atStart => exact ⟨0, 0, rfl, rfl, by omega, by simp, rfl, Below.refl _ _⟩
  case round =>
    obtain ⟨i, acc, rfl, rfl, hi0, hacc0, hn0, hB0⟩ := hrel
    have hi := hid hi0; have hacc := hid hacc0; have hn := hid hn0; have hB := hid hB0
    clear hi0 hacc0 hn0 hB0
    by_cases hlt : i < 10
    · have i1 : (i : Int) < 10 := by omega
      by_cases hle : i < l.length
      · obtain ⟨b, o, hA, hSb, hbk, hc⟩ := (hra.out.below_all hB.out).at_ (k := i) hle
        have y0 := hc i _ (bcells_at hle)
        have i2 : (i : Int) < (l.length : Int) := by omega
        have i3 : ¬ ((l.length : Int) ≤ (i : Int)) := by omega
        have hcb := hbb.out _ (List.getElem_mem hle)
        have hcv : l[i]? = some l[i] := List.getElem?_eq_getElem hle
        generalize l[i] = cv at *
        subst hA
        have hst := hn.out.symm.trans (num_step (l := l) (acc := acc) hlt hcv)
        clear hc hcv
        by_cases h9 : i = 9
        · subst h9
          by_cases h1 : 1 < cv
          · have h1' : (1 : Int) < (cv : Int) := by omega
            have hf : Hid (num l 0 = .inr 11) := hid (by rw [hst, if_pos ⟨rfl, h1⟩])
            clear hst h1
            go_wp2_with fail
            go_ret3
            rw [hf.out]
            exact ⟨rfl, hB.out⟩
          · have h1' : ¬ ((1 : Int) < (cv : Int)) := by omega
            have hc8 : (cv : Int) < 128 := by omega
            have hlt2 : acc + cv % 128 * 128 ^ 9 < 18446744073709551616 := by
              have ha := hacc.out
              have h3 : cv % 128 * 128 ^ 9 ≤ 1 * 128 ^ 9 := Nat.mul_le_mul_right _ (by omega)
              have h4 : 128 ^ 9 * 2 = 18446744073709551616 := by decide
              omega
            obtain ⟨Q, hQ⟩ : ∃ Q, Q = acc + cv % 128 * 128 ^ 9 := ⟨_, rfl⟩
            have fs : IntKind.u64.wrap ((acc : Int) + (cv : Int) % 128 * 9223372036854775808) = (Q : Int) := by
              have h4 : 128 ^ 9 = 9223372036854775808 := by decide
              rw [h4] at hQ hlt2
              rw [IntKind.wrap_u64]; omega
            by_cases hz : cv = 0
            · have z1 : ((cv : Int) == 0) = true := by simpa using hz
              have hf : Hid (num l 0 = .inr 10) := hid (by rw [hst, if_neg (by omega), if_pos (by omega), if_pos ⟨by omega, hz⟩])
              clear hst h1 hz hQ hlt2
              go_wp2_with fail
              go_ret3
              rw [hf.out]
              exact ⟨rfl, hB.out⟩
            · have z1 : ((cv : Int) == 0) = false := by simpa using hz
              have hf : Hid (num l 0 = .inl (Q, 10)) := hid (by rw [hst, if_neg (by omega), if_pos (by omega), if_neg (by omega), hQ, Nat.mod_eq_of_lt (by omega)])
              clear hst h1 hz hQ hlt2
              go_wp2_with fail
              go_ret3
              rw [hf.out]
              exact ⟨rfl, hB.out⟩
        · have h9' : ¬ ((i : Int) = 9) := by omega
          obtain ⟨hq1, hq2⟩ := acc_lt (c := cv) (show i < 9 by omega) hacc.out
          obtain ⟨Q, hQ⟩ : ∃ Q, Q = acc + cv % 128 * 128 ^ i := ⟨_, rfl⟩
          rw [← hQ] at hq1
          have fs := sum_any i acc cv Q hQ (by rw [hQ]; exact hq2)
          by_cases h8 : cv < 128
          · have hc8 : (cv : Int) < 128 := by omega
            by_cases hz : 0 < i ∧ cv = 0
            · have z1 : ((cv : Int) == 0) = true := by simpa using hz.2
              have z2 : 0 < i := hz.1
              have hf : Hid (num l 0 = .inr 10) := hid (by rw [hst, if_neg (by omega), if_pos h8, if_pos hz])
              clear hst hz hQ hq1 hq2 h8 h9
              go_wp2_with fail
              go_ret3
              rw [hf.out]
              exact ⟨rfl, hB.out⟩
            · have hf : Hid (num l 0 = .inl (Q, i + 1)) := hid (by rw [hst, if_neg (by omega), if_pos h8, if_neg hz, hQ, Nat.mod_eq_of_lt h8])
              by_cases hi0 : 0 < i
              · have z1 : ((cv : Int) == 0) = false := by
                  have : cv ≠ 0 := fun h => hz ⟨hi0, h⟩
                  simpa using this
                clear hst hz hQ hq1 hq2 h8 h9
                go_wp2_with fail
                go_ret3
                rw [hf.out]
                exact ⟨rfl, hB.out⟩
              · clear hst hz hQ hq1 hq2 h8 h9
                go_wp2_with fail
                go_ret3
                rw [hf.out]
                exact ⟨rfl, hB.out⟩
          · have hc8 : ¬ ((cv : Int) < 128) := by omega
            have hc9 : 128 ≤ (cv : Int) := by omega
            have hnx := hid (show numF l 0 (10 - (i + 1)) (i + 1) Q = num l 0 by rw [hst, if_neg (by omega), if_neg h8, hQ])
            have hq := hid hq1
            clear hst hQ hq1 hq2 h8 h9
            go_wp2_with fail
            go_roundw
            case rel => exact ⟨i + 1, Q, rfl, by go_num, by omega, hq.out, hnx.out, hB.out⟩
            case measure => simp [intOf]; omega
      · have i2 : (l.length : Int) ≤ (i : Int) := by omega
        have hf : Hid (num l 0 = .inr 3) := hid (by
          rw [← hn.out, show 10 - i = (10 - (i + 1)) + 1 by omega, numF, Nat.zero_add, List.getElem?_eq_none (by omega)])
        clear hle
        go_wp2_with fail
        go_ret3
        rw [hf.out]
        exact ⟨rfl, hB.out⟩
    · have i1 : ¬ ((i : Int) < 10) := by omega
      have hf : Hid (num l 0 = .inr 11) := hid (by
        rw [← hn.out, show 10 - i = 0 by omega, numF])
      clear hlt
      go_wp2_with fail
      go_ret3
      rw [hf.out]
      exact ⟨rfl, hB.out⟩
end Go.Proofs.YtbnpidmlcjofiaaDoor

namespace Go.Proofs.YtbnpidmlcjofiaaDoor
set_option linter.unusedVariables false
set_option linter.unusedSimpArgs false

theorem numF_drop (b : List Nat) (at_ : Nat) : ∀ (k i acc : Nat), numF b at_ k i acc = numF (b.drop at_) 0 k i acc := by
  intro k
  induction k with
  | zero => intro i acc; rfl
  | succ k ih =>
    intro i acc
    unfold numF
    rw [List.getElem?_drop, Nat.zero_add]
    cases h : b[at_ + i]? with
    | none => rfl
    | some c => simp only [ih]
theorem num_drop (b : List Nat) (at_ : Nat) : num b at_ = num (b.drop at_) 0 := numF_drop b at_ 10 0 0
theorem numF_lt (b : List Nat) (at_ : Nat) : ∀ (k i acc n m : Nat), i + k = 10 → acc < 128 ^ i → numF b at_ k i acc = .inl (n, m) → n < 18446744073709551616 ∧ m ≤ 10 ∧ at_ + m ≤ b.length := by
  intro k
  induction k with
  | zero => intro i acc n m _ _ h; simp [numF] at h
  | succ k ih =>
    intro i acc n m hi ha h
    unfold numF at h
    cases hb : b[at_ + i]? with
    | none => rw [hb] at h; cases h
    | some c =>
      rw [hb] at h
      simp only at h
      have hlt := (List.getElem?_eq_some_iff.1 hb).1
      by_cases h9 : i = 9 ∧ 1 < c
      · rw [if_pos h9] at h; cases h
      rw [if_neg h9] at h
      by_cases h8 : c < 128
      · rw [if_pos h8] at h
        by_cases hz : 0 < i ∧ c = 0
        · rw [if_pos hz] at h; cases h
        rw [if_neg hz] at h
        simp only [Sum.inl.injEq, Prod.mk.injEq] at h
        obtain ⟨rfl, rfl⟩ := h
        refine ⟨?_, by omega, by omega⟩
        by_cases hi9 : i = 9
        · subst hi9
          have h3 : c * 128 ^ 9 ≤ 1 * 128 ^ 9 := Nat.mul_le_mul_right _ (by omega)
          have h4 : 128 ^ 9 * 2 = 18446744073709551616 := by decide
          omega
        · have h1 : c * 128 ^ i ≤ 127 * 128 ^ i := Nat.mul_le_mul_right _ (by omega)
          have h2 : acc + c * 128 ^ i < 128 ^ (i + 1) := by rw [Nat.pow_succ]; omega
          have h3 : 128 ^ (i + 1) ≤ 128 ^ 9 := Nat.pow_le_pow_right (by omega) (by omega)
          have h4 : 128 ^ 9 < 18446744073709551616 := by decide
          omega
      · rw [if_neg h8] at h
        refine ih (i + 1) _ n m (by omega) ?_ h
        have h1 : c % 128 * 128 ^ i ≤ 127 * 128 ^ i := Nat.mul_le_mul_right _ (by omega)
        rw [Nat.pow_succ]; omega
theorem num_lt {b : List Nat} {at_ n m : Nat} (h : num b at_ = .inl (n, m)) : n < 18446744073709551616 ∧ m ≤ 10 ∧ at_ + m ≤ b.length := numF_lt b at_ 10 0 0 n m rfl (by decide) h
end Go.Proofs.YtbnpidmlcjofiaaDoor

namespace Go.Proofs.YtbnpidmlcjofiaaDoor
open Go.RowKit
set_option linter.unusedVariables false
set_option linter.unusedSimpArgs false

theorem bcells_drop (l : List Nat) (k : Nat) : bcells (l.drop k) = (bcells l).drop k := by unfold bcells; rw [List.map_drop]
theorem RrOf.below_all {T : TypeId} {S : Nat → Prop} {w w' : World} {g : Nat} {A : Option Addr} {c : Nat} {r : Rr} (h : RrOf T S w g A c r) (hb : Below w.heap.size w w') : RrOf T S w' g A c r := ⟨h.blk.below_all hb, h.row.below_all hb, h.ne, h.at_le, h.len, h.byt, h.cap⟩
theorem numF_ne (b : List Nat) (at_ : Nat) : ∀ (k i acc : Nat) (e : Int), numF b at_ k i acc = .inr e → e ≠ 0 := by
  intro k
  induction k with
  | zero => intro i acc e h; simp [numF] at h; omega
  | succ k ih =>
    intro i acc e h
    unfold numF at h
    split at h
    · cases h; decide
    · split at h
      · cases h; decide
      · split at h
        · split at h
          · cases h; decide
          · cases h
        · exact ih _ _ _ h
theorem num_ne {b : List Nat} {at_ : Nat} {e : Int} (h : num b at_ = .inr e) : e ≠ 0 := numF_ne b at_ 10 0 0 e h
/-- what a slice from a place on reads -/
theorem Rd.tail {S : Nat → Prop} {w : World} {A : Option Addr} {l : List Nat} {c k : Nat} (h : Rd S w 1 A l.length (bcells l)) (hk : k ≤ l.length) (hc : l.length ≤ c) : Rd S w 1 (if c = k then A else Option.map (fun x => x.add k) A) (l.drop k).length (bcells (l.drop k)) := by
  have hl : (l.drop k).length = l.length - k := List.length_drop
  refine ⟨by unfold bcells; rw [List.length_map]; omega, fun hn => ?_⟩
  rw [hl] at hn
  obtain ⟨b, o, rfl, hS, hb, hx⟩ := h.2 (by omega)
  rw [if_neg (by omega)]
  refine ⟨b, o + k, by simp [Addr.add_lit], hS, hb, fun j u hu => ?_⟩
  rw [bcells_drop, List.getElem?_drop] at hu
  have := hx (k + j) u hu
  rwa [← Nat.add_assoc] at this
set_option maxRecDepth 100000 in
set_option maxHeartbeats 1000000 in
theorem ruint_any {S : Nat → Prop} {w : World} {g : Nat} {A : Option Addr} {c : Nat} {r : Rr} (h : RrIn S w g A c r) : Calls Tryd.prog 85 #[.pointer (some ⟨g, 0, none⟩)] w fun e w' => e = .returned (.int .u64 (r.uint.1 : Nat)) ∧ Upd (fun k => k = g) w w' ∧ RrIn S w' g A c (r.uint.2) := by
  have H := hid h
  have kb := h.blk
  have x0 := kb.cell 0
  have x1 := kb.cell 1
  have x2 := kb.cell 2
  have x3 := kb.cell 3
  have x4 := kb.cell 4
  simp only [List.getElem?_toArray, List.getElem?_cons_zero, List.getElem?_cons_succ] at x0 x1 x2 x3 x4
  have fz := fun q => kb.frozen q
  have hlt := kb.lt
  have hln : (r.b.length : Int) ≤ 140737488351232 := by have := h.len; omega
  have hat0 : (r.at_ : Int) ≤ (r.b.length : Int) := by have := h.at_le; omega
  have hatN := h.at_le
  by_cases he : r.e = 0
  · have t1 : (r.e == 0) = true := by simpa using he
    have t2 : (r.e != 0) = false := by simpa using he
    rcases Decidable.em (c = r.at_) with hca | hca
    · have hnu := hid (rnumber_any S _ (c - r.at_) (r.b.drop r.at_) w.drew (Rd.tail h.row.drew h.at_le h.cap) (by rw [List.length_drop]; have := h.len; omega) (fun x hx => h.byt x (List.mem_of_mem_drop hx)))
      rw [← num_drop, List.length_drop] at hnu
      rw [if_pos hca, hca, Nat.sub_self] at hnu
      subst hca
      cases hnv : num r.b r.at_ with
      | inl nk =>
        obtain ⟨n, k⟩ := nk
        obtain ⟨hn1, hn2, hn3⟩ := num_lt hnv
        rw [hnv] at hnu
        have hby : Hid (r.uint = (n, r.took k)) := hid (by unfold Rr.uint; rw [if_neg (by omega), hnv])
        rw [show numV (.inl (n, k)) = .tuple #[.int .u64 (n : Nat), .int .i64 (k : Nat), .int .i64 0] from rfl] at hnu
        have hn3' := hid hn3
        clear h he kb hatN hnv hn1 hn2 hn3
        go_enter Tryd.func85, Tryd.ntmps85
        go_upto_region 3 with fail
        go_region_held3 (fun w' => w'.cell? ⟨g, 0, none⟩ = some (.slice A r.b.length r.at_) ∧ w'.cell? ⟨g, 1, none⟩ = some (.int .i64 (r.at_ : Nat))) (first | exact ⟨x0, x1⟩ | exact ⟨y0, y1⟩)
          ((go_at_call 86
            refine hnu.out.mono ?_
            rintro e w2 ⟨rfl, hb0⟩
            have hb2 := hid ((Below.refl w.heap.size w).drew.trans hb0)
            have hr2 := hid (H.out.below_all hb2.out)
            have y0 := hr2.out.blk.cell 0
            have y1 := hr2.out.blk.cell 1
            simp only [List.getElem?_toArray, List.getElem?_cons_zero, List.getElem?_cons_succ] at y0 y1
            clear hb0))
        clear x0 x1 x2 x3 x4 fz hlt
        go_wp2_with fail
        refine (rtook_any hr2.out k hn3'.out).mono ?_
        rintro e w3 ⟨rfl, hu0, hr0⟩
        have hu3 := hid hu0; have hr3 := hid hr0
        clear hu0 hr0
        go_wp2_with fail
        go_ret
        rw [hby.out]
        exact ⟨rfl, (Upd.of_below (M := fun k => k = g) hb2.out fun k hk hk' => absurd hk (by omega)).trans hu3.out fun _ _ h => h, hr3.out⟩
      | inr er =>
        rw [hnv] at hnu
        have hne : er ≠ 0 := num_ne hnv
        have z1 : (er == 0) = false := by simpa using hne
        have z2 : (er != 0) = true := by simpa using hne
        have hby : Hid (r.uint = (0, r.fails er)) := hid (by unfold Rr.uint; rw [if_neg (by omega), hnv])
        rw [show numV (.inr er) = .tuple #[.int .u64 0, .int .i64 0, .int .i64 er] from rfl] at hnu
        clear h he kb hatN hnv hne
        go_enter Tryd.func85, Tryd.ntmps85
        go_upto_region 3 with fail
        go_region_held3 (fun w' => w'.cell? ⟨g, 0, none⟩ = some (.slice A r.b.length r.at_) ∧ w'.cell? ⟨g, 1, none⟩ = some (.int .i64 (r.at_ : Nat))) (first | exact ⟨x0, x1⟩ | exact ⟨y0, y1⟩)
          ((go_at_call 86
            refine hnu.out.mono ?_
            rintro e w2 ⟨rfl, hb0⟩
            have hb2 := hid ((Below.refl w.heap.size w).drew.trans hb0)
            have hr2 := hid (H.out.below_all hb2.out)
            have y0 := hr2.out.blk.cell 0
            have y1 := hr2.out.blk.cell 1
            simp only [List.getElem?_toArray, List.getElem?_cons_zero, List.getElem?_cons_succ] at y0 y1
            clear hb0))
        clear x0 x1 x2 x3 x4 fz hlt
        go_wp2_with fail
        refine (rfails_any hr2.out er).mono ?_
        rintro e w3 ⟨rfl, hu0, hr0⟩
        have hu3 := hid hu0; have hr3 := hid hr0
        clear hu0 hr0
        go_wp2_with fail
        go_ret
        rw [hby.out]
        exact ⟨rfl, (Upd.of_below (M := fun k => k = g) hb2.out fun k hk hk' => absurd hk (by omega)).trans hu3.out fun _ _ h => h, hr3.out⟩
    · have hnu := hid (rnumber_any S _ (c - r.at_) (r.b.drop r.at_) w.drew (Rd.tail h.row.drew h.at_le h.cap) (by rw [List.length_drop]; have := h.len; omega) (fun x hx => h.byt x (List.mem_of_mem_drop hx)))
      rw [← num_drop, List.length_drop] at hnu
      rw [if_neg hca] at hnu
      cases hnv : num r.b r.at_ with
      | inl nk =>
        obtain ⟨n, k⟩ := nk
        obtain ⟨hn1, hn2, hn3⟩ := num_lt hnv
        rw [hnv] at hnu
        have hby : Hid (r.uint = (n, r.took k)) := hid (by unfold Rr.uint; rw [if_neg (by omega), hnv])
        rw [show numV (.inl (n, k)) = .tuple #[.int .u64 (n : Nat), .int .i64 (k : Nat), .int .i64 0] from rfl] at hnu
        have hn3' := hid hn3
        clear h he kb hatN hnv hn1 hn2 hn3
        go_enter Tryd.func85, Tryd.ntmps85
        go_upto_region 3 with fail
        go_region_held3 (fun w' => w'.cell? ⟨g, 0, none⟩ = some (.slice A r.b.length c) ∧ w'.cell? ⟨g, 1, none⟩ = some (.int .i64 (r.at_ : Nat))) (first | exact ⟨x0, x1⟩ | exact ⟨y0, y1⟩)
          ((go_at_call 86
            refine hnu.out.mono ?_
            rintro e w2 ⟨rfl, hb0⟩
            have hb2 := hid ((Below.refl w.heap.size w).drew.trans hb0)
            have hr2 := hid (H.out.below_all hb2.out)
            have y0 := hr2.out.blk.cell 0
            have y1 := hr2.out.blk.cell 1
            simp only [List.getElem?_toArray, List.getElem?_cons_zero, List.getElem?_cons_succ] at y0 y1
            clear hb0))
        clear x0 x1 x2 x3 x4 fz hlt
        go_wp2_with fail
        refine (rtook_any hr2.out k hn3'.out).mono ?_
        rintro e w3 ⟨rfl, hu0, hr0⟩
        have hu3 := hid hu0; have hr3 := hid hr0
        clear hu0 hr0
        go_wp2_with fail
        go_ret
        rw [hby.out]
        exact ⟨rfl, (Upd.of_below (M := fun k => k = g) hb2.out fun k hk hk' => absurd hk (by omega)).trans hu3.out fun _ _ h => h, hr3.out⟩
      | inr er =>
        rw [hnv] at hnu
        have hne : er ≠ 0 := num_ne hnv
        have z1 : (er == 0) = false := by simpa using hne
        have z2 : (er != 0) = true := by simpa using hne
        have hby : Hid (r.uint = (0, r.fails er)) := hid (by unfold Rr.uint; rw [if_neg (by omega), hnv])
        rw [show numV (.inr er) = .tuple #[.int .u64 0, .int .i64 0, .int .i64 er] from rfl] at hnu
        clear h he kb hatN hnv hne
        go_enter Tryd.func85, Tryd.ntmps85
        go_upto_region 3 with fail
        go_region_held3 (fun w' => w'.cell? ⟨g, 0, none⟩ = some (.slice A r.b.length c) ∧ w'.cell? ⟨g, 1, none⟩ = some (.int .i64 (r.at_ : Nat))) (first | exact ⟨x0, x1⟩ | exact ⟨y0, y1⟩)
          ((go_at_call 86
            refine hnu.out.mono ?_
            rintro e w2 ⟨rfl, hb0⟩
            have hb2 := hid ((Below.refl w.heap.size w).drew.trans hb0)
            have hr2 := hid (H.out.below_all hb2.out)
            have y0 := hr2.out.blk.cell 0
            have y1 := hr2.out.blk.cell 1
            simp only [List.getElem?_toArray, List.getElem?_cons_zero, List.getElem?_cons_succ] at y0 y1
            clear hb0))
        clear x0 x1 x2 x3 x4 fz hlt
        go_wp2_with fail
        refine (rfails_any hr2.out er).mono ?_
        rintro e w3 ⟨rfl, hu0, hr0⟩
        have hu3 := hid hu0; have hr3 := hid hr0
        clear hu0 hr0
        go_wp2_with fail
        go_ret
        rw [hby.out]
        exact ⟨rfl, (Upd.of_below (M := fun k => k = g) hb2.out fun k hk hk' => absurd hk (by omega)).trans hu3.out fun _ _ h => h, hr3.out⟩
  · have t1 : (r.e == 0) = false := by simpa using he
    have t2 : (r.e != 0) = true := by simpa using he
    have hby : Hid (r.uint = (0, r)) := hid (by unfold Rr.uint; rw [if_pos he])
    generalize r.e = re at *
    clear h he kb hat0 hln hatN
    go_enter Tryd.func85, Tryd.ntmps85
    go_wp2_with fail
    go_ret
    rw [hby.out]
    exact ⟨rfl, Upd.refl _ _, H.out⟩
end Go.Proofs.YtbnpidmlcjofiaaDoor

namespace Go.Proofs.YtbnpidmlcjofiaaDoor
open Go.RowKit
set_option linter.unusedVariables false
set_option linter.unusedSimpArgs false

theorem RrOf.bound {T : TypeId} {S : Nat → Prop} {w : World} {g : Nat} {A : Option Addr} {c : Nat} {r : Rr} (h : RrOf T S w g A c r) : RrOf T (fun k => S k ∧ k < w.heap.size) w g A c r :=
  ⟨h.blk, ⟨h.row.1, fun hn => by obtain ⟨b, o, e, hS, hb, hc⟩ := h.row.2 hn; exact ⟨b, o, e, ⟨hS, hb⟩, hb, hc⟩⟩, fun k hk => h.ne k hk.1, h.at_le, h.len, h.byt, h.cap⟩
theorem RrOf.unbound {T : TypeId} {S : Nat → Prop} {w : World} {g N : Nat} {A : Option Addr} {c : Nat} {r : Rr} (h : RrOf T (fun k => S k ∧ k < N) w g A c r) (hne : ∀ k, S k → k ≠ g) : RrOf T S w g A c r :=
  ⟨h.blk, h.row.more fun b hb _ => hb.1, hne, h.at_le, h.len, h.byt, h.cap⟩
def vcs (v : Vl) : Array Value := #[.int .i64 v.k, .int .i64 v.n, .string v.s]
/-- a reader, the result's variable at B, the value's at y -/
structure TK (T : TypeId) (S : Nat → Prop) (w W : World) (g : Nat) (A : Option Addr) (c : Nat) (r : Rr) (y : Nat) (u v : Vl) : Prop where
  rd : RrOf T S W g A c r
  sb : ∀ k, S k → k < w.heap.size
  gb : g < w.heap.size
  zv : Blk W w.heap.size 24 #[.int .i64 u.k, .int .i64 u.n, .string u.s]
  yv : Blk W y 24 #[.int .i64 v.k, .int .i64 v.n, .string v.s]
  yb : w.heap.size < y
  up : Upd (fun k => k = g) w W
section
variable {T : TypeId} {S : Nat → Prop} {w W W' : World} {g : Nat} {A : Option Addr} {c : Nat} {r r' : Rr} {y : Nat} {u v : Vl}
theorem TK.call (h : TK T S w W g A c r y u v) (hu : Upd (fun k => k = g) W W') (hr : RrOf T S W' g A c r') : TK T S w W' g A c r' y u v :=
  ⟨hr, h.sb, h.gb, h.zv.upd hu (by have := h.gb; omega), h.yv.upd hu (by have := h.gb; have := h.yb; omega), h.yb, h.up.trans hu fun _ _ h => h⟩
theorem TK.below (h : TK T S w W g A c r y u v) (hb : Below W.heap.size W W') : TK T S w W' g A c r y u v :=
  ⟨h.rd.below_all hb, h.sb, h.gb, h.zv.below_all hb, h.yv.below_all hb, h.yb, h.up.trans (Upd.of_below' hb Nil) fun _ _ h => h.elim⟩
theorem TK.putY (h : TK T S w W g A c r y u v) (v' : Vl) : TK T S w (((W.setCell ⟨y, 0, none⟩ (.int .i64 v'.k)).setCell ⟨y, 1, none⟩ (.int .i64 v'.n)).setCell ⟨y, 2, none⟩ (.string v'.s)) g A c r y u v' := by
  have hy := h.yb
  have hgb := h.gb
  have U : Upd (fun k => k = y) W (((W.setCell ⟨y, 0, none⟩ (.int .i64 v'.k)).setCell ⟨y, 1, none⟩ (.int .i64 v'.n)).setCell ⟨y, 2, none⟩ (.string v'.s)) :=
    (((Upd.refl (fun k => k = y) W).setCell (p := ⟨y, 0, none⟩) (fun _ => rfl) _).setCell (p := ⟨y, 1, none⟩) (fun _ => rfl) _).setCell (p := ⟨y, 2, none⟩) (fun _ => rfl) _
  refine ⟨h.rd.upd U (by omega) (fun b hb => by have := h.sb b hb; omega), h.sb, h.gb, h.zv.upd U (by omega), ?_, hy, h.up.trans U fun b hb e => by omega⟩
  simpa using ((h.yv.set_ 0 (.int .i64 v'.k)).set_ 1 (.int .i64 v'.n)).set_ 2 (.string v'.s)
theorem TK.putZ (h : TK T S w W g A c r y u v) (u' : Vl) : TK T S w (((W.setCell ⟨w.heap.size, 0, none⟩ (.int .i64 u'.k)).setCell ⟨w.heap.size, 1, none⟩ (.int .i64 u'.n)).setCell ⟨w.heap.size, 2, none⟩ (.string u'.s)) g A c r y u' v := by
  have hy := h.yb
  have hgb := h.gb
  have U : Upd (fun k => k = w.heap.size) W (((W.setCell ⟨w.heap.size, 0, none⟩ (.int .i64 u'.k)).setCell ⟨w.heap.size, 1, none⟩ (.int .i64 u'.n)).setCell ⟨w.heap.size, 2, none⟩ (.string u'.s)) :=
    (((Upd.refl (fun k => k = w.heap.size) W).setCell (p := ⟨w.heap.size, 0, none⟩) (fun _ => rfl) _).setCell (p := ⟨w.heap.size, 1, none⟩) (fun _ => rfl) _).setCell (p := ⟨w.heap.size, 2, none⟩) (fun _ => rfl) _
  refine ⟨h.rd.upd U (by omega) (fun b hb => by have := h.sb b hb; omega), h.sb, h.gb, ?_, h.yv.upd U (by omega), hy, h.up.trans U fun b hb e => by omega⟩
  simpa using ((h.zv.set_ 0 (.int .i64 u'.k)).set_ 1 (.int .i64 u'.n)).set_ 2 (.string u'.s)
theorem TK.cells (h : TK T S w W g A c r y u v) : W.cell? ⟨g, 3, none⟩ = some (.int .i64 r.e) ∧ W.cell? ⟨w.heap.size, 0, none⟩ = some (.int .i64 u.k) ∧ W.cell? ⟨w.heap.size, 1, none⟩ = some (.int .i64 u.n) ∧ W.cell? ⟨w.heap.size, 2, none⟩ = some (.string u.s) ∧ W.cell? ⟨y, 0, none⟩ = some (.int .i64 v.k) ∧ W.cell? ⟨y, 1, none⟩ = some (.int .i64 v.n) ∧ W.cell? ⟨y, 2, none⟩ = some (.string v.s) ∧ (∀ q, W.frozen? ⟨w.heap.size, q, none⟩ = false) ∧ (∀ q, W.frozen? ⟨y, q, none⟩ = false) ∧ w.heap.size < W.heap.size ∧ y < W.heap.size :=
  ⟨h.rd.blk.cell 3, h.zv.cell 0, h.zv.cell 1, h.zv.cell 2, h.yv.cell 0, h.yv.cell 1, h.yv.cell 2, fun q => h.zv.frozen q, fun q => h.yv.frozen q, h.zv.lt, h.yv.lt⟩
end
theorem Rr.byte_bad {r : Rr} (h : r.byte.2.e ≠ 0) : r.byte.1 = 0 := by
  unfold Rr.byte at h ⊢
  split
  · rfl
  · split
    · rfl
    · rename_i h1 _ _ h2
      rw [if_neg h1, h2] at h
      exact absurd (by simpa [Rr.took] using h1) h
theorem Rr.text_le (r : Rr) (most : Nat) : (r.text most).1.size ≤ most := by
  unfold Rr.text
  split
  · simp [ByteArray.size]
  · split
    · simp [ByteArray.size]
    · split
      · simp [ByteArray.size]
      · split
        · simp [ByteArray.size]
        · rename_i n k _ h _
          have : (bt ((r.b.drop (r.at_ + k)).take n)).size = ((r.b.drop (r.at_ + k)).take n).length := by unfold bt; simp [ByteArray.size]
          rw [this, List.length_take]
          omega
theorem Rr.text_bad {r : Rr} {most : Int} (h : (r.text most).2.e ≠ 0) : (r.text most).1 = ⟨#[]⟩ := by
  unfold Rr.text at h ⊢
  split
  · rfl
  · rename_i h1
    rw [if_neg h1] at h
    split
    · rfl
    · rename_i h2
      rw [h2] at h
      simp only at h
      split
      · rfl
      · rename_i h3
        rw [if_neg h3] at h
        split
        · rfl
        · rename_i h4
          rw [if_neg h4] at h
          exact absurd (by simpa [Rr.took] using h1) h
set_option maxRecDepth 100000 in
theorem rof_any (n : Int) (w : World) : Calls Tryd.prog 33 #[.int .i64 n] w fun e w' => e = .returned (.agg #[.int .i64 1, .int .i64 n, .string ⟨#[]⟩]) ∧ Below w.heap.size w w' := by
  have hB : Hid (Below w.heap.size w (w.alloc (.cells #[.int .i64 0, .int .i64 0, .string ⟨#[]⟩] 24))) := hid ((Below.refl _ _).alloc (Nat.le_refl _) _)
  have kb := hid (Blk.new w 24 #[.int .i64 0, .int .i64 0, .string ⟨#[]⟩])
  have hn := hid (show w.heap.size < (w.alloc (.cells #[.int .i64 0, .int .i64 0, .string ⟨#[]⟩] 24)).heap.size by simp)
  go_enter Tryd.func33, Tryd.ntmps33
  go_upto_region 1 with fail
  generalize hW : w.alloc (.cells #[.int .i64 0, .int .i64 0, .string ⟨#[]⟩] 24) = W at *
  clear hW
  have fz := fun q => kb.out.frozen q
  have hlt := kb.out.lt
  have z0 := kb.out.cell 0
  have z1 := kb.out.cell 1
  have z2 := kb.out.cell 2
  simp only [List.getElem?_toArray, List.getElem?_cons_zero, List.getElem?_cons_succ] at z0 z1 z2
  go_wp2_with fail
  refine bodyPost_ret (v := .agg #[.int .i64 1, .int .i64 n, .string ⟨#[]⟩]) ?_ rfl ⟨rfl, ?_⟩
  · exact results_cell_row (P := Tryd.prog) rfl _ _ w.heap.size 24 _ (0, 0) _ rfl (show Blk _ _ _ #[.int .i64 1, .int .i64 n, .string ⟨#[]⟩] from by simpa using ((kb.out.set_ 0 _).set_ 1 _).set_ 2 _) Tryd.underlying24 rfl (by kernel_rfl)
  · exact ((hB.out.setCell (p := ⟨w.heap.size, 0, none⟩) (Nat.le_refl _) _).setCell (p := ⟨w.heap.size, 1, none⟩) (Nat.le_refl _) _).setCell (p := ⟨w.heap.size, 2, none⟩) (Nat.le_refl _) _
set_option maxRecDepth 100000 in
theorem rword2_any (s : ByteArray) (w : World) : Calls Tryd.prog 35 #[.string s] w fun e w' => e = .returned (.agg #[.int .i64 2, .int .i64 0, .string s]) ∧ Below w.heap.size w w' := by
  have hB : Hid (Below w.heap.size w (w.alloc (.cells #[.int .i64 0, .int .i64 0, .string ⟨#[]⟩] 24))) := hid ((Below.refl _ _).alloc (Nat.le_refl _) _)
  have kb := hid (Blk.new w 24 #[.int .i64 0, .int .i64 0, .string ⟨#[]⟩])
  have hn := hid (show w.heap.size < (w.alloc (.cells #[.int .i64 0, .int .i64 0, .string ⟨#[]⟩] 24)).heap.size by simp)
  go_enter Tryd.func35, Tryd.ntmps35
  go_upto_region 1 with fail
  generalize hW : w.alloc (.cells #[.int .i64 0, .int .i64 0, .string ⟨#[]⟩] 24) = W at *
  clear hW
  have fz := fun q => kb.out.frozen q
  have hlt := kb.out.lt
  have z0 := kb.out.cell 0
  have z1 := kb.out.cell 1
  have z2 := kb.out.cell 2
  simp only [List.getElem?_toArray, List.getElem?_cons_zero, List.getElem?_cons_succ] at z0 z1 z2
  go_wp2_with fail
  refine bodyPost_ret (v := .agg #[.int .i64 2, .int .i64 0, .string s]) ?_ rfl ⟨rfl, ?_⟩
  · exact results_cell_row (P := Tryd.prog) rfl _ _ w.heap.size 24 _ (0, 0) _ rfl (show Blk _ _ _ #[.int .i64 2, .int .i64 0, .string s] from by simpa using ((kb.out.set_ 0 _).set_ 1 _).set_ 2 _) Tryd.underlying24 rfl (by kernel_rfl)
  · exact ((hB.out.setCell (p := ⟨w.heap.size, 0, none⟩) (Nat.le_refl _) _).setCell (p := ⟨w.heap.size, 1, none⟩) (Nat.le_refl _) _).setCell (p := ⟨w.heap.size, 2, none⟩) (Nat.le_refl _) _
set_option maxRecDepth 100000 in
theorem of_any (n : Int) (w : World) : Calls Tryd.prog 32 #[.int .i64 n] w fun e w' => e = .returned (.agg #[.int .i64 1, .int .i64 n, .string ⟨#[]⟩]) ∧ Below w.heap.size w w' := by
  have hB : Hid (Below w.heap.size w (w.alloc (.cells #[.int .i64 0, .int .i64 0, .string ⟨#[]⟩] 24))) := hid ((Below.refl _ _).alloc (Nat.le_refl _) _)
  have kb := hid (Blk.new w 24 #[.int .i64 0, .int .i64 0, .string ⟨#[]⟩])
  have hn := hid (show w.heap.size < (w.alloc (.cells #[.int .i64 0, .int .i64 0, .string ⟨#[]⟩] 24)).heap.size by simp)
  go_enter Tryd.func32, Tryd.ntmps32
  go_upto_region 1 with fail
  generalize hW : w.alloc (.cells #[.int .i64 0, .int .i64 0, .string ⟨#[]⟩] 24) = W at *
  clear hW
  have fz := fun q => kb.out.frozen q
  have hlt := kb.out.lt
  have z0 := kb.out.cell 0
  have z1 := kb.out.cell 1
  have z2 := kb.out.cell 2
  simp only [List.getElem?_toArray, List.getElem?_cons_zero, List.getElem?_cons_succ] at z0 z1 z2
  go_wp2_with fail
  refine bodyPost_ret (v := .agg #[.int .i64 1, .int .i64 n, .string ⟨#[]⟩]) ?_ rfl ⟨rfl, ?_⟩
  · exact results_cell_row (P := Tryd.prog) rfl _ _ w.heap.size 24 _ (0, 0) _ rfl (show Blk _ _ _ #[.int .i64 1, .int .i64 n, .string ⟨#[]⟩] from by simpa using ((kb.out.set_ 0 _).set_ 1 _).set_ 2 _) Tryd.underlying24 rfl (by kernel_rfl)
  · exact ((hB.out.setCell (p := ⟨w.heap.size, 0, none⟩) (Nat.le_refl _) _).setCell (p := ⟨w.heap.size, 1, none⟩) (Nat.le_refl _) _).setCell (p := ⟨w.heap.size, 2, none⟩) (Nat.le_refl _) _
set_option maxRecDepth 100000 in
theorem word2_any (s : ByteArray) (w : World) : Calls Tryd.prog 34 #[.string s] w fun e w' => e = .returned (.agg #[.int .i64 2, .int .i64 0, .string s]) ∧ Below w.heap.size w w' := by
  have hB : Hid (Below w.heap.size w (w.alloc (.cells #[.int .i64 0, .int .i64 0, .string ⟨#[]⟩] 24))) := hid ((Below.refl _ _).alloc (Nat.le_refl _) _)
  have kb := hid (Blk.new w 24 #[.int .i64 0, .int .i64 0, .string ⟨#[]⟩])
  have hn := hid (show w.heap.size < (w.alloc (.cells #[.int .i64 0, .int .i64 0, .string ⟨#[]⟩] 24)).heap.size by simp)
  go_enter Tryd.func34, Tryd.ntmps34
  go_upto_region 1 with fail
  generalize hW : w.alloc (.cells #[.int .i64 0, .int .i64 0, .string ⟨#[]⟩] 24) = W at *
  clear hW
  have fz := fun q => kb.out.frozen q
  have hlt := kb.out.lt
  have z0 := kb.out.cell 0
  have z1 := kb.out.cell 1
  have z2 := kb.out.cell 2
  simp only [List.getElem?_toArray, List.getElem?_cons_zero, List.getElem?_cons_succ] at z0 z1 z2
  go_wp2_with fail
  refine bodyPost_ret (v := .agg #[.int .i64 2, .int .i64 0, .string s]) ?_ rfl ⟨rfl, ?_⟩
  · exact results_cell_row (P := Tryd.prog) rfl _ _ w.heap.size 24 _ (0, 0) _ rfl (show Blk _ _ _ #[.int .i64 2, .int .i64 0, .string s] from by simpa using ((kb.out.set_ 0 _).set_ 1 _).set_ 2 _) Tryd.underlying24 rfl (by kernel_rfl)
  · exact ((hB.out.setCell (p := ⟨w.heap.size, 0, none⟩) (Nat.le_refl _) _).setCell (p := ⟨w.heap.size, 1, none⟩) (Nat.le_refl _) _).setCell (p := ⟨w.heap.size, 2, none⟩) (Nat.le_refl _) _

end Go.Proofs.YtbnpidmlcjofiaaDoor

namespace Go.Proofs.YtbnpidmlcjofiaaDoor
open Go
set_option linter.unusedVariables false
set_option linter.unusedSimpArgs false

/-! digits -/
def isD (c : UInt8) : Bool := decide (48 ≤ c.toNat) && decide (c.toNat ≤ 57)
theorem isD_iff {c : UInt8} : isD c = true ↔ 48 ≤ c.toNat ∧ c.toNat ≤ 57 := by simp [isD]
/-- what digits say -/
def dval (a : Nat) (l : List UInt8) : Nat := l.foldl (fun a c => 10 * a + (c.toNat - 48)) a
theorem dval_nil (a : Nat) : dval a [] = a := rfl
theorem dval_cons (a : Nat) (c : UInt8) (r : List UInt8) : dval a (c :: r) = dval (10 * a + (c.toNat - 48)) r := by unfold dval; rw [List.foldl_cons]
theorem dval_app (l m : List UInt8) (a : Nat) : dval a (l ++ m) = dval (dval a l) m := by unfold dval; rw [List.foldl_append]
theorem dval_snoc (l : List UInt8) (c : UInt8) (a : Nat) : dval a (l ++ [c]) = 10 * dval a l + (c.toNat - 48) := by rw [dval_app, dval_cons, dval_nil]
theorem dval_ge (l : List UInt8) : ∀ a, a ≤ dval a l := by
  induction l with
  | nil => intro a; exact Nat.le_refl _
  | cons c r ih => intro a; have := ih (10 * a + (c.toNat - 48)); simp only [dval_nil, dval_cons]; omega
theorem dval_take (l : List UInt8) (k a : Nat) : dval a (l.take k) ≤ dval a l := by
  have := dval_app (l.take k) (l.drop k) a
  rw [List.take_append_drop] at this
  rw [this]
  exact dval_ge _ _
theorem dg_toNat {u : Nat} (h : u < 10) : (UInt8.ofNat (48 + u)).toNat = 48 + u := by
  rw [UInt8.toNat_ofNat']; omega
theorem dval_dec : ∀ u : Nat, dval 0 (Lib.decDigits u) = u := by
  intro u
  induction u using Nat.strongRecOn with
  | _ u ih =>
    rw [Lib.decDigits]
    split
    · rename_i h
      simp only [dval_nil, dval_cons, dg_toNat h]; omega
    · rename_i h
      rw [dval_snoc, ih (u / 10) (by omega), dg_toNat (by omega)]; omega
theorem head_app {m l : List UInt8} (h : m ≠ []) : (m ++ l).head? = m.head? := by
  cases m with
  | nil => exact absurd rfl h
  | cons c r => rfl
theorem dec_ne (u : Nat) : Lib.decDigits u ≠ [] := by
  rw [Lib.decDigits]; split <;> simp
theorem dec_isD : ∀ u : Nat, ∀ c ∈ Lib.decDigits u, isD c = true := by
  intro u
  induction u using Nat.strongRecOn with
  | _ u ih =>
    rw [Lib.decDigits]
    split
    · rename_i h
      intro c hc
      obtain rfl := List.mem_singleton.1 hc
      rw [isD_iff, dg_toNat h]; omega
    · rename_i h
      intro c hc
      rcases List.mem_append.1 hc with hc | hc
      · exact ih (u / 10) (by omega) c hc
      · obtain rfl := List.mem_singleton.1 hc
        rw [isD_iff, dg_toNat (by omega)]; omega
theorem dec_head : ∀ u : Nat, u ≠ 0 → (Lib.decDigits u).head? ≠ some 48 := by
  intro u
  induction u using Nat.strongRecOn with
  | _ u ih =>
    intro h0
    rw [Lib.decDigits]
    split
    · rename_i h
      intro e
      simp only [List.head?_cons, Option.some.injEq] at e
      have := congrArg UInt8.toNat e
      rw [dg_toNat h] at this
      simp at this
      omega
    · rename_i h
      rw [head_app (dec_ne _)]
      exact ih (u / 10) (by omega) (by omega)
theorem dec_zero : Lib.decDigits 0 = [48] := by rw [Lib.decDigits]; rfl
theorem dval_pos {l : List UInt8} (hd : ∀ c ∈ l, isD c = true) (h0 : l ≠ []) (hh : l.head? ≠ some 48) : 0 < dval 0 l := by
  cases l with
  | nil => exact absurd rfl h0
  | cons c r =>
    have h1 := isD_iff.1 (hd c (List.mem_cons_self ..))
    have h2 : c.toNat ≠ 48 := fun e => hh (by rw [List.head?_cons]; congr 1; exact UInt8.toNat_inj.1 e)
    have := dval_ge r (10 * 0 + (c.toNat - 48))
    simp only [dval_nil, dval_cons]
    omega
theorem dec_dval : ∀ (k : Nat) (l : List UInt8), l.length = k → (∀ c ∈ l, isD c = true) → l ≠ [] → (l.head? = some 48 → l.length = 1) → Lib.decDigits (dval 0 l) = l := by
  intro k
  induction k with
  | zero => intro l hl _ h0; exact absurd (List.eq_nil_of_length_eq_zero hl) h0
  | succ k ih =>
    intro l hl hd h0 hh
    obtain ⟨m, c, rfl⟩ : ∃ m c, l = m ++ [c] := ⟨l.dropLast, l.getLast h0, (List.dropLast_concat_getLast h0).symm⟩
    have hc := isD_iff.1 (hd c (by simp))
    have hcc : UInt8.ofNat (48 + (c.toNat - 48)) = c := by rw [show 48 + (c.toNat - 48) = c.toNat by omega]; simp
    rw [dval_snoc]
    by_cases hm : m = []
    · subst hm
      simp only [dval_nil, dval_cons, List.nil_append]
      rw [Lib.decDigits, dif_pos (by omega), show 10 * 0 + (c.toNat - 48) = c.toNat - 48 by omega, hcc]
    · have hm1 : m.head? ≠ some 48 := fun e => by
        have := hh (by rw [head_app hm]; exact e)
        have h3 : 0 < m.length := List.length_pos_iff.2 hm
        simp at this
        exact hm this
      have hp := dval_pos (fun c hc => hd c (by simp [hc])) hm hm1
      rw [Lib.decDigits, dif_neg (by omega), show (10 * dval 0 m + (c.toNat - 48)) / 10 = dval 0 m by omega, show (10 * dval 0 m + (c.toNat - 48)) % 10 = c.toNat - 48 by omega, hcc,
        ih m (by simpa using hl) (fun c hc => hd c (by simp [hc])) hm (fun e => absurd e hm1)]
/-! the library's ParseInt, over digits -/
theorem parseM_dval (M : Nat) (hM : M = 18446744073709551615) : ∀ (l : List UInt8) (a : Nat), (∀ c ∈ l, isD c = true) → a ≤ M → Lib.parseUintM M a l = if dval a l ≤ M then .ok (dval a l) else .range := by
  intro l
  induction l with
  | nil => intro a _ ha; rw [dval_nil, if_pos ha]; rfl
  | cons c r ih =>
    intro a hd ha
    have hc := isD_iff.1 (hd c (List.mem_cons_self ..))
    have hg := dval_ge r (10 * a + (c.toNat - 48))
    have e := dval_cons a c r
    rw [e, Lib.parseUintM, if_pos hc]
    by_cases h1 : 1844674407370955162 ≤ a
    · rw [if_pos h1, if_neg (by omega)]
    · rw [if_neg h1]
      by_cases h2 : M < a * 10 + (c.toNat - 48)
      · rw [if_pos h2, if_neg (by omega)]
      · rw [if_neg h2, ih _ (fun c hc => hd c (List.mem_cons_of_mem _ hc)) (by omega), show a * 10 + (c.toNat - 48) = 10 * a + (c.toNat - 48) by omega]
theorem parseU_dval {l : List UInt8} (hd : ∀ c ∈ l, isD c = true) (h0 : l ≠ []) : Lib.parseUintB 64 l = if dval 0 l ≤ 18446744073709551615 then .ok (dval 0 l) else .range := by
  unfold Lib.parseUintB
  rw [if_neg h0, parseM_dval (2 ^ 64 - 1) (by decide) l 0 hd (by decide)]
theorem parseI_pos {l : List UInt8} (hd : ∀ c ∈ l, isD c = true) (h0 : l ≠ []) : Lib.parseIntB 64 l = if dval 0 l < 9223372036854775808 then .ok (dval 0 l : Int) else .range := by
  cases l with
  | nil => exact absurd rfl h0
  | cons c r =>
    have hc := isD_iff.1 (hd c (List.mem_cons_self ..))
    unfold Lib.parseIntB
    simp only
    rw [if_neg (by omega : ¬ (c.toNat = 43 ∨ c.toNat = 45)), parseU_dval hd h0]
    have e : (2 : Nat) ^ (64 - 1) = 9223372036854775808 := by decide
    rw [e]
    have hn : ¬ (c.toNat = 45) := by omega
    by_cases h1 : dval 0 (c :: r) ≤ 18446744073709551615
    · rw [if_pos h1]
      simp only [hn, not_false_eq_true, true_and, false_and, if_false]
      by_cases h2 : dval 0 (c :: r) < 9223372036854775808
      · rw [if_neg (by omega), if_pos h2]
      · rw [if_pos (by omega), if_neg h2]
    · rw [if_neg h1, if_neg (by omega)]
theorem parseI_neg {l : List UInt8} (hd : ∀ c ∈ l, isD c = true) (h0 : l ≠ []) : Lib.parseIntB 64 (45 :: l) = if dval 0 l ≤ 9223372036854775808 then .ok (-(dval 0 l : Int)) else .range := by
  unfold Lib.parseIntB
  simp only
  rw [if_pos (.inr rfl), parseU_dval hd h0]
  have e : (2 : Nat) ^ (64 - 1) = 9223372036854775808 := by decide
  rw [e]
  have hn : (45 : UInt8).toNat = 45 := rfl
  by_cases h1 : dval 0 l ≤ 18446744073709551615
  · rw [if_pos h1]
    simp only [hn, not_true_eq_false, true_and, false_and, if_false, if_true]
    by_cases h2 : dval 0 l ≤ 9223372036854775808
    · rw [if_neg (by omega), if_pos h2]
    · rw [if_pos (by omega), if_neg h2]
  · rw [if_neg h1, if_neg (by omega)]
/-! Parse -/
structure Pz where
  v : Vl
  e : Int
  at_ : Nat
deriving DecidableEq
def Pz.bad (e : Int) (k : Nat) : Pz := ⟨vl0, e, k⟩
def Pz.good (v : Vl) : Pz := ⟨v, 0, 0⟩
def wordV (l : List UInt8) : Vl := ⟨2, 0, ⟨l.toArray⟩⟩
def intV (n : Int) : Vl := ⟨1, n, ⟨#[]⟩⟩
def scanL : List UInt8 → Nat → List UInt8 → Pz
  | [], i, _ => .bad 3 i
  | c :: r, i, out =>
    if c = 34 then (if r = [] then .good (wordV out) else .bad 4 (i + 1))
    else if okB c = false then .bad 21 i
    else if out.length = 64 then .bad 1 i
    else if c = 92 then
      match r with
      | [] => .bad 3 (i + 1)
      | d :: r' => if d = 34 ∨ d = 92 then scanL r' (i + 2) (out ++ [d]) else .bad 21 (i + 1)
    else scanL r (i + 1) (out ++ [c])
def wantL : List UInt8 → List UInt8 → Nat → Pz
  | [], [], _ => .good vl0
  | _ :: _, [], i => .bad 4 i
  | [], _ :: _, i => .bad 3 i
  | c :: r, d :: q, i => if c = d then wantL r q (i + 1) else .bad 21 i
def noneT : List UInt8 := [110, 111, 110, 101]
def fromL (s : List UInt8) : Nat := if s.head? = some 45 then 1 else 0
def digs (s : List UInt8) : List UInt8 := (s.drop (fromL s)).takeWhile isD
def numE (neg : Bool) (ds : List UInt8) (len : Nat) : Pz :=
  let f := if neg = true then 1 else 0
  if ds = [] then (if len = f then .bad 3 f else .bad 21 f)
  else if ds.head? = some 48 ∧ neg = true then .bad 21 1
  else if ds.head? = some 48 ∧ 1 < ds.length then .bad 21 1
  else if (if neg = true then 9223372036854775808 < dval 0 ds else 9223372036854775808 ≤ dval 0 ds) then .bad 22 0
  else if f + ds.length < len then .bad 4 (f + ds.length)
  else .good (intV (if neg = true then -(dval 0 ds : Int) else dval 0 ds))
def numL (s : List UInt8) : Pz := numE (decide (s.head? = some 45)) (digs s) s.length
def parseL (s : List UInt8) : Pz :=
  match s with
  | [] => .bad 3 0
  | c :: r => if c = 34 then scanL r 1 [] else if c = 45 ∨ isD c = true then numL s else wantL s noneT 0
/-! Print -/
def escL (l : List UInt8) : List UInt8 := l.flatMap fun c => if c = 34 ∨ c = 92 then [92, c] else [c]
def litL (v : Vl) : List UInt8 := if v.k = 1 then Lib.itoa v.n else if v.k = 0 then noneT else 34 :: (escL v.s.data.toList ++ [34])
def printE (v : Vl) : Int := if v.ok = true then 0 else 20
def printL (v : Vl) : List UInt8 := if v.ok = true then litL v else []
theorem scan_c {c : UInt8} {r : List UInt8} {i : Nat} {out : List UInt8} (h : c ≠ 92) : scanL (c :: r) i out = if c = 34 then (if r = [] then .good (wordV out) else .bad 4 (i + 1)) else if okB c = false then .bad 21 i else if out.length = 64 then .bad 1 i else scanL r (i + 1) (out ++ [c]) := by
  rw [scanL.eq_def]
  simp only
  rw [if_neg h]
theorem scan_b1 {i : Nat} {out : List UInt8} : scanL [92] i out = if out.length = 64 then .bad 1 i else .bad 3 (i + 1) := by
  rw [scanL.eq_def]
  simp only
  rw [if_neg (by decide), if_neg (by decide), if_pos trivial]
theorem scan_b2 {d : UInt8} {r : List UInt8} {i : Nat} {out : List UInt8} : scanL (92 :: d :: r) i out = if out.length = 64 then .bad 1 i else if d = 34 ∨ d = 92 then scanL r (i + 2) (out ++ [d]) else .bad 21 (i + 1) := by
  rw [scanL.eq_def]
  simp only
  rw [if_neg (by decide), if_neg (by decide), if_pos trivial]
theorem escL_cons (c : UInt8) (l : List UInt8) : escL (c :: l) = (if c = 34 ∨ c = 92 then [92, c] else [c]) ++ escL l := rfl
theorem scan_esc : ∀ (l : List UInt8) (i : Nat) (out : List UInt8), (∀ c ∈ l, okB c = true) → out.length + l.length ≤ 64 → scanL (escL l ++ [34]) i out = .good (wordV (out ++ l)) := by
  intro l
  induction l with
  | nil => intro i out _ _; simp [escL, scanL]
  | cons c l ih =>
    intro i out hk hl
    simp only [List.length_cons] at hl
    have h1 := ih (i + 2) (out ++ [c]) (fun c hc => hk c (List.mem_cons_of_mem _ hc)) (by simp; omega)
    have h2 := ih (i + 1) (out ++ [c]) (fun c hc => hk c (List.mem_cons_of_mem _ hc)) (by simp; omega)
    rw [List.append_assoc, List.singleton_append] at h1 h2
    rw [escL_cons]
    by_cases hc : c = 34 ∨ c = 92
    · rw [if_pos hc]
      simp only [List.cons_append, List.nil_append]
      rw [scan_b2, if_neg (by omega), if_pos hc, h1]
    · rw [if_neg hc]
      simp only [List.cons_append, List.nil_append]
      rw [scan_c (fun e => hc (.inr e)), if_neg (fun e => hc (.inl e)), if_neg (by rw [hk c (List.mem_cons_self ..)]; simp), if_neg (by omega), h2]
theorem scan_good : ∀ (n : Nat) (r : List UInt8) (i : Nat) (out : List UInt8), r.length ≤ n → (scanL r i out).e = 0 → out.length ≤ 64 →
    ∃ t, scanL r i out = .good (wordV (out ++ t)) ∧ r = escL t ++ [34] ∧ (∀ c ∈ t, okB c = true) ∧ (out ++ t).length ≤ 64 ∧ ∀ cut, cut < r.length → scanL (r.take cut) i out = .bad 3 (i + cut) := by
  intro n
  induction n with
  | zero => intro r i out hr he; obtain rfl := List.eq_nil_of_length_eq_zero (by omega : r.length = 0); simp [scanL, Pz.bad] at he
  | succ n ih =>
    intro r i out hr he ho
    cases r with
    | nil => simp [scanL, Pz.bad] at he
    | cons c r =>
      by_cases h4 : c = 92
      · subst h4
        cases r with
        | nil => rw [scan_b1] at he; split at he <;> simp [Pz.bad] at he
        | cons d r' =>
          rw [scan_b2] at he ⊢
          by_cases h3 : out.length = 64
          · rw [if_pos h3] at he; simp [Pz.bad] at he
          · rw [if_neg h3] at he ⊢
            by_cases h5 : d = 34 ∨ d = 92
            · rw [if_pos h5] at he ⊢
              obtain ⟨t, e1, e2, e3, e4, e5⟩ := ih r' (i + 2) (out ++ [d]) (by simp at hr; omega) he (by simp; omega)
              refine ⟨d :: t, by rw [e1]; simp, ?_, ?_, ?_, fun cut hc => ?_⟩
              · rw [escL_cons, if_pos h5, e2]; simp
              · intro x hx
                rcases List.mem_cons.1 hx with rfl | hx
                · rcases h5 with rfl | rfl <;> decide
                · exact e3 x hx
              · simp at e4 ⊢; omega
              · rcases cut with _ | _ | cut
                · simp [scanL]
                · simp only [List.take_succ_cons, List.take_zero]
                  rw [scan_b1, if_neg h3]
                · have := e5 cut (by simp at hc; omega)
                  simp only [List.take_succ_cons]
                  rw [scan_b2, if_neg h3, if_pos h5, this]
                  congr 1; omega
            · rw [if_neg h5] at he; simp [Pz.bad] at he
      · rw [scan_c h4] at he ⊢
        by_cases h1 : c = 34
        · rw [if_pos h1] at he ⊢
          by_cases h2 : r = []
          · rw [if_pos h2]
            refine ⟨[], by simp, by simp [escL, h1, h2], by simp, by simpa using ho, fun cut hc => ?_⟩
            subst h2
            obtain rfl : cut = 0 := by simp at hc; omega
            simp [scanL]
          · rw [if_neg h2] at he; simp [Pz.bad] at he
        · rw [if_neg h1] at he ⊢
          by_cases h2 : okB c = false
          · rw [if_pos h2] at he; simp [Pz.bad] at he
          · rw [if_neg h2] at he ⊢
            by_cases h3 : out.length = 64
            · rw [if_pos h3] at he; simp [Pz.bad] at he
            · rw [if_neg h3] at he ⊢
              obtain ⟨t, e1, e2, e3, e4, e5⟩ := ih r (i + 1) (out ++ [c]) (by simp at hr; omega) he (by simp; omega)
              refine ⟨c :: t, by rw [e1]; simp, ?_, ?_, ?_, fun cut hc => ?_⟩
              · rw [escL_cons, if_neg (fun e => e.elim h1 h4), e2]; rfl
              · intro x hx
                rcases List.mem_cons.1 hx with rfl | hx
                · simpa using h2
                · exact e3 x hx
              · simp at e4 ⊢; omega
              · rcases cut with _ | cut
                · simp [scanL]
                · have := e5 cut (by simp at hc; omega)
                  simp only [List.take_succ_cons]
                  rw [scan_c h4, if_neg h1, if_neg h2, if_neg h3, this]
                  congr 1; omega
end Go.Proofs.YtbnpidmlcjofiaaDoor

namespace Go.Proofs.YtbnpidmlcjofiaaDoor
open Go.RowKit
set_option linter.unusedVariables false
set_option linter.unusedSimpArgs false

theorem numF_pos (b : List Nat) (at_ : Nat) : ∀ (k i acc n m : Nat), numF b at_ k i acc = .inl (n, m) → i + 1 ≤ m := by
  intro k
  induction k with
  | zero => intro i acc n m h; simp [numF] at h
  | succ k ih =>
    intro i acc n m h
    unfold numF at h
    split at h
    · cases h
    · split at h
      · cases h
      · split at h
        · split at h
          · cases h
          · simp only [Sum.inl.injEq, Prod.mk.injEq] at h; omega
        · have := ih _ _ _ _ h; omega
theorem num_pos {b : List Nat} {at_ n m : Nat} (h : num b at_ = .inl (n, m)) : 1 ≤ m := numF_pos b at_ 10 0 0 n m h
theorem strOf_bt (l : List Nat) : strOfNums (l.map Int.ofNat) = bt l := by
  unfold strOfNums bt
  rw [List.map_map]
  rfl
theorem convB {S : Nat → Prop} {w : World} {A : Option Addr} {l : List Nat} {n c : Nat} (h : Rd S w 1 A n (bcells l)) (hn : l.length = n) : (convert 22 9 (.slice A n c)).run Tryd.prog w = .ok (.string (bt l)) w := by
  subst hn
  cases l with
  | nil =>
    cases A with
    | none => exact run_convert_bytes_nil w 22 5 Tryd.underlying22 Tryd.underlying5 0 c 9 Tryd.underlying9
    | some a =>
      obtain ⟨b, o, t⟩ := a
      rw [run_convert_bytes_string w 22 9 5 _ _ c Tryd.underlying22 Tryd.underlying5 Tryd.underlying9, run_bytesToString w _ _ c [] (by simp [loadCells, loadCellsFrom])]
      rfl
  | cons x l =>
    obtain ⟨b, o, rfl, _, _, hc⟩ := h.2 (by simp)
    rw [← strOf_bt]
    refine run_convert_bytes_arg w 22 5 Tryd.underlying22 Tryd.underlying5 b o _ c _ (by simp) (fun i hi => hc i _ ?_) 9 Tryd.underlying9
    rw [bcells_at hi]
    have : ((x :: l).map Int.ofNat).getD i 0 = (((x :: l)[i] : Nat) : Int) := by rw [List.getD_eq_getElem?_getD, List.getElem?_map, List.getElem?_eq_getElem hi]; rfl
    rw [this]
/-- what a slice's part reads -/
theorem Rd.part {S : Nat → Prop} {w : World} {A : Option Addr} {l : List Nat} {c k n : Nat} (h : Rd S w 1 A l.length (bcells l)) (hk : k + n ≤ l.length) (hc : l.length ≤ c) : Rd S w 1 (if c = k then A else Option.map (fun x => x.add k) A) n (bcells ((l.drop k).take n)) := by
  have hl : ((l.drop k).take n).length = n := by rw [List.length_take, List.length_drop]; omega
  refine ⟨by unfold bcells; rw [List.length_map]; omega, fun hn => ?_⟩
  obtain ⟨b, o, rfl, hS, hb, hx⟩ := h.2 (by omega)
  rw [if_neg (by omega)]
  refine ⟨b, o + k, by simp [Addr.add_lit], hS, hb, fun j u hu => ?_⟩
  unfold bcells at hu hx
  rw [List.map_take, List.map_drop] at hu
  have hj : j < n := by
    have := (List.getElem?_eq_some_iff.1 hu).1
    simp only [List.length_take, List.length_drop, List.length_map] at this
    omega
  rw [List.getElem?_take_of_lt hj, List.getElem?_drop] at hu
  have := hx (k + j) u hu
  rwa [← Nat.add_assoc] at this
set_option maxRecDepth 100000 in
set_option maxHeartbeats 1000000 in
theorem rtext_any {S : Nat → Prop} {w : World} {g : Nat} {A : Option Addr} {c : Nat} {r : Rr} (h : RrIn S w g A c r) (most : Int) (hmm : 0 ≤ most ∧ most ≤ 100000) : Calls Tryd.prog 61 #[.pointer (some ⟨g, 0, none⟩), .int .i64 most] w fun e w' => e = .returned (.string (r.text most).1) ∧ Upd (fun k => k = g) w w' ∧ RrIn S w' g A c ((r.text most).2) := by
  have H := hid h
  have kb := h.blk
  have x0 := kb.cell 0
  have x1 := kb.cell 1
  have x2 := kb.cell 2
  have x3 := kb.cell 3
  have x4 := kb.cell 4
  simp only [List.getElem?_toArray, List.getElem?_cons_zero, List.getElem?_cons_succ] at x0 x1 x2 x3 x4
  have fz := fun q => kb.frozen q
  have hlt := kb.lt
  have hln : (r.b.length : Int) ≤ 140737488351232 := by have := h.len; omega
  have hat0 : (r.at_ : Int) ≤ (r.b.length : Int) := by have := h.at_le; omega
  have hatN := h.at_le
  have hm := hid hmm
  clear hmm
  by_cases he : r.e = 0
  · have t1 : (r.e == 0) = true := by simpa using he
    have t2 : (r.e != 0) = false := by simpa using he
    rcases Decidable.em (c = r.at_) with hca | hca
    · have hnu := hid (rnumber_any S _ (c - r.at_) (r.b.drop r.at_) w.drew (Rd.tail h.row.drew h.at_le h.cap) (by rw [List.length_drop]; have := h.len; omega) (fun x hx => h.byt x (List.mem_of_mem_drop hx)))
      rw [← num_drop, List.length_drop] at hnu
      rw [if_pos hca, hca, Nat.sub_self] at hnu
      subst hca
      cases hnv : num r.b r.at_ with
      | inl nk =>
        obtain ⟨n, k⟩ := nk
        have := num_lt hnv
        have := num_pos hnv
        have := h.cap
        omega
      | inr er =>
        rw [hnv] at hnu
        have hne : er ≠ 0 := num_ne hnv
        have z1 : (er == 0) = false := by simpa using hne
        have z2 : (er != 0) = true := by simpa using hne
        have hby : Hid (r.text most = (⟨#[]⟩, r.fails er)) := hid (by unfold Rr.text; rw [if_neg (by omega), hnv])
        rw [show numV (.inr er) = .tuple #[.int .u64 0, .int .i64 0, .int .i64 er] from rfl] at hnu
        clear h he kb hatN hnv hne
        go_enter Tryd.func61, Tryd.ntmps61
        go_upto_region 3 with fail
        go_region_held3 (fun w' => w'.cell? ⟨g, 0, none⟩ = some (.slice A r.b.length r.at_) ∧ w'.cell? ⟨g, 1, none⟩ = some (.int .i64 (r.at_ : Nat))) (first | exact ⟨x0, x1⟩ | exact ⟨y0, y1⟩)
          ((go_at_call 86
            refine hnu.out.mono ?_
            rintro e w2 ⟨rfl, hb0⟩
            have hb2 := hid ((Below.refl w.heap.size w).drew.trans hb0)
            have hr2 := hid (H.out.below_all hb2.out)
            have y0 := hr2.out.blk.cell 0
            have y1 := hr2.out.blk.cell 1
            simp only [List.getElem?_toArray, List.getElem?_cons_zero, List.getElem?_cons_succ] at y0 y1
            clear hb0))
        clear x0 x1 x2 x3 x4 fz hlt y0 y1
        go_upto_region 6 with fail
        have kb := hr2.out.blk
        have x0 := kb.cell 0
        have x1 := kb.cell 1
        have x2 := kb.cell 2
        have x3 := kb.cell 3
        have x4 := kb.cell 4
        simp only [List.getElem?_toArray, List.getElem?_cons_zero, List.getElem?_cons_succ] at x0 x1 x2 x3 x4
        have fz := fun q => kb.frozen q
        have hlt := kb.lt
        clear kb
        go_quiet (fail)
        go_wp2_with fail
        refine (rfails_any (hr2.out.drewN _) er).mono ?_
        rintro e w3 ⟨rfl, hu0, hr0⟩
        have hu3 := hid hu0; have hr3 := hid hr0
        clear hu0 hr0
        go_wp2_with fail
        go_ret
        rw [hby.out]
        exact ⟨rfl, ((Upd.of_below (M := fun k => k = g) hb2.out fun k hk hk' => absurd hk (by omega)).drewN _).trans hu3.out fun _ _ h => h, hr3.out⟩
    · have hnu := hid (rnumber_any S _ (c - r.at_) (r.b.drop r.at_) w.drew (Rd.tail h.row.drew h.at_le h.cap) (by rw [List.length_drop]; have := h.len; omega) (fun x hx => h.byt x (List.mem_of_mem_drop hx)))
      rw [← num_drop, List.length_drop] at hnu
      rw [if_neg hca] at hnu
      cases hnv : num r.b r.at_ with
      | inl nk =>
        obtain ⟨n, k⟩ := nk
        obtain ⟨hn1, hn2, hn3⟩ := num_lt hnv
        rw [hnv] at hnu
        rw [show numV (.inl (n, k)) = .tuple #[.int .u64 (n : Nat), .int .i64 (k : Nat), .int .i64 0] from rfl] at hnu
        have hn3' := hid hn3
        have fm : IntKind.u64.wrap most = most := by have := hm.out; rw [IntKind.wrap_u64]; omega
        have m0 : ¬ most < 0 := by have := hm.out; omega
        have hl2 := h.len
        have hc2 := h.cap
        have g1 : IntKind.i64.wrap ((r.b.length : Int) - (r.at_ : Int)) = (r.b.length : Int) - (r.at_ : Int) := by rw [IntKind.wrap_i64]; omega
        have g2 : IntKind.i64.wrap ((r.b.length : Int) - (r.at_ : Int) - (k : Int)) = (r.b.length : Int) - (r.at_ : Int) - (k : Int) := by rw [IntKind.wrap_i64]; omega
        have g3 : IntKind.u64.wrap ((r.b.length : Int) - (r.at_ : Int) - (k : Int)) = (r.b.length : Int) - (r.at_ : Int) - (k : Int) := by rw [IntKind.wrap_u64]; omega
        by_cases hmn : most < (n : Int)
        · have hby : Hid (r.text most = (⟨#[]⟩, r.fails 1)) := hid (by unfold Rr.text; rw [if_neg (by omega), hnv]; simp only; rw [if_pos (.inr hmn)])
          clear h he kb hatN hnv hn1 hn2 hn3
          clear hl2 hc2
          go_enter Tryd.func61, Tryd.ntmps61
          go_upto_region 3 with fail
          go_region_held3 (fun w' => w'.cell? ⟨g, 0, none⟩ = some (.slice A r.b.length c) ∧ w'.cell? ⟨g, 1, none⟩ = some (.int .i64 (r.at_ : Nat))) (first | exact ⟨x0, x1⟩ | exact ⟨y0, y1⟩)
            ((go_at_call 86
              refine hnu.out.mono ?_
              rintro e w2 ⟨rfl, hb0⟩
              have hb2 := hid ((Below.refl w.heap.size w).drew.trans hb0)
              have hr2 := hid (H.out.below_all hb2.out)
              have y0 := hr2.out.blk.cell 0
              have y1 := hr2.out.blk.cell 1
              simp only [List.getElem?_toArray, List.getElem?_cons_zero, List.getElem?_cons_succ] at y0 y1
              clear hb0))
          clear x0 x1 x2 x3 x4 fz hlt y0 y1
          go_upto_region 6 with fail
          have kb := hr2.out.blk
          have x0 := kb.cell 0
          have x1 := kb.cell 1
          have x2 := kb.cell 2
          have x3 := kb.cell 3
          have x4 := kb.cell 4
          simp only [List.getElem?_toArray, List.getElem?_cons_zero, List.getElem?_cons_succ] at x0 x1 x2 x3 x4
          have fz := fun q => kb.frozen q
          have hlt := kb.lt
          clear kb
          go_quiet (fail)
          go_wp2_with fail
          refine (rfails_any (hr2.out.drewN _) 1).mono ?_
          rintro e w3 ⟨rfl, hu0, hr0⟩
          have hu3 := hid hu0; have hr3 := hid hr0
          clear hu0 hr0
          go_wp2_with fail
          go_ret
          rw [hby.out]
          exact ⟨rfl, ((Upd.of_below (M := fun k => k = g) hb2.out fun k hk hk' => absurd hk (by omega)).drewN _).trans hu3.out fun _ _ h => h, hr3.out⟩
        · have fn : IntKind.i64.wrap (n : Int) = (n : Int) := by have := hm.out; rw [IntKind.wrap_i64]; omega
          by_cases hsh : r.b.length < r.at_ + k + n
          · have i3 : (r.b.length : Int) - (r.at_ : Int) - (k : Int) < (n : Int) := by omega
            have hby : Hid (r.text most = (⟨#[]⟩, r.fails 3)) := hid (by unfold Rr.text; rw [if_neg (by omega), hnv]; simp only; rw [if_neg (by omega), if_pos hsh])
            clear h he kb hatN hnv hn1 hn2 hn3
            clear hl2 hc2 hsh
            go_enter Tryd.func61, Tryd.ntmps61
            go_upto_region 3 with fail
            go_region_held3 (fun w' => w'.cell? ⟨g, 0, none⟩ = some (.slice A r.b.length c) ∧ w'.cell? ⟨g, 1, none⟩ = some (.int .i64 (r.at_ : Nat))) (first | exact ⟨x0, x1⟩ | exact ⟨y0, y1⟩)
              ((go_at_call 86
                refine hnu.out.mono ?_
                rintro e w2 ⟨rfl, hb0⟩
                have hb2 := hid ((Below.refl w.heap.size w).drew.trans hb0)
                have hr2 := hid (H.out.below_all hb2.out)
                have y0 := hr2.out.blk.cell 0
                have y1 := hr2.out.blk.cell 1
                simp only [List.getElem?_toArray, List.getElem?_cons_zero, List.getElem?_cons_succ] at y0 y1
                clear hb0))
            clear x0 x1 x2 x3 x4 fz hlt y0 y1
            go_upto_region 6 with fail
            have kb := hr2.out.blk
            have x0 := kb.cell 0
            have x1 := kb.cell 1
            have x2 := kb.cell 2
            have x3 := kb.cell 3
            have x4 := kb.cell 4
            simp only [List.getElem?_toArray, List.getElem?_cons_zero, List.getElem?_cons_succ] at x0 x1 x2 x3 x4
            have fz := fun q => kb.frozen q
            have hlt := kb.lt
            clear kb
            go_quiet (fail)
            go_wp2_with fail
            refine (rfails_any (hr2.out.drewN _) 3).mono ?_
            rintro e w3 ⟨rfl, hu0, hr0⟩
            have hu3 := hid hu0; have hr3 := hid hr0
            clear hu0 hr0
            go_wp2_with fail
            go_ret
            rw [hby.out]
            exact ⟨rfl, ((Upd.of_below (M := fun k => k = g) hb2.out fun k hk hk' => absurd hk (by omega)).drewN _).trans hu3.out fun _ _ h => h, hr3.out⟩
          · have i3 : ¬ ((r.b.length : Int) - (r.at_ : Int) - (k : Int) < (n : Int)) := by omega
            have hle : r.at_ + k + n ≤ r.b.length := by omega
            obtain ⟨P, hP⟩ : ∃ P, P = r.at_ + k := ⟨_, rfl⟩
            obtain ⟨W, hW⟩ : ∃ W, W = bt ((r.b.drop P).take n) := ⟨_, rfl⟩
            obtain ⟨E, hE⟩ : ∃ E, E = P + n := ⟨_, rfl⟩
            obtain ⟨T, hT⟩ : ∃ T, T = k + n := ⟨_, rfl⟩
            have hby : Hid (r.text most = (W, r.took T)) := hid (by unfold Rr.text; rw [if_neg (by omega), hnv]; simp only; rw [if_neg (by omega), if_neg (by omega), hW, hT, hP])
            have q1 : IntKind.i64.wrap ((r.at_ : Int) + (k : Int)) = (P : Int) := by rw [IntKind.wrap_i64]; omega
            have q2 : IntKind.i64.wrap ((P : Int) + (n : Int)) = (E : Int) := by rw [IntKind.wrap_i64]; omega
            have q3 : IntKind.i64.wrap ((k : Int) + (n : Int)) = (T : Int) := by rw [IntKind.wrap_i64]; omega
            have q4 : E - P = n := by omega
            have u1 : P ≤ E := by omega
            have u1' : (P : Int) ≤ (E : Int) := by omega
            have u2 : E ≤ c := by omega
            have u2' : (E : Int) ≤ (c : Int) := by omega
            have hcv := hid (fun (W' : World) (hr : RrIn S W' g A c r) => hW ▸ convB (c := c - P) (Rd.part (c := c) (k := P) (n := n) hr.row (by omega) hc2) (by rw [List.length_take, List.length_drop]; omega))
            have htk := hid (fun (W' : World) (hr : RrIn S W' g A c r) => rtook_any hr T (by omega))
            clear h he kb hatN hnv hn1 hn2 hn3
            clear hl2 hc2 hsh hW hln hle hP hE hT
            rcases Decidable.em (c = P) with hcb | hcb
            · rw [if_pos hcb, hcb, Nat.sub_self] at hcv
              subst hcb
              go_enter Tryd.func61, Tryd.ntmps61
              go_upto_region 3 with fail
              go_region_held3 (fun w' => w'.cell? ⟨g, 0, none⟩ = some (.slice A r.b.length c) ∧ w'.cell? ⟨g, 1, none⟩ = some (.int .i64 (r.at_ : Nat))) (first | exact ⟨x0, x1⟩ | exact ⟨y0, y1⟩)
                ((go_at_call 86
                  refine hnu.out.mono ?_
                  rintro e w2 ⟨rfl, hb0⟩
                  have hb2 := hid ((Below.refl w.heap.size w).drew.trans hb0)
                  have hr2 := hid (H.out.below_all hb2.out)
                  have y0 := hr2.out.blk.cell 0
                  have y1 := hr2.out.blk.cell 1
                  simp only [List.getElem?_toArray, List.getElem?_cons_zero, List.getElem?_cons_succ] at y0 y1
                  clear hb0))
              clear x0 x1 x2 x3 x4 fz hlt y0 y1
              go_upto_region 6 with fail
              have kb := hr2.out.blk
              have x0 := kb.cell 0
              have x1 := kb.cell 1
              have x2 := kb.cell 2
              have x3 := kb.cell 3
              have x4 := kb.cell 4
              simp only [List.getElem?_toArray, List.getElem?_cons_zero, List.getElem?_cons_succ] at x0 x1 x2 x3 x4
              have fz := fun q => kb.frozen q
              have hlt := kb.lt
              clear kb
              go_quiet (fail)
              have hu40 := (Upd.of_below (M := fun k => k = g) hb2.out fun k hk hk' => absurd hk (by omega)).drewN nq
              have hr4 := hid (hr2.out.drewN nq)
              have hu4 := hid hu40
              clear hu40
              generalize w2.drewN nq = w4 at *
              clear x0 x1 x2 x3 x4 fz hlt hr2 hb2
              have kb := hr4.out.blk
              have x0 := kb.cell 0
              have x1 := kb.cell 1
              have x2 := kb.cell 2
              have x3 := kb.cell 3
              have x4 := kb.cell 4
              simp only [List.getElem?_toArray, List.getElem?_cons_zero, List.getElem?_cons_succ] at x0 x1 x2 x3 x4
              have fz := fun q => kb.frozen q
              have hlt := kb.lt
              clear kb
              go_upto_region 11 with fail
              have hcx := fun j => hcv.out _ (hr4.out.drewN j)
              clear hcv
              go_quiet (fail)
              go_wp2_with fail
              refine (htk.out _ (hr4.out.drewN _)).mono ?_
              rintro e w3 ⟨rfl, hu0, hr0⟩
              have hu3 := hid hu0; have hr3 := hid hr0
              clear hu0 hr0
              go_wp2_with fail
              go_ret
              rw [hby.out]
              exact ⟨rfl, (hu4.out.drewN _).trans hu3.out fun _ _ h => h, hr3.out⟩
            · rw [if_neg hcb] at hcv
              go_enter Tryd.func61, Tryd.ntmps61
              go_upto_region 3 with fail
              go_region_held3 (fun w' => w'.cell? ⟨g, 0, none⟩ = some (.slice A r.b.length c) ∧ w'.cell? ⟨g, 1, none⟩ = some (.int .i64 (r.at_ : Nat))) (first | exact ⟨x0, x1⟩ | exact ⟨y0, y1⟩)
                ((go_at_call 86
                  refine hnu.out.mono ?_
                  rintro e w2 ⟨rfl, hb0⟩
                  have hb2 := hid ((Below.refl w.heap.size w).drew.trans hb0)
                  have hr2 := hid (H.out.below_all hb2.out)
                  have y0 := hr2.out.blk.cell 0
                  have y1 := hr2.out.blk.cell 1
                  simp only [List.getElem?_toArray, List.getElem?_cons_zero, List.getElem?_cons_succ] at y0 y1
                  clear hb0))
              clear x0 x1 x2 x3 x4 fz hlt y0 y1
              go_upto_region 6 with fail
              have kb := hr2.out.blk
              have x0 := kb.cell 0
              have x1 := kb.cell 1
              have x2 := kb.cell 2
              have x3 := kb.cell 3
              have x4 := kb.cell 4
              simp only [List.getElem?_toArray, List.getElem?_cons_zero, List.getElem?_cons_succ] at x0 x1 x2 x3 x4
              have fz := fun q => kb.frozen q
              have hlt := kb.lt
              clear kb
              go_quiet (fail)
              have hu40 := (Upd.of_below (M := fun k => k = g) hb2.out fun k hk hk' => absurd hk (by omega)).drewN nq
              have hr4 := hid (hr2.out.drewN nq)
              have hu4 := hid hu40
              clear hu40
              generalize w2.drewN nq = w4 at *
              clear x0 x1 x2 x3 x4 fz hlt hr2 hb2
              have kb := hr4.out.blk
              have x0 := kb.cell 0
              have x1 := kb.cell 1
              have x2 := kb.cell 2
              have x3 := kb.cell 3
              have x4 := kb.cell 4
              simp only [List.getElem?_toArray, List.getElem?_cons_zero, List.getElem?_cons_succ] at x0 x1 x2 x3 x4
              have fz := fun q => kb.frozen q
              have hlt := kb.lt
              clear kb
              go_upto_region 11 with fail
              have hcx := fun j => hcv.out _ (hr4.out.drewN j)
              clear hcv
              go_quiet (fail)
              go_wp2_with fail
              refine (htk.out _ (hr4.out.drewN _)).mono ?_
              rintro e w3 ⟨rfl, hu0, hr0⟩
              have hu3 := hid hu0; have hr3 := hid hr0
              clear hu0 hr0
              go_wp2_with fail
              go_ret
              rw [hby.out]
              exact ⟨rfl, (hu4.out.drewN _).trans hu3.out fun _ _ h => h, hr3.out⟩
      | inr er =>
        rw [hnv] at hnu
        have hne : er ≠ 0 := num_ne hnv
        have z1 : (er == 0) = false := by simpa using hne
        have z2 : (er != 0) = true := by simpa using hne
        have hby : Hid (r.text most = (⟨#[]⟩, r.fails er)) := hid (by unfold Rr.text; rw [if_neg (by omega), hnv])
        rw [show numV (.inr er) = .tuple #[.int .u64 0, .int .i64 0, .int .i64 er] from rfl] at hnu
        clear h he kb hatN hnv hne
        go_enter Tryd.func61, Tryd.ntmps61
        go_upto_region 3 with fail
        go_region_held3 (fun w' => w'.cell? ⟨g, 0, none⟩ = some (.slice A r.b.length c) ∧ w'.cell? ⟨g, 1, none⟩ = some (.int .i64 (r.at_ : Nat))) (first | exact ⟨x0, x1⟩ | exact ⟨y0, y1⟩)
          ((go_at_call 86
            refine hnu.out.mono ?_
            rintro e w2 ⟨rfl, hb0⟩
            have hb2 := hid ((Below.refl w.heap.size w).drew.trans hb0)
            have hr2 := hid (H.out.below_all hb2.out)
            have y0 := hr2.out.blk.cell 0
            have y1 := hr2.out.blk.cell 1
            simp only [List.getElem?_toArray, List.getElem?_cons_zero, List.getElem?_cons_succ] at y0 y1
            clear hb0))
        clear x0 x1 x2 x3 x4 fz hlt y0 y1
        go_upto_region 6 with fail
        have kb := hr2.out.blk
        have x0 := kb.cell 0
        have x1 := kb.cell 1
        have x2 := kb.cell 2
        have x3 := kb.cell 3
        have x4 := kb.cell 4
        simp only [List.getElem?_toArray, List.getElem?_cons_zero, List.getElem?_cons_succ] at x0 x1 x2 x3 x4
        have fz := fun q => kb.frozen q
        have hlt := kb.lt
        clear kb
        go_quiet (fail)
        go_wp2_with fail
        refine (rfails_any (hr2.out.drewN _) er).mono ?_
        rintro e w3 ⟨rfl, hu0, hr0⟩
        have hu3 := hid hu0; have hr3 := hid hr0
        clear hu0 hr0
        go_wp2_with fail
        go_ret
        rw [hby.out]
        exact ⟨rfl, ((Upd.of_below (M := fun k => k = g) hb2.out fun k hk hk' => absurd hk (by omega)).drewN _).trans hu3.out fun _ _ h => h, hr3.out⟩
  · have t1 : (r.e == 0) = false := by simpa using he
    have t2 : (r.e != 0) = true := by simpa using he
    have hby : Hid (r.text most = (⟨#[]⟩, r)) := hid (by unfold Rr.text; rw [if_pos he])
    generalize r.e = re at *
    clear h he kb hat0 hln hatN
    go_enter Tryd.func61, Tryd.ntmps61
    go_wp2_with fail
    go_ret
    rw [hby.out]
    exact ⟨rfl, Upd.refl _ _, H.out⟩

end Go.Proofs.YtbnpidmlcjofiaaDoor

