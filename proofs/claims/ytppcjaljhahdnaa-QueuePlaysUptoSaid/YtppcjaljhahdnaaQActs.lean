/- A story's acts in memory; long; Take and Out in one. -/
import Derived.Test.YtppcjaljhahdnaaQLive
namespace Go.Proofs.Ytppcjaljhahdnaa
open Go.RowKit
set_option linter.unusedVariables false
set_option linter.unusedSimpArgs false

/-- an act -/
structure QA where
  kind : Int
  r : RP
  i : Int
  cl : Int
  tok : Int
def qcells (a : QA) : List Value := [.int .i64 a.kind, .int .i64 a.r.p.cl, .int .u64 a.r.p.tok, .string a.r.p.nm, .slice a.r.A1 a.r.p.args.length a.r.c1, .int .i64 a.r.p.how, .slice a.r.A2 a.r.p.rd.length a.r.c2, .slice a.r.A3 a.r.p.wr.length a.r.c3, .int .i64 a.i, .int .i64 a.cl, .int .u64 a.tok]
structure QActs (S : Nat → Prop) (w : World) (A : Option Addr) (us : List QA) : Prop where
  row : Rd S w 11 A us.length (us.flatMap qcells)
  ok : ∀ a ∈ us, a.r.ok S w
theorem QActs.keep {S : Nat → Prop} {w w' : World} {A : Option Addr} {us : List QA} (h : QActs S w A us) (hk : ∀ b, S b → b < w.heap.size → w'.heap[b]? = w.heap[b]?) : QActs S w' A us := ⟨h.row.keep hk, fun a ha => (h.ok a ha).keep hk⟩
theorem QActs.below {S : Nat → Prop} {w w' : World} {A : Option Addr} {us : List QA} (h : QActs S w A us) (hb : Below w.heap.size w w') : QActs S w' A us := h.keep fun b _ hl => hb.block b hl
theorem aflat_at {α : Type} (f : α → List Value) (sz : Nat) (hf : ∀ a, (f a).length = sz) (l : List α) (k j : Nat) (h : k < l.length) (hj : j < sz) : (l.flatMap f)[k * sz + j]? = (f l[k])[j]? := by
  induction l generalizing k with
  | nil => simp at h
  | cons x l ih =>
    rw [List.flatMap_cons]
    cases k with
    | zero => rw [List.getElem?_append_left (by rw [hf]; omega)]; simp
    | succ k =>
      rw [List.getElem?_append_right (by rw [hf, Nat.succ_mul]; omega), hf, show (k + 1) * sz + j - sz = k * sz + j by rw [Nat.succ_mul]; omega, ih k (by simpa using h)]
      simp
theorem QActs.at_ {S : Nat → Prop} {w : World} {A : Option Addr} {us : List QA} {k : Nat} (h : QActs S w A us) (hk : k < us.length) : ∃ b o, A = some ⟨b, o, none⟩ ∧ S b ∧ b < w.heap.size ∧ us[k].r.ok S w ∧
    w.cell? ⟨b, o + k * 11, none⟩ = some (.int .i64 us[k].kind) ∧ w.cell? ⟨b, o + k * 11 + 1, none⟩ = some (.int .i64 us[k].r.p.cl) ∧ w.cell? ⟨b, o + k * 11 + 2, none⟩ = some (.int .u64 us[k].r.p.tok) ∧ w.cell? ⟨b, o + k * 11 + 3, none⟩ = some (.string us[k].r.p.nm) ∧
    w.cell? ⟨b, o + k * 11 + 4, none⟩ = some (.slice us[k].r.A1 us[k].r.p.args.length us[k].r.c1) ∧ w.cell? ⟨b, o + k * 11 + 5, none⟩ = some (.int .i64 us[k].r.p.how) ∧ w.cell? ⟨b, o + k * 11 + 6, none⟩ = some (.slice us[k].r.A2 us[k].r.p.rd.length us[k].r.c2) ∧
    w.cell? ⟨b, o + k * 11 + 7, none⟩ = some (.slice us[k].r.A3 us[k].r.p.wr.length us[k].r.c3) ∧ w.cell? ⟨b, o + k * 11 + 8, none⟩ = some (.int .i64 us[k].i) ∧ w.cell? ⟨b, o + k * 11 + 9, none⟩ = some (.int .i64 us[k].cl) ∧ w.cell? ⟨b, o + k * 11 + 10, none⟩ = some (.int .u64 us[k].tok) := by
  obtain ⟨b, o, e, hS, hl, hc⟩ := h.row.at_ hk
  have g := fun j (hj : j < 11) u (hu : (qcells us[k])[j]? = some u) => hc (k * 11 + j) u (by rw [aflat_at qcells 11 (fun _ => rfl) us k j hk hj]; exact hu)
  simp only [← Nat.add_assoc] at g
  exact ⟨b, o, e, hS, hl, h.ok _ (List.getElem_mem hk), g 0 (by omega) _ rfl, g 1 (by omega) _ rfl, g 2 (by omega) _ rfl, g 3 (by omega) _ rfl, g 4 (by omega) _ rfl, g 5 (by omega) _ rfl, g 6 (by omega) _ rfl, g 7 (by omega) _ rfl, g 8 (by omega) _ rfl, g 9 (by omega) _ rfl, g 10 (by omega) _ rfl⟩

def partQ (a : QA) : Nat := a.r.p.args.length + a.r.p.rd.length + a.r.p.wr.length
def partsQ (us : List QA) : Nat := (us.map partQ).sum
theorem partsQ_take (us : List QA) (k : Nat) (h : k < us.length) : partsQ (us.take (k + 1)) = partsQ (us.take k) + partQ us[k] := by
  unfold partsQ
  rw [List.take_succ_eq_append_getElem h, List.map_append, List.sum_append, List.map_cons, List.map_nil, List.sum_cons, List.sum_nil]
  omega
theorem sum_take_le (l : List Nat) (k : Nat) : (l.take k).sum ≤ l.sum := by
  induction l generalizing k with
  | nil => simp
  | cons a l ih =>
    cases k with
    | zero => simp
    | succ k => have := ih k; simp; omega
theorem partsQ_le (us : List QA) (k : Nat) : partsQ (us.take k) ≤ partsQ us := by
  unfold partsQ
  have := sum_take_le (us.map partQ) k
  rwa [← List.map_take] at this
/-- some bool; nothing that was there has turned -/
def SomeBool (w : World) (e : Ending) (w' : World) : Prop := ∃ b : Bool, e = .returned (.bool b) ∧ Below w.heap.size w w'

set_option maxRecDepth 100000 in
set_option maxHeartbeats 1000000 in
theorem long_any (S : Nat → Prop) (A : Option Addr) (c : Nat) (us : List QA) (m s n : Int) (w : World) (ha : QActs S w A us) (hl : us.length ≤ 100000000) (hp : partsQ us ≤ 100000000) :
    Calls Try.prog 9 #[.agg #[.int .i64 m, .int .i64 s, .int .i64 n, .slice A us.length c]] w (SomeBool w) := by
  have hp := hid hp
  go_enter Try.func9, Try.ntmps9
  go_wp2_with fail
  go_loopw [3, 4] (fun n' i wr => ∃ k : Nat, k ≤ us.length ∧ i = .int .i64 k ∧ n' = .int .i64 (partsQ (us.take k)) ∧ Below w.heap.size w wr ∧ Blk wr w.heap.size 24 #[.int .i64 m, .int .i64 s, .int .i64 n, .slice A us.length c]) (fun _ i _ => us.length - (intOf i).toNat)
  case atStart => exact ⟨0, Nat.zero_le _, rfl, by simp [partsQ], (Below.refl _ _).alloc (Nat.le_refl _) _, Blk.new _ _ _⟩
  case round =>
    obtain ⟨k, hk, rfl, rfl, hB, kb⟩ := hrel
    have b3 : wr.cell? ⟨w.heap.size, 3, none⟩ = some (.slice A us.length c) := kb.cell 3
    have hz := kb.lt
    have hle2 := partsQ_le us k
    have hp' := hp.out
    have j1 : ((partsQ (us.take k) : Nat) : Int) ≤ 100000000 := by omega
    have fin : ∀ b : Bool, SomeBool w (.returned (.bool b)) wr := fun b => ⟨b, rfl, hB⟩
    have fin := hid fin
    clear hle2 hp'
    by_cases hlt : k < us.length
    · obtain ⟨b, o, rfl, _, hbl, r1, a0, a1, a2, a3, a4, a5, a6, a7, a8, a9, a10⟩ := (ha.below hB).at_ hlt
      have i1 : (k : Int) < (us.length : Int) := by omega
      have hs := partsQ_take us k hlt
      have hle := partsQ_le us (k + 1)
      have hp' := hp.out
      have hpn : partQ us[k] = us[k].r.p.args.length + us[k].r.p.rd.length + us[k].r.p.wr.length := rfl
      have j2 : (us[k].r.p.args.length : Int) ≤ 100000000 := by omega
      have j3 : (us[k].r.p.rd.length : Int) ≤ 100000000 := by omega
      have j4 : (us[k].r.p.wr.length : Int) ≤ 100000000 := by omega
      have hfin : Hid (((partsQ (us.take (k + 1)) : Nat) : Int) = (partsQ (us.take k) : Int) + us[k].r.p.args.length + us[k].r.p.rd.length + us[k].r.p.wr.length) := by
        have : ((partsQ (us.take (k + 1)) : Nat) : Int) = (partsQ (us.take k) : Int) + us[k].r.p.args.length + us[k].r.p.rd.length + us[k].r.p.wr.length := by rw [hs, hpn]; omega
        exact hid this
      clear ha hs hle hp' hpn
      go_wp2_with fail
      go_roundw
      case rel => exact ⟨k + 1, by omega, by go_num, by rw [hfin.out], hB.alloc hB.size _, kb.alloc _⟩
      case measure => simp [intOf]; omega
    · obtain rfl : k = us.length := by omega
      go_wp2_with fail
      all_goals go_ret
      all_goals exact fin.out _

/-- what is left when the plan at a place has gone -/
def outL (L : List Pl) (i : Int) : List Pl := if 0 ≤ i ∧ i < L.length then L.take i.toNat ++ L.drop (i.toNat + 1) else L
/-- a plan, or none -/
def GonePost (S : Nat → Prop) (w : World) (g : Nat) (mt sh wn : Int) (L : List Pl) (T : Int → List Int) (i : Int) (e : Ending) (w' : World) : Prop :=
  ∃ (r : RP) (ok : Bool), e = .returned (.tuple #[.agg #[.int .i64 r.p.cl, .int .u64 r.p.tok, .string r.p.nm, .slice r.A1 r.p.args.length r.c1, .int .i64 r.p.how, .slice r.A2 r.p.rd.length r.c2, .slice r.A3 r.p.wr.length r.c3], .bool ok]) ∧
    (if 0 ≤ i ∧ i < L.length then ok = true ∧ some r.p = L[i.toNat]? else ok = false ∧ r.p = ⟨0, 0, ⟨#[]⟩, [], 0, [], []⟩) ∧ r.own w.heap.size w' ∧ QAt S w' g mt sh wn (outL L i) T ∧ Upd S w w'
def rp0 : RP := ⟨⟨0, 0, ⟨#[]⟩, [], 0, [], []⟩, none, 0, none, 0, none, 0⟩
theorem rp0_own (base : Nat) (w : World) : rp0.own base w := ⟨World.ownsRow_nil _ _ _ _, World.ownsRow_nil _ _ _ _, World.ownsRow_nil _ _ _ _⟩
section
variable {S : Nat → Prop} {w : World} {g : Nat} {mt sh wn : Int} {L : List Pl} {T : Int → List Int}
theorem outI (i : Int) (h : QAt S w g mt sh wn L T) : Calls Try.prog 17 #[.pointer (some ⟨g, 0, none⟩), .int .i64 i] w (GonePost S w g mt sh wn L T i) := by
  by_cases hi : 0 ≤ i ∧ i < (L.length : Int)
  · obtain ⟨n, rfl⟩ : ∃ n : Nat, i = (n : Int) := ⟨i.toNat, by omega⟩
    have hn : n < L.length := by omega
    refine (outY n h hn).mono ?_
    rintro e w' ⟨r, ⟨hp, rfl⟩, h1, h2, h3⟩
    refine ⟨r, true, rfl, ?_, h1, ?_, h3⟩
    · rw [if_pos hi, hp]; simp [hn]
    · unfold outL; rw [if_pos hi]; exact h2
  · refine (outN i h (by omega)).mono ?_
    rintro e w' ⟨rfl, hb⟩
    refine ⟨rp0, false, rfl, ?_, rp0_own _ _, ?_, .of_below' hb _⟩
    · rw [if_neg hi]; exact ⟨rfl, rfl⟩
    · unfold outL; rw [if_neg hi]; exact h.below hb
theorem takeI (h : QAt S w g mt sh wn L T) : Calls Try.prog 16 #[.pointer (some ⟨g, 0, none⟩)] w (GonePost S w g mt sh wn L T 0) := by
  by_cases hi : 0 < L.length
  · have hi' : (0 : Int) ≤ 0 ∧ (0 : Int) < (L.length : Int) := by omega
    refine (take_yes h hi).mono ?_
    rintro e w' ⟨r, ⟨hp, rfl⟩, h1, h2, h3⟩
    refine ⟨r, true, rfl, ?_, h1, ?_, h3⟩
    · rw [if_pos hi', hp]; simp [hi]
    · unfold outL; rw [if_pos hi']; simpa using h2
  · have hi' : ¬ ((0 : Int) ≤ 0 ∧ (0 : Int) < (L.length : Int)) := by omega
    refine (take_no h (by omega)).mono ?_
    rintro e w' ⟨rfl, hb⟩
    refine ⟨rp0, false, rfl, ?_, rp0_own _ _, ?_, .of_below' hb _⟩
    · rw [if_neg hi']; exact ⟨rfl, rfl⟩
    · unfold outL; rw [if_neg hi']; exact h.below hb
end

end Go.Proofs.Ytppcjaljhahdnaa
