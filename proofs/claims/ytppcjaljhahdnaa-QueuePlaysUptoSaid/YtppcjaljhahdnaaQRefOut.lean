/- The document's queue: out, Out, Take, Clear, Cancel. -/
import Derived.Test.YtppcjaljhahdnaaQRef
import Derived.Deep.RegionLaw
import Derived.Deep.DeepCutAuto
namespace Go.Proofs.Ytppcjaljhahdnaa
open Go.RowKit
set_option linter.unusedVariables false
set_option linter.unusedSimpArgs false

/-- a plan goes out of the midst -/
theorem pcells_take (L : List RP) (m : Nat) : (pcells L).take (m * 7) = pcells (L.take m) := by
  induction L generalizing m with
  | nil => simp [pcells]
  | cons p l ih =>
    cases m with
    | zero => simp [pcells]
    | succ m =>
      have := ih m
      simp only [pcells, List.flatMap_cons, List.take_succ_cons] at this ⊢
      rw [show (m + 1) * 7 = (p.cells).length + m * 7 by simp [RP.cells]; omega, List.take_length_add_append, this]
theorem pcells_drop (L : List RP) (m : Nat) : (pcells L).drop (m * 7) = pcells (L.drop m) := by
  induction L generalizing m with
  | nil => simp [pcells]
  | cons p l ih =>
    cases m with
    | zero => simp
    | succ m =>
      have := ih m
      simp only [pcells, List.flatMap_cons, List.drop_succ_cons] at this ⊢
      rw [show (m + 1) * 7 = (p.cells).length + m * 7 by simp [RP.cells]; omega, List.drop_length_add_append, this]
theorem Rd.preP {S : Nat → Prop} {w : World} {b o : Nat} {L : List RP} (h : Rd S w 7 (some ⟨b, o, none⟩) L.length (pcells L)) (m : Nat) (hm : m ≤ L.length) : Rd S w 7 (some ⟨b, o, none⟩) m (pcells (L.take m)) := by
  rw [← pcells_take]
  refine ⟨by rw [List.length_take, h.1]; omega, fun h0 => ?_⟩
  obtain ⟨b', o', e, hS, hl, hc⟩ := h.2 (by omega)
  refine ⟨b', o', e, hS, hl, fun j u hu => hc j u ?_⟩
  rw [List.getElem?_take] at hu
  split at hu
  · exact hu
  · cases hu
theorem Rd.sufP {S : Nat → Prop} {w : World} {b o c : Nat} {L : List RP} (h : Rd S w 7 (some ⟨b, o, none⟩) L.length (pcells L)) (m : Nat) (hc : ¬ c = m) (hL : L.length ≤ c) : Rd S w 7 (some ⟨b, o + m * 7, none⟩) (L.length - m) (pcells (L.drop m)) := by
  rw [← pcells_drop]
  refine ⟨by rw [List.length_drop, h.1, Nat.sub_mul], fun h0 => ?_⟩
  obtain ⟨b', o', e, hS, hl, hcc⟩ := h.2 (by omega)
  injection e with e
  injection e with e1 e2 _
  subst e1; subst e2
  refine ⟨b, o + m * 7, rfl, hS, hl, fun j u hu => ?_⟩
  rw [List.getElem?_drop] at hu
  have := hcc _ u hu
  rwa [← Nat.add_assoc] at this

/-- the document's queue goes on -/
def RGone (S : Nat → Prop) (w : World) (g : Nat) (mt sh wn : Int) (L' : List Pl) (T : Int → List Int) (w' : World) : Prop :=
  ∃ S', RAt S' w' g mt sh wn L' T ∧ (∀ k, S' k → S k ∨ w.heap.size ≤ k) ∧ Upd S w w'
/-- the plans lie in a row of their own anew -/
theorem RIn.rowed {S : Nat → Prop} {w w1 : World} {g bt : Nat} {mt sh wn : Int} {A : Option Addr} {c : Nat} {rs : List RP} {tv : Nat → Value} {T : Int → List Int} (q : RIn S w g bt mt sh wn A c rs tv T) (hb : Below w.heap.size w w1) {A' : Option Addr} {c' n' : Nat} {rs' : List RP}
    (hrow : w1.ownsRow w.heap.size 40 7 (.slice A' n' c') n' (pcells rs')) (hn : n' = rs'.length) (hsub : ∀ r ∈ rs', r ∈ rs) (hlen : rs'.length ≤ rs.length) :
    RIn (fun k => S k ∨ w.heap.size ≤ k ∧ k < w1.heap.size) (w1.setCell ⟨g, 3, none⟩ (.slice A' n' c')) g bt mt sh wn A' c' rs' tv T ∧ Upd (fun k => k = g) w (w1.setCell ⟨g, 3, none⟩ (.slice A' n' c')) := by
  subst hn
  have hg := q.blk.lt
  have hu : Upd (fun k => k = g) w (w1.setCell ⟨g, 3, none⟩ (.slice A' rs'.length c')) := (Upd.of_below' hb (fun k => k = g)).setCell (p := ⟨g, 3, none⟩) (fun _ => rfl) _
  have hrow2 := ownsRow_setCell_below hrow (a := ⟨g, 3, none⟩) hg (.slice A' rs'.length c')
  have hblk : Blk (w1.setCell ⟨g, 3, none⟩ (.slice A' rs'.length c')) g 76 #[.int .i64 mt, .int .i64 sh, .int .i64 wn, .slice A' rs'.length c', .slice (some ⟨bt, 0, none⟩) 64 64] := (q.blk.below_all hb).set_ 3 _
  have hsz : (w1.setCell ⟨g, 3, none⟩ (.slice A' rs'.length c')).heap.size = w1.heap.size := by simp
  obtain ⟨cs, hbt, hc⟩ := q.tks
  have hgb : bt ≠ g := hbt.ne_ q.blk (by decide)
  generalize w1.setCell ⟨g, 3, none⟩ (.slice A' rs'.length c') = w' at *
  have hS' : ∀ k, S k → S k ∨ w.heap.size ≤ k ∧ k < w1.heap.size := fun k h => .inl h
  have hk : ∀ (e : TypeId) b cs, e ≠ 76 → Blk w b e cs → w'.heap[b]? = w.heap[b]? := fun e b cs he hb' => hu.block b hb'.lt fun h => q.blk.ne_ hb' he.symm h.symm
  refine ⟨⟨hblk, ⟨cs, hbt.upd hu hgb, hc⟩, ⟨⟨own_base (Nat.zero_le _) hrow2, fun b hb' => ?_⟩, fun r hr => ?_⟩, fun k h => ⟨(q.tok k h).1.keep fun b cs _ hb' => hk _ b cs (by decide) hb', fun b hb' => .inl ((q.tok k h).2 b hb')⟩, q.out, ⟨.inl q.inS.1, .inl q.inS.2⟩, fun k h => ?_, q.mt1, q.wn1, by have := q.len; omega, q.tlen, fun r hr => q.fits r (hsub r hr)⟩, hu⟩
  · have := hrow.lt b hb'
    exact .inr this
  · have h := q.pls.ok r (hsub r hr)
    exact ⟨(h.args.keepT fun b cs hb' => hk _ b cs (by decide) hb').more' hS', (h.rd.keepT fun b cs hb' => hk _ b cs (by decide) hb').more' hS', (h.wr.keepT fun b cs hb' => hk _ b cs (by decide) hb').more' hS'⟩
  · rcases h with h | h
    · have := q.lt k h; have := hb.size; omega
    · omega
theorem RIn.gone {S : Nat → Prop} {w w1 : World} {g bt : Nat} {mt sh wn : Int} {A : Option Addr} {c : Nat} {rs : List RP} {tv : Nat → Value} {T : Int → List Int} (q : RIn S w g bt mt sh wn A c rs tv T) (hb : Below w.heap.size w w1) {A' : Option Addr} {c' n' : Nat} {rs' : List RP}
    (hrow : w1.ownsRow w.heap.size 40 7 (.slice A' n' c') n' (pcells rs')) (hn : n' = rs'.length) (hsub : ∀ r ∈ rs', r ∈ rs) (hlen : rs'.length ≤ rs.length) {L' : List Pl} (hL : plans rs' = L') :
    RGone S w g mt sh wn L' T (w1.setCell ⟨g, 3, none⟩ (.slice A' n' c')) := by
  obtain ⟨h1, h2⟩ := q.rowed hb hrow hn hsub hlen
  exact ⟨_, ⟨_, _, _, _, _, h1, hL⟩, fun k h => h.imp id (·.1), h2.mono fun k _ h => h ▸ q.inS.1⟩
section
variable {S : Nat → Prop} {w : World} {g : Nat} {mt sh wn : Int} {L : List Pl} {T : Int → List Int}

set_option maxRecDepth 100000 in
set_option maxHeartbeats 2000000 in
theorem rout_any (m : Nat) (h : RAt S w g mt sh wn L T) (hm : m < L.length) : Calls Try.prog 57 #[.pointer (some ⟨g, 0, none⟩), .int .i64 m] w fun e w' => e = .returned (.tuple #[]) ∧ RGone S w g mt sh wn (L.take m ++ L.drop (m + 1)) T w' := by
  obtain ⟨bt, A, cL, rs, tv, q, rfl⟩ := h
  obtain ⟨c0, c1, c2, c3, c4⟩ := q.cells
  have hm' : m < rs.length := by simpa [plans] using hm
  have hfin : ∀ A3 c3' w3, Below w.heap.size w w3 → w3.ownsRow w.heap.size 40 7 (.slice A3 (rs.length - 1) c3') (rs.length - 1) (pcells (rs.take m ++ rs.drop (m + 1))) → RGone S w g mt sh wn ((plans rs).take m ++ (plans rs).drop (m + 1)) T (w3.setCell ⟨g, 3, none⟩ (.slice A3 (rs.length - 1) c3')) := by
    intro A3 c3' w3 hb ho
    have hl1 : (rs.take m ++ rs.drop (m + 1)).length = rs.length - 1 := by simp; omega
    refine q.gone hb ho hl1.symm (fun r hr => ?_) (by omega) (plans_out rs m)
    rcases List.mem_append.1 hr with h | h
    · exact List.mem_of_mem_take h
    · exact List.mem_of_mem_drop h
  have hfin := hid hfin
  have hcap := q.pls.row.1
  have hl1 := q.len
  have hl2 := q.mt1
  have qg := q.blk.frozen 3
  have hg2 := q.blk.lt
  have hrd := q.pls.row.rd
  obtain ⟨b, o, rfl, hSb, hbl, _⟩ := q.pls.ok'.at_ hm'
  have hpre := hrd.preP m (by omega)
  have hsuf := hid hrd
  obtain ⟨ip, hip, hp0, hp1, hp2⟩ := info_parts info_cloneP_any
  have i4 : rs.length ≤ cL := by obtain ⟨_, _, hq, h1, _⟩ := own_form hcap; simp at hq; omega
  have i2 : m ≤ cL := by omega
  have i3 : m + 1 ≤ rs.length := by omega
  have hw1 : IntKind.i64.wrap ((m : Int) + 1) = (m : Int) + 1 := IntWalk.i64_in _ (by omega)
  have j1 : (0 : Int) ≤ (m : Int) + 1 := by omega
  have j2 : (m : Int) + 1 ≤ (rs.length : Int) := by omega
  clear q hcap hm hrd c0 c1 c2 c4
  go_enter Try.func57, Try.ntmps57
  by_cases hcc : cL = m + 1
  · obtain rfl := hcc
    have i5 : rs.length ≤ m + 1 := i4
    have j3 : (m : Int) ≤ (m : Int) + 1 := by omega
    have j4 : m ≤ m + 1 := by omega
    go_upto_region 0 with fail
    go_region_law
      (first
        | (refine step_append_rd _ rfl (.tmp 5) (.tmp 11) 65 rfl w.heap.size 40 ip _ 7 112 Try.underlying65 hip hp0 hp1 hp2 rfl (by omega) (.slice (some ⟨w.heap.size, 0, none⟩) 0 0) 0 [] rfl ?_ S (some ⟨b, o, none⟩) m (m + 1) (pcells (rs.take m)) rfl ?_ ?_ ?_ ?_ ?_ m (Nat.zero_add m) (pcells (rs.take m)) rfl ?_
           go_must (
             · exact World.ownsRow.drew (own_empty w _ 7)
             · exact (hpre.alloc _).drew
             · exact pcells_one _
             · simp only [maxLen]; omega
             · omega
             · simp
             intro A2 c2 w2 hown2 hg2' hat2
             have hb2' : Below w.heap.size w w2 := (((Below.refl _ w).alloc (Nat.le_refl _) (.cells #[] 40)).drew).grown hg2' (by simp) fun k hk => Nat.le_of_eq (by simpa [Value.ownBlock] using hk)
             have G3 : w2.cell? ⟨g, 3, none⟩ = some (.slice (some ⟨b, o, none⟩) rs.length (m + 1)) := (hb2'.cell (p := ⟨g, 3, none⟩) hg2).trans c3
             have hb2 := hid hb2'
             clear hg2' hb2'))
        | (refine step_append_rd w2 rfl (.tmp 12) (.tmp 19) 65 rfl w.heap.size 40 ip _ 7 112 Try.underlying65 hip hp0 hp1 hp2 rfl (by omega) (.slice A2 m c2) m (pcells (rs.take m)) rfl ?_ S (some ⟨b, o, none⟩) 0 0 (pcells (rs.drop (m + 1))) rfl ?_ ?_ ?_ ?_ ?_ (rs.length - 1) (by omega) (pcells (rs.take m) ++ pcells (rs.drop (m + 1))) rfl ?_
           go_must (
             · exact hown2
             · exact ⟨by rw [List.drop_eq_nil_of_le (by omega)]; rfl, fun h => absurd h (by omega)⟩
             · exact pcells_one _
             · simp only [maxLen]; omega
             · omega
             · exact hb2.out.size
             intro A3 c3' w3 hown3 hg3 hat3
             have hb3' : Below w.heap.size w w3 := hb2.out.grown hg3 hb2.out.size fun k hk => (hown2.lt k hk).1
             have G4 : w3.cell? ⟨g, 3, none⟩ = some (.slice (some ⟨b, o, none⟩) rs.length (m + 1)) := (hb3'.cell (p := ⟨g, 3, none⟩) hg2).trans c3
             have Q4 : w3.frozen? ⟨g, 3, none⟩ = false := (hb3'.frozen (p := ⟨g, 3, none⟩) hg2).trans qg
             have hb3 := hid hb3'
             clear hb3')))
    all_goals
      go_wp2_with fail
      go_end0
      refine ⟨rfl, hfin.out _ _ _ hb3.out (by rw [← pcells_app] at hown3; exact hown3)⟩
  · go_upto_region 0 with fail
    go_region_law
      (first
        | (refine step_append_rd _ rfl (.tmp 5) (.tmp 11) 65 rfl w.heap.size 40 ip _ 7 112 Try.underlying65 hip hp0 hp1 hp2 rfl (by omega) (.slice (some ⟨w.heap.size, 0, none⟩) 0 0) 0 [] rfl ?_ S (some ⟨b, o, none⟩) m cL (pcells (rs.take m)) rfl ?_ ?_ ?_ ?_ ?_ m (Nat.zero_add m) (pcells (rs.take m)) rfl ?_
           go_must (
             · exact World.ownsRow.drew (own_empty w _ 7)
             · exact (hpre.alloc _).drew
             · exact pcells_one _
             · simp only [maxLen]; omega
             · omega
             · simp
             intro A2 c2 w2 hown2 hg2' hat2
             have hb2' : Below w.heap.size w w2 := (((Below.refl _ w).alloc (Nat.le_refl _) (.cells #[] 40)).drew).grown hg2' (by simp) fun k hk => Nat.le_of_eq (by simpa [Value.ownBlock] using hk)
             have G3 : w2.cell? ⟨g, 3, none⟩ = some (.slice (some ⟨b, o, none⟩) rs.length cL) := (hb2'.cell (p := ⟨g, 3, none⟩) hg2).trans c3
             have hb2 := hid hb2'
             clear hg2' hb2'))
        | (refine step_append_rd w2 rfl (.tmp 12) (.tmp 19) 65 rfl w.heap.size 40 ip _ 7 112 Try.underlying65 hip hp0 hp1 hp2 rfl (by omega) (.slice A2 m c2) m (pcells (rs.take m)) rfl ?_ S (some ⟨b, o + (m + 1) * 7, none⟩) (rs.length - (m + 1)) (cL - (m + 1)) (pcells (rs.drop (m + 1))) rfl ?_ ?_ ?_ ?_ ?_ (rs.length - 1) (by omega) (pcells (rs.take m) ++ pcells (rs.drop (m + 1))) rfl ?_
           go_must (
             · exact hown2
             · exact (hsuf.out.below_all hb2.out).sufP (m + 1) hcc i4
             · exact pcells_one _
             · simp only [maxLen]; omega
             · omega
             · exact hb2.out.size
             intro A3 c3' w3 hown3 hg3 hat3
             have hb3' : Below w.heap.size w w3 := hb2.out.grown hg3 hb2.out.size fun k hk => (hown2.lt k hk).1
             have G4 : w3.cell? ⟨g, 3, none⟩ = some (.slice (some ⟨b, o, none⟩) rs.length cL) := (hb3'.cell (p := ⟨g, 3, none⟩) hg2).trans c3
             have Q4 : w3.frozen? ⟨g, 3, none⟩ = false := (hb3'.frozen (p := ⟨g, 3, none⟩) hg2).trans qg
             have hb3 := hid hb3'
             clear hb3')))
    all_goals
      go_wp2_with fail
      go_end0
      refine ⟨rfl, hfin.out _ _ _ hb3.out (by rw [← pcells_app] at hown3; exact hown3)⟩

/-- a plan has gone out of the document's queue -/
def ROutPlan (S : Nat → Prop) (w : World) (g : Nat) (mt sh wn : Int) (p : Pl) (L' : List Pl) (T : Int → List Int) (e : Ending) (w' : World) : Prop :=
  ∃ r : RP, (r.p = p ∧ e = .returned (.tuple #[.agg #[.int .i64 r.p.cl, .int .u64 r.p.tok, .string r.p.nm, .slice r.A1 r.p.args.length r.c1, .int .i64 r.p.how, .slice r.A2 r.p.rd.length r.c2, .slice r.A3 r.p.wr.length r.c3], .bool true])) ∧ r.own w.heap.size w' ∧ RGone S w g mt sh wn L' T w'
set_option maxHeartbeats 1000000 in
theorem routN (i : Int) (h : RAt S w g mt sh wn L T) (hi : i < 0 ∨ (L.length : Int) ≤ i) : Calls Try.prog 46 #[.pointer (some ⟨g, 0, none⟩), .int .i64 i] w (NoPlan w) := by
  have hg : g < w.heap.size := by
    exact h.lt.1 g h.lt.2
  have h1 := h.below ((Below.refl _ _).alloc (Nat.le_refl _) (.cells #[.int .i64 0, .int .u64 0, .string ⟨#[]⟩, .slice none 0 0, .int .i64 0, .slice none 0 0, .slice none 0 0] 40))
  go_enter Try.func46, Try.ntmps46
  go_wp2_with fail
  refine (rat_no i h1 hi).mono ?_
  rintro e w1 ⟨rfl, hb1⟩
  have kr : Blk w1 w.heap.size 40 #[.int .i64 0, .int .u64 0, .string ⟨#[]⟩, .slice none 0 0, .int .i64 0, .slice none 0 0, .slice none 0 0] := (Blk.new _ _ _).below_all hb1
  have hz := kr.lt
  have q1 := fun j => kr.frozen j
  have z0 := kr.cell 0
  have z1 := kr.cell 1
  have z2 := kr.cell 2
  have z3 := kr.cell 3
  have z4 := kr.cell 4
  have z5 := kr.cell 5
  have z6 := kr.cell 6
  simp at z0 z1 z2 z3 z4 z5 z6
  have kp : Blk (w1.alloc (.cells #[.int .i64 0, .int .u64 0, .string ⟨#[]⟩, .slice none 0 0, .int .i64 0, .slice none 0 0, .slice none 0 0] 40)) w1.heap.size 40 #[.int .i64 0, .int .u64 0, .string ⟨#[]⟩, .slice none 0 0, .int .i64 0, .slice none 0 0, .slice none 0 0] := Blk.new _ _ _
  have y1 := fun j => kp.frozen j
  have y0 := kp.cell 0
  have y1 := kp.cell 1
  have y2 := kp.cell 2
  have y3 := kp.cell 3
  have y4 := kp.cell 4
  have y5 := kp.cell 5
  have y6 := kp.cell 6
  simp at y0 y1 y2 y3 y4 y5 y6
  go_wp2_with fail
  refine bodyPost_ret (v := .tuple #[.agg #[.int .i64 0, .int .u64 0, .string ⟨#[]⟩, .slice none 0 0, .int .i64 0, .slice none 0 0, .slice none 0 0], .bool false]) (by simp [results, Try.results46, go_sem, z0, z1, z2, z3, z4, z5, z6, hz, Nat.ne_of_lt hz, Nat.ne_of_gt hz]) rfl ⟨rfl, ?_⟩
  refine Below.alloc ?_ (by simp; omega) _
  iterate 7 (refine Below.setCell ?_ (by simp) _)
  exact ((Below.refl w.heap.size w).alloc (Nat.le_refl _) _).trans (hb1.mono (by simp))
set_option maxRecDepth 100000 in
set_option maxHeartbeats 1000000 in
theorem routY (i : Nat) (h : RAt S w g mt sh wn L T) (hi : i < L.length) : Calls Try.prog 46 #[.pointer (some ⟨g, 0, none⟩), .int .i64 i] w (ROutPlan S w g mt sh wn L[i] (L.take i ++ L.drop (i + 1)) T) := by
  obtain ⟨hSlt, hSg⟩ := h.lt
  have h1 := h.below ((Below.refl _ _).alloc (Nat.le_refl _) (.cells #[.int .i64 0, .int .u64 0, .string ⟨#[]⟩, .slice none 0 0, .int .i64 0, .slice none 0 0, .slice none 0 0] 40))
  go_enter Try.func46, Try.ntmps46
  go_wp2_with fail
  refine (rat_yes i h1 hi).mono ?_
  rintro e w1 ⟨r', ⟨hp0, rfl⟩, hown, hb1⟩
  have hp1 := hid hp0
  clear hp0
  have hB1 : Below w.heap.size w w1 := ((Below.refl _ _).alloc (Nat.le_refl _) _).trans (hb1.mono (by simp))
  have kr : Blk w1 w.heap.size 40 #[.int .i64 0, .int .u64 0, .string ⟨#[]⟩, .slice none 0 0, .int .i64 0, .slice none 0 0, .slice none 0 0] := (Blk.new _ _ _).below_all hb1
  have h2 := (h1.below hb1).below ((Below.refl _ _).alloc (Nat.le_refl _) (.cells #[.int .i64 r'.p.cl, .int .u64 r'.p.tok, .string r'.p.nm, .slice r'.A1 r'.p.args.length r'.c1, .int .i64 r'.p.how, .slice r'.A2 r'.p.rd.length r'.c2, .slice r'.A3 r'.p.wr.length r'.c3] 40))
  have hown : r'.own (w.heap.size + 1) w1 := hown.base (by simp)
  clear h1 hb1
  go_wp2_with fail
  refine (rout_any i h2 hi).mono ?_
  rintro e w2 ⟨rfl, S3, h3, hS3, hu3⟩
  have hz1 := hB1.size
  have hrlt := kr.lt
  have kr2 := (kr.alloc (.cells #[.int .i64 r'.p.cl, .int .u64 r'.p.tok, .string r'.p.nm, .slice r'.A1 r'.p.args.length r'.c1, .int .i64 r'.p.how, .slice r'.A2 r'.p.rd.length r'.c2, .slice r'.A3 r'.p.wr.length r'.c3] 40)).upd hu3 fun hS => by have := hSlt _ hS; omega
  have kp2 := (Blk.new w1 40 #[.int .i64 r'.p.cl, .int .u64 r'.p.tok, .string r'.p.nm, .slice r'.A1 r'.p.args.length r'.c1, .int .i64 r'.p.how, .slice r'.A2 r'.p.rd.length r'.c2, .slice r'.A3 r'.p.wr.length r'.c3]).upd hu3 fun hS => by have := hSlt _ hS; omega
  have hown2 := RP.own.upd (w := w1.alloc (.cells #[.int .i64 r'.p.cl, .int .u64 r'.p.tok, .string r'.p.nm, .slice r'.A1 r'.p.args.length r'.c1, .int .i64 r'.p.how, .slice r'.A2 r'.p.rd.length r'.c2, .slice r'.A3 r'.p.wr.length r'.c3] 40)) ⟨hown.args.alloc _, hown.rd.alloc _, hown.wr.alloc _⟩ hu3 fun k hk _ hS => by have := hSlt k hS; omega
  have hU : Upd S w w2 := ((Upd.of_below' hB1 S).alloc _).trans hu3 fun _ _ h => h
  have hz2 := kr2.lt
  have hp2lt := kp2.lt
  have q1 := fun j => kr2.frozen j
  have q2 := fun j => kp2.frozen j
  have z0 := kr2.cell 0
  have z1 := kr2.cell 1
  have z2 := kr2.cell 2
  have z3 := kr2.cell 3
  have z4 := kr2.cell 4
  have z5 := kr2.cell 5
  have z6 := kr2.cell 6
  have y0 := kp2.cell 0
  have y1 := kp2.cell 1
  have y2 := kp2.cell 2
  have y3 := kp2.cell 3
  have y4 := kp2.cell 4
  have y5 := kp2.cell 5
  have y6 := kp2.cell 6
  simp at z0 z1 z2 z3 z4 z5 z6 y0 y1 y2 y3 y4 y5 y6
  clear h2 kr kr2 kp2 hown hu3
  go_wp2_with fail
  refine bodyPost_ret (v := .tuple #[.agg #[.int .i64 r'.p.cl, .int .u64 r'.p.tok, .string r'.p.nm, .slice r'.A1 r'.p.args.length r'.c1, .int .i64 r'.p.how, .slice r'.A2 r'.p.rd.length r'.c2, .slice r'.A3 r'.p.wr.length r'.c3], .bool true]) (by simp [results, Try.results46, go_sem, z0, z1, z2, z3, z4, z5, z6]) rfl ⟨r', ⟨hp1.out, rfl⟩, ?_, S3, ?_, ?_, ?_⟩
  · refine RP.own.base (base := w.heap.size + 1) ?_ (by omega)
    refine ⟨?_, ?_, ?_⟩
    · iterate 7 (refine ownsRow_setCell_below ?_ (by simp) _)
      exact hown2.args
    · iterate 7 (refine ownsRow_setCell_below ?_ (by simp) _)
      exact hown2.rd
    · iterate 7 (refine ownsRow_setCell_below ?_ (by simp) _)
      exact hown2.wr
  · refine h3.far (M := fun k => k = w.heap.size) ?_ (fun k hk e => by
      rcases hS3 k hk with h | h
      · have := hSlt k h; omega
      · simp at h; omega)
    iterate 7 (refine Upd.setCell ?_ (by intro _; rfl) _)
    exact Upd.refl _ _
  · intro k hk
    rcases hS3 k hk with h | h
    · exact .inl h
    · exact .inr (by simp at h; omega)
  · iterate 7 (refine Upd.setCell ?_ (by intro hk; simp at hk) _)
    exact hU
set_option maxHeartbeats 1000000 in
theorem rtake_no (h : RAt S w g mt sh wn L T) (hL : L.length = 0) : Calls Try.prog 42 #[.pointer (some ⟨g, 0, none⟩)] w (NoPlan w) := by
  have hg : g < w.heap.size := by
    exact h.lt.1 g h.lt.2
  have h1 := h.below ((Below.refl _ _).alloc (Nat.le_refl _) (.cells #[.int .i64 0, .int .u64 0, .string ⟨#[]⟩, .slice none 0 0, .int .i64 0, .slice none 0 0, .slice none 0 0] 40))
  go_enter Try.func42, Try.ntmps42
  go_wp2_with fail
  refine (routN 0 h1 (.inr (by omega))).mono ?_
  rintro e w1 ⟨rfl, hb1⟩
  have kr : Blk w1 w.heap.size 40 #[.int .i64 0, .int .u64 0, .string ⟨#[]⟩, .slice none 0 0, .int .i64 0, .slice none 0 0, .slice none 0 0] := (Blk.new _ _ _).below_all hb1
  have hz := kr.lt
  have q1 := fun j => kr.frozen j
  have z0 := kr.cell 0
  have z1 := kr.cell 1
  have z2 := kr.cell 2
  have z3 := kr.cell 3
  have z4 := kr.cell 4
  have z5 := kr.cell 5
  have z6 := kr.cell 6
  simp at z0 z1 z2 z3 z4 z5 z6
  go_wp2_with fail
  refine bodyPost_ret (v := .tuple #[.agg #[.int .i64 0, .int .u64 0, .string ⟨#[]⟩, .slice none 0 0, .int .i64 0, .slice none 0 0, .slice none 0 0], .bool false]) (by simp [results, Try.results42, go_sem, z0, z1, z2, z3, z4, z5, z6]) rfl ⟨rfl, ?_⟩
  iterate 7 (refine Below.setCell ?_ (by simp) _)
  exact ((Below.refl _ _).alloc (Nat.le_refl _) _).trans (hb1.mono (by simp))
set_option maxRecDepth 100000 in
set_option maxHeartbeats 1000000 in
theorem rtake_yes (h : RAt S w g mt sh wn L T) (hi : 0 < L.length) : Calls Try.prog 42 #[.pointer (some ⟨g, 0, none⟩)] w (ROutPlan S w g mt sh wn L[0] (L.drop 1) T) := by
  obtain ⟨hSlt, hSg⟩ := h.lt
  have h1 := h.below ((Below.refl _ _).alloc (Nat.le_refl _) (.cells #[.int .i64 0, .int .u64 0, .string ⟨#[]⟩, .slice none 0 0, .int .i64 0, .slice none 0 0, .slice none 0 0] 40))
  go_enter Try.func42, Try.ntmps42
  go_wp2_with fail
  refine (routY 0 h1 hi).mono ?_
  rintro e w2 ⟨r', ⟨hp0, rfl⟩, hown, S3, h3, hS3, hu3⟩
  have hp1 := hid hp0
  clear hp0
  have kr2 := (Blk.new w 40 #[.int .i64 0, .int .u64 0, .string ⟨#[]⟩, .slice none 0 0, .int .i64 0, .slice none 0 0, .slice none 0 0]).upd hu3 fun hS => by have := hSlt _ hS; omega
  have hown2 : r'.own (w.heap.size + 1) w2 := hown.base (by simp)
  have hU : Upd S w w2 := ((Upd.refl S w).alloc _).trans hu3 fun _ _ h => h
  have hz2 := kr2.lt
  have q1 := fun j => kr2.frozen j
  have z0 := kr2.cell 0
  have z1 := kr2.cell 1
  have z2 := kr2.cell 2
  have z3 := kr2.cell 3
  have z4 := kr2.cell 4
  have z5 := kr2.cell 5
  have z6 := kr2.cell 6
  simp at z0 z1 z2 z3 z4 z5 z6
  clear h1 kr2 hown hu3
  go_wp2_with fail
  refine bodyPost_ret (v := .tuple #[.agg #[.int .i64 r'.p.cl, .int .u64 r'.p.tok, .string r'.p.nm, .slice r'.A1 r'.p.args.length r'.c1, .int .i64 r'.p.how, .slice r'.A2 r'.p.rd.length r'.c2, .slice r'.A3 r'.p.wr.length r'.c3], .bool true]) (by simp [results, Try.results42, go_sem, z0, z1, z2, z3, z4, z5, z6]) rfl ⟨r', ⟨hp1.out, rfl⟩, ?_, S3, ?_, ?_, ?_⟩
  · refine RP.own.base (base := w.heap.size + 1) ?_ (by omega)
    refine ⟨?_, ?_, ?_⟩
    · iterate 7 (refine ownsRow_setCell_below ?_ (by simp) _)
      exact hown2.args
    · iterate 7 (refine ownsRow_setCell_below ?_ (by simp) _)
      exact hown2.rd
    · iterate 7 (refine ownsRow_setCell_below ?_ (by simp) _)
      exact hown2.wr
  · have h4 : RAt S3 w2 g mt sh wn (L.drop 1) T := by simpa using h3
    refine h4.far (M := fun k => k = w.heap.size) ?_ (fun k hk e => by
      rcases hS3 k hk with h | h
      · have := hSlt k h; omega
      · simp at h; omega)
    iterate 7 (refine Upd.setCell ?_ (by intro _; rfl) _)
    exact Upd.refl _ _
  · intro k hk
    rcases hS3 k hk with h | h
    · exact .inl h
    · exact .inr (by simp at h; omega)
  · iterate 7 (refine Upd.setCell ?_ (by intro hk; simp at hk) _)
    exact hU
end

end Go.Proofs.Ytppcjaljhahdnaa
