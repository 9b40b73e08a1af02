/- A batch in lists of its own. -/
import Derived.Test.YtlnlffpkdeaimaaEPlan
import Derived.Deep.RegionHeld3
import Derived.Deep.RegionLaw
namespace Go.Proofs.Ytlnlffpkdeaimaa
open Go.RowKit

section
variable {P : Program} (w : World)
theorem step_append_rd {ops : Array Oper} {o : Oper} {a : Act} {K : Act → World → Prop} {Q : Exit → Act → World → Prop} {E : Prop} (hgd : o.guard = none) (s x : Operand) (t : TypeId)
    (ho : o.op = .call { callee := .builtin .append, args := #[s, x], argTypes := #[t, t] })
    (base : Nat) (e : TypeId) (i : TypeInfo) (z : Value) (size bytes : Nat) (ht : P.underlying t = some (.slice e)) (hi : P.info? e = some i) (hz : i.zero = some z)
    (hsize : i.size = size) (hby : i.bytes = bytes) (hzs : z.cells.size = size) (hsz : 0 < size)
    (v : Value) (n : Nat) (xs : List Value) (hs : a.eval s = v) (hown : w.ownsRow base e size v n xs)
    (S : Nat → Prop) (A : Option Addr) (m c : Nat) (news : List Value) (hx : a.eval x = .slice A m c) (hr : Rd S w size A m news) (h1 : ∀ u ∈ news, u.oneCell' = true)
    (h63 : n + m ≤ maxLen) (hbytes : (n + m) * bytes ≤ 140737488355328) (hbase : base ≤ w.heap.size) (N : Nat) (hN : n + m = N) (ys : List Value) (hys : xs ++ news = ys)
    (h : ∀ A' c' w', w'.ownsRow base e size (.slice A' N c') N ys → w.grownBy w' v.ownBlock → ((Value.slice A' N c').ownBlock = v.ownBlock ∨ (Value.slice A' N c').ownBlock = some w.heap.size) → K (a.put o.dst (.slice A' N c')) w') :
    if Region.wanted o (yielded ops a.tmps) = true then Oper.wp P o a w K Q else E := by
  have hw : Region.wanted o (yielded ops a.tmps) = true := by simp [Region.wanted, hgd]
  rw [if_pos hw]
  exact wp_append_rd w s x t ho base e i z size bytes ht hi hz hsize hby hzs hsz v n xs hs hown S A m c news hx hr h1 h63 hbytes hbase (fun v' w' h2 h3 h4 => by
    subst hN; subst hys
    obtain ⟨A', c', rfl, _, _⟩ := own_form h2
    exact h A' c' w' h2 h3 h4)
end
/-- a block just laid reads -/
theorem Rd.new (w : World) (e : TypeId) (size n : Nat) (cs : Array Value) (g : Nat) (hg : g = w.heap.size) (hn : cs.size = n * size) : Rd (fun b => b = g) (w.alloc (.cells cs e)) size (some ⟨g, 0, none⟩) n cs.toList := by
  subst hg
  refine ⟨by simpa using hn, fun _ => ⟨_, 0, rfl, rfl, by simp, fun j u hu => ?_⟩⟩
  rw [Nat.zero_add, (Blk.new w e cs).cell j]
  simpa using hu

theorem own_type_ne {w : World} {base base' : Nat} {e e' : TypeId} {size size' n n' : Nat} {v v' : Value} {xs xs' : List Value} (h : w.ownsRow base e size v n xs) (h' : w.ownsRow base' e' size' v' n' xs') (hne : e ≠ e') : v.ownBlock = none ∨ v.ownBlock ≠ v'.ownBlock := by
  rcases h.2 with ⟨rfl, _⟩ | ⟨g, cap, cur, rfl, _, hh, _⟩
  · left; rfl
  · right
    rcases h'.2 with ⟨rfl, _⟩ | ⟨g', cap', cur', rfl, _, hh', _⟩
    · simp [Value.ownBlock]
    · simp only [Value.ownBlock, ne_eq, Option.some.injEq]
      rintro rfl
      rw [hh] at hh'
      injection hh' with hh'
      injection hh' with _ ht
      exact hne ht
theorem RP.own.alloc {base : Nat} {w : World} {r : RP} (h : r.own base w) (o : Obj) : r.own base (w.alloc o) := ⟨h.args.alloc o, h.rd.alloc o, h.wr.alloc o⟩
theorem RP.own.setBelow {base : Nat} {w : World} {r : RP} (h : r.own base w) {a : Addr} (ha : a.block < base) (u : Value) : r.own base (w.setCell a u) :=
  ⟨ownsRow_setCell_below h.args ha u, ownsRow_setCell_below h.rd ha u, ownsRow_setCell_below h.wr ha u⟩
/-- an append onto a row of plans does not touch a plan's own lists -/
theorem RP.own.kept {base base' : Nat} {w w' : World} {r : RP} {v : Value} {n : Nat} {xs : List Value} (h : r.own base w) (hg : w.grownBy w' v.ownBlock) (hv : w.ownsRow base' 71 7 v n xs) : r.own base w' :=
  ⟨h.args.kept hg (own_type_ne h.args hv (by decide)), h.rd.kept hg (own_type_ne h.rd hv (by decide)), h.wr.kept hg (own_type_ne h.wr hv (by decide))⟩
/-- plans in a row and lists of the call's own -/
structure PlansOwn (base : Nat) (w : World) (A : Option Addr) (c : Nat) (rs : List RP) : Prop where
  row : w.ownsRow base 71 7 (.slice A rs.length c) rs.length (pcells rs)
  ok : ∀ r ∈ rs, r.own base w
theorem PlansOwn.below {base : Nat} {w w' : World} {A : Option Addr} {c : Nat} {rs : List RP} (h : PlansOwn base w A c rs) (hb : Below w.heap.size w w') : PlansOwn base w' A c rs := ⟨own_below h.row hb, fun r hr => (h.ok r hr).below hb⟩
theorem PlansOwn.base {base base' : Nat} {w : World} {A : Option Addr} {c : Nat} {rs : List RP} (hb : base' ≤ base) (h : PlansOwn base w A c rs) : PlansOwn base' w A c rs := ⟨own_base hb h.row, fun r hr => (h.ok r hr).base hb⟩
theorem PlansOwn.ok' {base : Nat} {w : World} {A : Option Addr} {c : Nat} {rs : List RP} (h : PlansOwn base w A c rs) : PlansOk (fun b => base ≤ b) w A rs := ⟨Rd.of_own' h.row, fun r hr => (h.ok r hr).ok⟩

theorem cells_one (r : RP) : ∀ u ∈ r.cells, u.oneCell' = true := by
  intro u hu
  simp only [RP.cells, List.mem_cons, List.not_mem_nil, or_false] at hu
  rcases hu with h | h | h | h | h | h | h <;> subst h <;> rfl
/-- k plans of a batch have been copied -/
structure OwnRel (w : World) (x : Int) (A : Option Addr) (c : Nat) (rs : List RP) (k : Nat) (wr : World) (A' : Option Addr) (c' : Nat) (rs' : List RP) : Prop where
  le : k ≤ rs.length
  len : rs'.length = k
  eq : plans rs' = plans (rs.take k)
  below : Below w.heap.size w wr
  box : Blk wr w.heap.size 34 #[.int .i64 x, .slice A rs.length c]
  res : Blk wr (w.heap.size + 1) 34 #[.int .i64 0, .slice none 0 0]
  o : Blk wr (w.heap.size + 1 + 1) 34 #[.int .i64 x, .slice A' k c']
  own : PlansOwn (w.heap.size + 3) wr A' c' rs'

set_option maxRecDepth 100000 in
set_option maxHeartbeats 1000000 in
theorem own_any (S : Nat → Prop) (A : Option Addr) (x : Int) (c : Nat) (rs : List RP) (w : World) (ha : PlansOk S w A rs) (hl : rs.length ≤ 1000000000) (hf : ∀ r ∈ rs, r.p.fits) :
    Calls Try.prog 12 #[.agg #[.int .i64 x, .slice A rs.length c]] w
      fun e w' => ∃ A' c' rs', (plans rs' = plans rs ∧ e = .returned (.agg #[.int .i64 x, .slice A' rs'.length c'])) ∧ PlansOwn w.heap.size w' A' c' rs' ∧ Below w.heap.size w w' := by
  obtain ⟨ip, hip, hp0, hp1, hp2⟩ := info_parts info_cloneP_any
  go_enter Try.func12, Try.ntmps12
  go_wp2_with fail
  go_loopw [4] (fun i wr => ∃ (k : Nat) (A' : Option Addr) (c' : Nat) (rs' : List RP), i = .int .i64 k ∧ OwnRel w x A c rs k wr A' c' rs') (fun i _ => rs.length - (intOf i).toNat)
  case atStart =>
    refine ⟨0, none, 0, [], rfl, ⟨by omega, rfl, rfl, ?_, ?_, ?_, ?_, ⟨World.ownsRow_nil _ _ _ _, by simp⟩⟩⟩
    · exact (((Below.refl w.heap.size w).alloc (Nat.le_refl _) _).alloc (by simp) _).alloc (by simp; omega) _
    · exact ((Blk.new _ _ _).alloc _).alloc _
    · exact (Blk.new' _ _ _ (by simp)).alloc _
    · exact Blk.new' _ _ _ (by simp)
  case round =>
    obtain ⟨k, A', c', rs', rfl, R⟩ := hrel
    have b1 := R.box.cell 1
    have b2 := R.o.cell 1
    have b0 := R.o.cell 0
    have b4 := R.o.frozen 1
    simp at b1 b2 b0
    have hk := R.le
    by_cases hlt : k < rs.length
    · obtain ⟨b, o, rfl, _, hb0, r0, a0, a1, a2, a3, a4, a5, a6⟩ := ha.at_ hlt
      have f1 := hf _ (List.getElem_mem hlt)
      have i1 : (k : Int) < (rs.length : Int) := by omega
      have hz : w.heap.size + 1 + 1 < wr.heap.size := R.o.lt
      have r1 := r0.below R.below
      have own0 := R.own
      have g0 : ∀ j v, w.cell? ⟨b, j, none⟩ = some v → wr.cell? ⟨b, j, none⟩ = some v := fun j v hv => (R.below.cell (p := ⟨b, j, none⟩) hb0).trans hv
      have d0 := g0 _ _ a0
      have d1 := g0 _ _ a1
      have d2 := g0 _ _ a2
      have d3 := g0 _ _ a3
      have d4 := g0 _ _ a4
      have d5 := g0 _ _ a5
      have d6 := g0 _ _ a6
      clear g0
      have hB := R.below
      have hlen := hid R.len
      have heq := hid R.eq
      have kbox := R.box
      have kres := R.res
      have ko := R.o
      clear R ha hf a0 a1 a2 a3 a4 a5 a6 r0
      go_wp2_with fail
      go_region_law
        (first
          | (go_simp; go_at_call 32; refine (eplan_any S rs[k] _ ?_ f1).mono ?_; (exact ⟨r1.args, r1.rd, r1.wr⟩); rintro e w1 ⟨r', ⟨hp0, rfl⟩, hown1, hb1⟩; have hp := hid hp0; clear hp0; have hq1 : Below (w.heap.size + 3) wr w1 := ((Below.refl _ wr).drew).trans (hb1.mono (by simp; omega)); have hk1 := (hq1.cell (p := ⟨w.heap.size + 1 + 1, 1, none⟩) (by simp)).trans b2; have hz1 : w.heap.size + 1 + 1 < w1.heap.size := Nat.lt_of_lt_of_le hz hq1.size)
          | (refine step_append_rd _ rfl (.tmp 16) (.tmp 23) 32 rfl (w.heap.size + 3) 71 ip _ 7 112 Try.underlying32 hip hp0 hp1 hp2 rfl (by omega) (.slice A' k c') k (pcells rs') rfl ?_ (fun b => b = w1.heap.size) (some ⟨w1.heap.size, 0, none⟩) 1 1 r'.cells rfl ?_ ?_ ?_ ?_ ?_ (k + 1) rfl (pcells rs' ++ r'.cells) rfl ?_
             · exact (own_below (hlen.out ▸ own0.row : World.ownsRow wr.drew _ _ _ (.slice A' k c') k (pcells rs')) hb1).alloc _
             · exact Rd.new w1 71 7 1 r'.cells.toArray _ rfl rfl
             · exact cells_one r'
             · simp only [maxLen]; omega
             · omega
             · have := hq1.size; simp; omega
             intro A2 c2 w2 hown2 hg2 hat2
             have hrow2 : ∀ g, (Value.slice A' k c').ownBlock = some g → w.heap.size + 3 ≤ g := fun g hg => (World.ownsRow.lt (hlen.out ▸ own0.row : World.ownsRow wr _ _ _ (.slice A' k c') k (pcells rs')) g hg).1
             have hq2 : Below (w.heap.size + 3) wr w2 := (hq1.alloc (by have := hq1.size; omega) _).grown hg2 (by have := hq1.size; simp; omega) hrow2
             have hfz : w2.frozen? ⟨w.heap.size + 1 + 1, 1, none⟩ = false := (hq2.frozen (p := ⟨w.heap.size + 1 + 1, 1, none⟩) (by simp)).trans b4
             have hk2 := (hq2.cell (p := ⟨w.heap.size + 1 + 1, 1, none⟩) (by simp)).trans b2
             have hrow2 := hid hrow2))
      all_goals
        have hz2 : w.heap.size + 1 + 1 < w2.heap.size := Nat.lt_of_lt_of_le hz hq2.size
        go_wp2_with fail
        go_roundw
        case rel =>
          refine ⟨k + 1, A2, c2, rs' ++ [r'], by go_num, ⟨by omega, by simp [hlen.out], ?_, ?_, ?_, ?_, ?_, ?_⟩⟩
          · rw [List.take_succ_eq_append_getElem hlt]
            simp only [plans, List.map_append, List.map_cons, List.map_nil] at heq ⊢
            rw [hp.out, ← heq.out]
          · exact (hB.trans (hq2.mono (by omega))).setCell (by simp <;> omega) _
          · exact (kbox.below hq2 (by omega)).far (by simp <;> omega) _
          · exact (kres.below hq2 (by omega)).far (by simp <;> omega) _
          · exact (ko.below hq2 (by omega)).set_ 1 _
          · refine ⟨?_, ?_⟩
            · have e1 : (rs' ++ [r']).length = k + 1 := by simp [hlen.out]
              rw [e1, pcells_app]
              have e2 : pcells [r'] = r'.cells := by simp [pcells]
              rw [e2]
              exact ownsRow_setCell_below hown2 (by simp) _
            · have hrow1 := (own_below (hlen.out ▸ own0.row : World.ownsRow wr.drew _ _ _ (.slice A' k c') k (pcells rs')) hb1).alloc (.cells #[.int .i64 r'.p.cl, .int .u64 r'.p.tok, .string r'.p.nm, .slice r'.A1 r'.p.args.length r'.c1, .int .i64 r'.p.how, .slice r'.A2 r'.p.rd.length r'.c2, .slice r'.A3 r'.p.wr.length r'.c3] 71)
              intro r hr
              rcases List.mem_append.1 hr with hr | hr
              · exact (RP.own.kept ((RP.own.below (w := wr.drew) ⟨(own0.ok r hr).args, (own0.ok r hr).rd, (own0.ok r hr).wr⟩ hb1).alloc _) hg2 hrow1).setBelow (by simp) _
              · obtain rfl : r = r' := by simpa using hr
                exact (RP.own.kept ((hown1.base (by simp; omega)).alloc _) hg2 hrow1).setBelow (by simp) _
        case measure => simp [intOf]; omega
    · obtain rfl : k = rs.length := by omega
      have b5 := R.res.cell 0
      have b6 := R.res.cell 1
      have b7 := R.res.frozen
      simp at b5 b6
      go_wp2_with fail
      have hrs : plans rs' = plans rs := by rw [R.eq, List.take_length]
      have hln : rs'.length = rs.length := R.len
      rw [← R.len]
      refine bodyPost_ret (v := .agg #[.int .i64 x, .slice A' rs'.length c']) ?_ rfl ?_
      · simp [results, Try.results12, go_sem, b5, b6]
      · refine ⟨A', c', rs', ⟨hrs, rfl⟩, ?_, ?_⟩
        · refine PlansOwn.base (base := w.heap.size + 3) (by omega) ⟨?_, ?_⟩
          · repeat' (refine ownsRow_setCell_below ?_ (by simp) _)
            exact R.own.row
          · intro r hr
            repeat' (refine RP.own.setBelow ?_ (by simp) _)
            exact R.own.ok r hr
        · repeat' (refine Below.setCell ?_ (by simp) _)
          exact R.below

end Go.Proofs.Ytlnlffpkdeaimaa
