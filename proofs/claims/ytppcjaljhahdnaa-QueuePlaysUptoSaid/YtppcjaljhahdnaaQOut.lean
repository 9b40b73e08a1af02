/- queue: At, First, out, Out, Take. -/
import Derived.Test.YtppcjaljhahdnaaQRead
namespace Go.Proofs.Ytppcjaljhahdnaa
open Go.RowKit
set_option linter.unusedVariables false
set_option linter.unusedSimpArgs false

theorem OwnS.keepT {S : Nat → Prop} {w w' : World} {e : TypeId} {size n : Nat} {v : Value} {xs : List Value} (h : OwnS S w e size v n xs) (hk : ∀ b cs, Blk w b e cs → w'.heap[b]? = w.heap[b]?) : OwnS S w' e size v n xs := by
  refine ⟨⟨h.1.1, ?_⟩, h.2⟩
  rcases h.1.2 with hn | ⟨g, cap, cur, rfl, hg, hh, rest⟩
  · exact .inl hn
  · exact .inr ⟨g, cap, cur, rfl, hg, (hk g cur hh).trans hh, rest⟩
theorem own_formS {w : World} {base : Nat} {e : TypeId} {size n : Nat} {A : Option Addr} {c : Nat} {xs : List Value} (h : w.ownsRow base e size (.slice A n c) n xs) (hn : 0 < n) : ∃ g cur, A = some ⟨g, 0, none⟩ ∧ Blk w g e cur := by
  rcases h.2 with ⟨h0, h1⟩ | ⟨g, cap, cur, hv, _, hb, _⟩
  · omega
  · simp only [Value.slice.injEq] at hv
    exact ⟨g, cur, hv.1, hb⟩

section
variable {S : Nat → Prop} {w w' : World} {g mo ms : Nat} {mt sh wn : Int} {A : Option Addr} {c : Nat} {rs : List RP} {of : List (Int × Int)} {tk : List (Int × (Value × List Int))}
/-- what stays where the counts, the row of plans and the queue's own cells are written -/
theorem QIn.rest {M : Nat → Prop} (q : QIn S w g mo ms mt sh wn A c rs of tk) (hu : Upd M w w') (hM : ∀ k, M k → k = mo ∨ k = g ∨ ∃ cs, Blk w k 40 cs) :
    MapIs intE w' ms (tk.map fun p => (p.1, p.2.1)) ∧ (∀ r ∈ rs, r.ownS S w') ∧ (∀ t ∈ tk, TokAt w' t.2.1 t.2.2 ∧ ∀ b, t.2.1.ownBlock = some b → S b) := by
  have hT : ∀ (e : TypeId) b cs, e ≠ 40 → e ≠ 67 → Blk w b e cs → w'.heap[b]? = w.heap[b]? := by
    intro e b cs h1 h2 hb
    refine hu.block b hb.lt fun hm => ?_
    rcases hM b hm with rfl | rfl | ⟨cs', hb'⟩
    · exact q.ofm.ne_blk hb rfl
    · exact q.blk.ne_ hb h2.symm rfl
    · exact hb.ne_ hb' h1 rfl
  refine ⟨q.seen.keep (hu.block ms q.seen.lt fun hm => ?_), fun r hr => ?_, fun t ht => ?_⟩
  · rcases hM ms hm with h | h | ⟨cs', hb'⟩
    · exact q.ne h.symm
    · exact q.seen.ne_blk q.blk h
    · exact q.seen.ne_blk hb' rfl
  · exact ⟨(q.pls.ok r hr).args.keepT fun b cs hb => hT _ b cs (by decide) (by decide) hb, (q.pls.ok r hr).rd.keepT fun b cs hb => hT _ b cs (by decide) (by decide) hb, (q.pls.ok r hr).wr.keepT fun b cs hb => hT _ b cs (by decide) (by decide) hb⟩
  · exact ⟨(q.tok t ht).1.keep fun b cs _ hb => hT _ b cs (by decide) (by decide) hb, (q.tok t ht).2⟩
end

/-- a plan in lists of its own has been answered -/
def GotPlan (w : World) (p : Pl) (e : Ending) (w' : World) : Prop :=
  ∃ r : RP, (r.p = p ∧ e = .returned (.tuple #[.agg #[.int .i64 r.p.cl, .int .u64 r.p.tok, .string r.p.nm, .slice r.A1 r.p.args.length r.c1, .int .i64 r.p.how, .slice r.A2 r.p.rd.length r.c2, .slice r.A3 r.p.wr.length r.c3], .bool true])) ∧ r.own w.heap.size w' ∧ Below w.heap.size w w'
def NoPlan (w : World) (e : Ending) (w' : World) : Prop :=
  e = .returned (.tuple #[.agg #[.int .i64 0, .int .u64 0, .string ⟨#[]⟩, .slice none 0 0, .int .i64 0, .slice none 0 0, .slice none 0 0], .bool false]) ∧ Below w.heap.size w w'

section
variable {S : Nat → Prop} {w : World} {g : Nat} {mt sh wn : Int} {L : List Pl} {T : Int → List Int}
set_option maxHeartbeats 1000000 in
theorem at_no (i : Int) (h : QAt S w g mt sh wn L T) (hi : i < 0 ∨ (L.length : Int) ≤ i) : Calls Try.prog 27 #[.pointer (some ⟨g, 0, none⟩), .int .i64 i] w (NoPlan w) := by
  obtain ⟨mo, ms, A, c, rs, of, tk, q, rfl, hT⟩ := h
  obtain ⟨c0, c1, c2, c3, c4, c5⟩ := q.cells
  have hg := q.blk.lt
  have hl : ((plans rs).length : Int) = rs.length := by simp [plans]
  rw [hl] at hi
  clear q hT hl
  by_cases h1 : i < 0
  · clear hi
    go_enter Try.func27, Try.ntmps27
    go_wp2_with fail
    refine bodyPost_ret (v := .tuple #[.agg #[.int .i64 0, .int .u64 0, .string ⟨#[]⟩, .slice none 0 0, .int .i64 0, .slice none 0 0, .slice none 0 0], .bool false]) (by simp [results, Try.results27, go_sem]) rfl ⟨rfl, ?_⟩
    repeat' (refine Below.setCell ?_ (by simp) _)
    exact (Below.refl _ _).alloc (Nat.le_refl _) _
  · have h2 : (rs.length : Int) ≤ i := by omega
    clear hi
    go_enter Try.func27, Try.ntmps27
    go_wp2_with fail
    refine bodyPost_ret (v := .tuple #[.agg #[.int .i64 0, .int .u64 0, .string ⟨#[]⟩, .slice none 0 0, .int .i64 0, .slice none 0 0, .slice none 0 0], .bool false]) (by simp [results, Try.results27, go_sem]) rfl ⟨rfl, ?_⟩
    repeat' (refine Below.setCell ?_ (by simp) _)
    exact (Below.refl _ _).alloc (Nat.le_refl _) _
set_option maxRecDepth 100000 in
set_option maxHeartbeats 1000000 in
theorem at_yes (i : Nat) (h : QAt S w g mt sh wn L T) (hi : i < L.length) : Calls Try.prog 27 #[.pointer (some ⟨g, 0, none⟩), .int .i64 i] w (GotPlan w L[i]) := by
  obtain ⟨mo, ms, A, c, rs, of, tk, q, rfl, hT⟩ := h
  obtain ⟨c0, c1, c2, c3, c4, c5⟩ := q.cells
  have hg := q.blk.lt
  have hi' : i < rs.length := by simpa [plans] using hi
  rw [show (plans rs)[i] = rs[i].p from by simp [plans]]
  have hf := q.fits _ (List.getElem_mem hi')
  obtain ⟨b, o, rfl, _, hb, r0, a0, a1, a2, a3, a4, a5, a6⟩ := q.pls.ok'.at_ hi'
  have r1 := r0.alloc (.cells #[.int .i64 0, .int .u64 0, .string ⟨#[]⟩, .slice none 0 0, .int .i64 0, .slice none 0 0, .slice none 0 0] 40)
  have i1 : (i : Int) < (rs.length : Int) := by omega
  clear q hT r0 hi
  go_enter Try.func27, Try.ntmps27
  go_wp2_with fail
  refine (own_any S rs[i] _ r1 hf).mono ?_
  rintro e w1 ⟨r', ⟨hp0, rfl⟩, hown, hb1⟩
  have hp1 := hid hp0
  clear hp0
  have kr : Blk w1 w.heap.size 40 #[.int .i64 0, .int .u64 0, .string ⟨#[]⟩, .slice none 0 0, .int .i64 0, .slice none 0 0, .slice none 0 0] := (Blk.new _ _ _).below_all hb1
  have hz := kr.lt
  have q1 := fun j => kr.frozen j
  have z0 := kr.cell 0
  have z1 := kr.cell 1
  have z2 := kr.cell 2
  have z3 := kr.cell 3
  have z4 := kr.cell 4
  have z5 := kr.cell 5
  have z6 := kr.cell 6
  simp at z0 z1 z2 z3 z4 z5 z6
  go_wp2_with fail
  refine bodyPost_ret (v := .tuple #[.agg #[.int .i64 r'.p.cl, .int .u64 r'.p.tok, .string r'.p.nm, .slice r'.A1 r'.p.args.length r'.c1, .int .i64 r'.p.how, .slice r'.A2 r'.p.rd.length r'.c2, .slice r'.A3 r'.p.wr.length r'.c3], .bool true]) (by simp [results, Try.results27, go_sem, z0, z1, z2, z3, z4, z5, z6]) rfl ⟨r', ⟨hp1.out, rfl⟩, ?_, ?_⟩
  · refine RP.own.base (base := w.heap.size + 1) ?_ (by omega)
    have hown' : r'.own (w.heap.size + 1) w1 := hown.base (by simp)
    refine ⟨?_, ?_, ?_⟩
    · repeat' (refine ownsRow_setCell_below ?_ (by simp) _)
      exact hown'.args
    · repeat' (refine ownsRow_setCell_below ?_ (by simp) _)
      exact hown'.rd
    · repeat' (refine ownsRow_setCell_below ?_ (by simp) _)
      exact hown'.wr
  · repeat' (refine Below.setCell ?_ (by simp) _)
    exact ((Below.refl _ _).alloc (Nat.le_refl _) _).trans (hb1.mono (by simp))

theorem own_upd {M : Nat → Prop} {w w' : World} {e : TypeId} {size n c : Nat} {gr : Nat} {xs : List Value} (h : w.ownsRow 0 e size (.slice (some ⟨gr, 0, none⟩) n c) n xs) (hu : Upd M w w') (hM : ¬ M gr) : w'.ownsRow 0 e size (.slice (some ⟨gr, 0, none⟩) n c) n xs := by
  refine ⟨h.1, ?_⟩
  rcases h.2 with ⟨h0, _⟩ | ⟨g, cap, cur, hv, hg, hh, rest⟩
  · cases h0
  · simp only [Value.slice.injEq, Option.some.injEq, Addr.mk.injEq, true_and, and_true] at hv
    obtain ⟨rfl, rfl⟩ := hv
    have hl : gr < w.heap.size := (Array.getElem?_eq_some_iff.1 hh).1
    exact .inr ⟨gr, c, cur, rfl, hg, (hu.block gr hl hM).trans hh, rest⟩
theorem cnt_out (x : Int) (L : List Pl) (i : Nat) (hi : i < L.length) : cnt x L = cnt x (L.take i ++ L.drop (i + 1)) + (if L[i].cl = x then 1 else 0) := by
  have e : L.take i ++ L[i] :: L.drop (i + 1) = L := by rw [List.getElem_cons_drop, List.take_append_drop]
  have e2 := congrArg (cnt x) e
  rw [← e2]
  unfold cnt
  rw [List.filter_append, List.length_append, List.filter_append, List.length_append, List.filter_cons]
  by_cases h : L[i].cl = x
  · simp [h]; omega
  · simp [h]
theorem cnt_le (x : Int) (L : List Pl) : cnt x L ≤ L.length := List.length_filter_le _ _
theorem plans_out (rs : List RP) (i : Nat) : plans (rs.take i ++ rs.drop (i + 1)) = (plans rs).take i ++ (plans rs).drop (i + 1) := by simp [plans, List.map_take, List.map_drop]

set_option maxRecDepth 100000 in
set_option maxHeartbeats 2000000 in
theorem out_any (i : Nat) (h : QAt S w g mt sh wn L T) (hi : i < L.length) : Calls Try.prog 33 #[.pointer (some ⟨g, 0, none⟩), .int .i64 i] w fun e w' => e = .returned (.tuple #[]) ∧ QAt S w' g mt sh wn (L.take i ++ L.drop (i + 1)) T ∧ Upd S w w' := by
  obtain ⟨mo, ms, A, c, rs, of, tk, q, rfl, hT⟩ := h
  obtain ⟨c0, c1, c2, c3, c4, c5⟩ := q.cells
  have hi' : i < rs.length := by simpa [plans] using hi
  have hcn := cnt_out rs[i].p.cl (plans rs) i hi
  rw [show (plans rs)[i] = rs[i].p from by simp [plans], if_pos rfl] at hcn
  have hle := cnt_le rs[i].p.cl (plans rs)
  have hlen : (plans rs).length = rs.length := by simp [plans]
  have hml := q.len
  have hmt := q.mt1
  obtain ⟨gr, cur, rfl, hgr⟩ := own_formS q.pls.row.1 (by omega)
  obtain ⟨b, o, hA, _, hb, r0, a0, _⟩ := q.pls.ok'.at_ hi'
  simp only [Option.some.injEq, Addr.mk.injEq, and_true] at hA
  obtain ⟨rfl, rfl⟩ := hA
  rw [Nat.zero_add] at a0
  obtain ⟨n, hn⟩ : ∃ n : Int, n = (cnt rs[i].p.cl ((plans rs).take i ++ (plans rs).drop (i + 1)) : Nat) := ⟨_, rfl⟩
  have n0 : 0 ≤ n := by omega
  have hlk0 : (Instr.lookup 63 (.map (some mo)) (.int .i64 rs[i].p.cl) false).run Try.prog w = .ok (.int .i64 (n + 1)) w := by
    rw [show (n + 1) = ((cnt rs[i].p.cl (plans rs) : Nat) : Int) from by omega]
    exact q.ofLook rs[i].p.cl 0
  obtain ⟨W1, hrun1, hm1, hg1, hz1⟩ := q.ofm.update Try.underlying63 rs[i].p.cl (.int .i64 n)
  have hrun1 : (Instr.mapUpdate 63 (.map (some mo)) (.int .i64 rs[i].p.cl) (.int .i64 n)).run Try.prog w = .ok () W1 := hrun1
  rw [setK_map (f := Value.int .i64)] at hm1
  have hu1 : Upd (fun k => k = mo) w W1 := (Upd.refl _ w).grown hg1 fun k hk _ => by injection hk with hk; exact hk.symm
  have hlk1 : (Instr.lookup 63 (.map (some mo)) (.int .i64 rs[i].p.cl) false).run Try.prog W1 = .ok (.int .i64 n) W1 := by
    have h1 := hm1.lookup Try.underlying63 zero_int rs[i].p.cl
    rw [getK_map (f := Value.int .i64), getA_set, if_pos rfl] at h1
    exact h1
  have hmg : mo ≠ g := q.ofm.ne_blk q.blk
  have hmr : mo ≠ gr := q.ofm.ne_blk hgr
  have hgg : g ≠ gr := q.blk.ne_ hgr (by decide)
  -- the counts afterwards
  have hfin : ∀ w' of', Upd (fun k => k = mo ∨ k = g ∨ k = gr) w w' → Blk w' g 67 #[.int .i64 mt, .int .i64 sh, .int .i64 wn, .slice (some ⟨gr, 0, none⟩) (rs.length - 1) c, .map (some mo), .map (some ms)] →
      MapIs intE w' mo (of'.map fun p => (p.1, .int .i64 p.2)) → Once of' → (∀ x, (getA x of').getD 0 = if x = rs[i].p.cl then n else (getA x of).getD 0) →
      w'.ownsRow 0 40 7 (.slice (some ⟨gr, 0, none⟩) (rs.length - 1) c) (rs.length - 1) (pcells (rs.take i ++ rs.drop (i + 1))) → QAt S w' g mt sh wn ((plans rs).take i ++ (plans rs).drop (i + 1)) T ∧ Upd S w w' := by
    intro w' of' hu hb hm ho hc hr
    obtain ⟨r1, r2, r3⟩ := q.rest hu (by rintro k (h | h | h); exact .inl h; exact .inr (.inl h); exact .inr (.inr ⟨cur, h ▸ hgr⟩))
    have hl1 : (rs.take i ++ rs.drop (i + 1)).length = rs.length - 1 := by simp; omega
    have hsub : ∀ r ∈ rs.take i ++ rs.drop (i + 1), r ∈ rs := fun r hr => by
      rcases List.mem_append.1 hr with h | h
      · exact List.mem_of_mem_take h
      · exact List.mem_of_mem_drop h
    refine ⟨⟨mo, ms, some ⟨gr, 0, none⟩, c, rs.take i ++ rs.drop (i + 1), of', tk, ⟨by rw [hl1]; exact hb, hm, r1, ⟨⟨by rw [hl1]; exact hr, fun b hb => q.pls.row.2 b (by simpa [Value.ownBlock] using hb)⟩, fun r hr => r2 r (hsub r hr)⟩, r3, q.apart, q.inS, q.ne, fun k hk => Nat.lt_of_lt_of_le (q.lt k hk) hu.size, ⟨ho, q.once.2⟩, fun x => ?_, q.mt1, q.wn1, by rw [hl1]; omega, q.tlen, fun r hr => q.fits r (hsub r hr)⟩, plans_out rs i, hT⟩, hu.mono fun k _ h => ?_⟩
    · rw [hc x, plans_out]
      by_cases hx : x = rs[i].p.cl
      · subst hx; rw [if_pos rfl]; exact hn
      · rw [if_neg hx, q.cnt x, cnt_out x (plans rs) i hi, show (plans rs)[i] = rs[i].p from by simp [plans], if_neg fun e => hx e.symm, Nat.add_zero]
    · rcases h with rfl | rfl | rfl
      · exact q.inS.2.1
      · exact q.inS.1
      · exact q.pls.row.2 k rfl
  have hfin := hid hfin
  have hrow0 := q.pls.row.1
  have hblk := q.blk
  have honce := hid q.once.1
  have hl9 : rs.length ≤ 1000000000 := by omega
  have i1 : (i : Int) < (rs.length : Int) := by omega
  have n1 : n ≤ 1024 := by omega
  have hgetS : ∀ x, (getA x (setA rs[i].p.cl n of)).getD 0 = if x = rs[i].p.cl then n else (getA x of).getD 0 := fun x => by
    rw [getA_set]; split <;> simp
  have hgetS := hid hgetS
  clear q hT hcn hle hlen hml hmt r0 hn
  by_cases hn0 : n = 0
  · subst hn0
    obtain ⟨W2, hrun2, hm2, hg2, hz2⟩ := hm1.delete (kt := 3) Try.underlying63 0 rs[i].p.cl
    rw [delK_map (f := Value.int .i64)] at hm2
    have hrun2 : (Builtin.delete_ #[63, 3] 0 #[.map (some mo), .int .i64 rs[i].p.cl]).run Try.prog W1 = .ok (.tuple #[]) W2 := hrun2
    have hu2 : Upd (fun k => k = mo) w W2 := hu1.grown hg2 fun k hk _ => by injection hk with hk; exact hk.symm
    have b1 := hblk.upd hu1 hmg.symm
    have b2 := hblk.upd hu2 hmg.symm
    have d4 : W1.cell? ⟨g, 4, none⟩ = some (.map (some mo)) := b1.cell 4
    have e3 : W2.cell? ⟨g, 3, none⟩ = some (.slice (some ⟨gr, 0, none⟩) rs.length c) := b2.cell 3
    have f3 := fun j => b2.frozen j
    have hrow2 : W2.ownsRow 0 40 7 (.slice (some ⟨gr, 0, none⟩) rs.length c) rs.length (pcells rs) := own_upd hrow0 hu2 hmr.symm
    have hlk2 := hlk1
    go_enter Try.func33, Try.ntmps33
    go_wp2_with fail
    refine (delete_any gr c i rs _ hrow2 hi' hl9).mono ?_
    rintro e W3 ⟨rfl, hrow3, hu3⟩
    have b3 := b2.upd hu3 hgg
    have g3 := fun j => b3.frozen j
    have hm3 := hm2.upd hu3 hmr
    have hu23 : Upd (fun k => k = mo ∨ k = g ∨ k = gr) w W3 := (hu2.mono (M' := fun k => k = mo ∨ k = g ∨ k = gr) fun k _ h => .inl h).trans hu3 fun k _ h => .inr (.inr h)
    have hg3 := b3.lt
    have x3 : W3.cell? ⟨g, 3, none⟩ = some (.slice (some ⟨gr, 0, none⟩) rs.length c) := b3.cell 3
    clear hrun1 hrun2 hlk0 hlk1 hlk2 hg1 hg2 hz1 hz2 hm1 hm2 hu1 hu2 b1 b2 hrow2 hrow0 hu3
    go_wp2_with fail
    go_end0
    refine ⟨rfl, hfin.out _ (delA rs[i].p.cl (setA rs[i].p.cl 0 of)) ?_ ?_ ?_ ?_ ?_ ?_⟩
    · exact hu23.setCell (p := ⟨g, 3, none⟩) (fun _ => .inr (.inl rfl)) _
    · exact b3.set_ 3 _
    · exact hm3.setCell _ _ hmg
    · exact (Once.set honce.out).del.1
    · intro x
      rw [(Once.set honce.out).del.2 x]
      have := hgetS.out x
      by_cases hx : x = rs[i].p.cl
      · rw [if_pos hx, if_pos hx]; rfl
      · rw [if_neg hx, if_neg hx]; rw [if_neg hx] at this; exact this
    · exact own_upd hrow3 ((Upd.refl (fun k => k = g) W3).setCell (p := ⟨g, 3, none⟩) (fun _ => rfl) _) hgg.symm
  · have b1 := hblk.upd hu1 hmg.symm
    have d4 : W1.cell? ⟨g, 4, none⟩ = some (.map (some mo)) := b1.cell 4
    have e3 : W1.cell? ⟨g, 3, none⟩ = some (.slice (some ⟨gr, 0, none⟩) rs.length c) := b1.cell 3
    have f3 := fun j => b1.frozen j
    have hrow2 : W1.ownsRow 0 40 7 (.slice (some ⟨gr, 0, none⟩) rs.length c) rs.length (pcells rs) := own_upd hrow0 hu1 hmr.symm
    have hd0 : (n == 0) = false := by simpa using hn0
    go_enter Try.func33, Try.ntmps33
    go_wp2_with fail
    refine (delete_any gr c i rs _ hrow2 hi' hl9).mono ?_
    rintro e W3 ⟨rfl, hrow3, hu3⟩
    have b3 := b1.upd hu3 hgg
    have g3 := fun j => b3.frozen j
    have hm3 := hm1.upd hu3 hmr
    have hu23 : Upd (fun k => k = mo ∨ k = g ∨ k = gr) w W3 := (hu1.mono (M' := fun k => k = mo ∨ k = g ∨ k = gr) fun k _ h => .inl h).trans hu3 fun k _ h => .inr (.inr h)
    have hg3 := b3.lt
    have x3 : W3.cell? ⟨g, 3, none⟩ = some (.slice (some ⟨gr, 0, none⟩) rs.length c) := b3.cell 3
    clear hrun1 hlk0 hlk1 hg1 hz1 hm1 hu1 b1 hrow2 hrow0 hu3
    go_wp2_with fail
    go_end0
    refine ⟨rfl, hfin.out _ (setA rs[i].p.cl n of) ?_ ?_ ?_ ?_ ?_ ?_⟩
    · exact hu23.setCell (p := ⟨g, 3, none⟩) (fun _ => .inr (.inl rfl)) _
    · exact b3.set_ 3 _
    · exact hm3.setCell _ _ hmg
    · exact Once.set honce.out
    · exact hgetS.out
    · exact own_upd hrow3 ((Upd.refl (fun k => k = g) W3).setCell (p := ⟨g, 3, none⟩) (fun _ => rfl) _) hgg.symm
end

end Go.Proofs.Ytppcjaljhahdnaa
