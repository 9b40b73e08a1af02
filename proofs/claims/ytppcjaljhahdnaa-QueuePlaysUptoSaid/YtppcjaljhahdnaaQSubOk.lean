/- queue: Submit takes a plan. -/
import Derived.Test.YtppcjaljhahdnaaQRaw
import Derived.Deep.RegionLaw
import Derived.Deep.RegionHeld3
import Derived.Deep.DeepCutAuto
namespace Go.Proofs.Ytppcjaljhahdnaa
open Go.RowKit
set_option linter.unusedVariables false
set_option linter.unusedSimpArgs false

section
variable {P : Program} (w : World)
theorem step_append_rd {ops : Array Oper} {o : Oper} {a : Act} {K : Act → World → Prop} {Q : Exit → Act → World → Prop} {E : Prop} (hgd : o.guard = none) (s x : Operand) (t : TypeId)
    (ho : o.op = .call { callee := .builtin .append, args := #[s, x], argTypes := #[t, t] })
    (base : Nat) (e : TypeId) (i : TypeInfo) (z : Value) (size bytes : Nat) (ht : P.underlying t = some (.slice e)) (hi : P.info? e = some i) (hz : i.zero = some z)
    (hsize : i.size = size) (hby : i.bytes = bytes) (hzs : z.cells.size = size) (hsz : 0 < size)
    (v : Value) (n : Nat) (xs : List Value) (hs : a.eval s = v) (hown : w.ownsRow base e size v n xs)
    (S : Nat → Prop) (A : Option Addr) (m c : Nat) (news : List Value) (hx : a.eval x = .slice A m c) (hr : Rd S w size A m news) (h1 : ∀ u ∈ news, u.oneCell' = true)
    (h63 : n + m ≤ maxLen) (hbytes : (n + m) * bytes ≤ 140737488355328) (hbase : base ≤ w.heap.size) (N : Nat) (hN : n + m = N) (ys : List Value) (hys : xs ++ news = ys)
    (h : ∀ A' c' w', w'.ownsRow base e size (.slice A' N c') N ys → w.grownBy w' v.ownBlock → ((Value.slice A' N c').ownBlock = v.ownBlock ∨ (Value.slice A' N c').ownBlock = some w.heap.size) → K (a.put o.dst (.slice A' N c')) w') :
    if Region.wanted o (yielded ops a.tmps) = true then Oper.wp P o a w K Q else E := by
  have hw : Region.wanted o (yielded ops a.tmps) = true := by simp [Region.wanted, hgd]
  rw [if_pos hw]
  exact wp_append_rd w s x t ho base e i z size bytes ht hi hz hsize hby hzs hsz v n xs hs hown S A m c news hx hr h1 h63 hbytes hbase (fun v' w' h2 h3 h4 => by
    subst hN; subst hys
    obtain ⟨A', c', rfl, _, _⟩ := own_form h2
    exact h A' c' w' h2 h3 h4)
end


section
variable {S : Nat → Prop} {w : World} {g : Nat} {mt sh wn : Int} {L : List Pl} {T : Int → List Int}
/-- Submit has taken a plan -/
def Submitted (S : Nat → Prop) (w : World) (g : Nat) (mt sh wn : Int) (L : List Pl) (T : Int → List Int) (p : Pl) (e : Ending) (w' : World) : Prop :=
  ∃ S', e = .returned (.int .i64 0) ∧ QAt S' w' g mt sh wn (L ++ [p]) (subTok wn T p) ∧ (∀ k, S' k → S k ∨ w.heap.size ≤ k) ∧ Upd S w w'

/-- behind the append of the plan -/
def SubMid (S : Nat → Prop) (w : World) (g mo ms : Nat) (mt sh wn : Int) (rs : List RP) (of : List (Int × Int)) (tk : List (Int × (Value × List Int))) (r : RP) (wx : World) : Prop :=
  ∃ S' A' c' r', QRaw S' wx g mo ms mt sh wn A' c' (rs ++ [r']) of tk ∧ r'.p = r.p ∧ (∀ k, S' k → S k ∨ w.heap.size ≤ k) ∧ (∀ k, S k → S' k) ∧ Upd S w wx ∧ Blk wx w.heap.size 40 #[.int .i64 r.p.cl, .int .u64 r.p.tok, .string r.p.nm, .slice r.A1 r.p.args.length r.c1, .int .i64 r.p.how, .slice r.A2 r.p.rd.length r.c2, .slice r.A3 r.p.wr.length r.c3]
/-- behind the append of the token -/
def SubMid3 (S : Nat → Prop) (w : World) (g mo ms : Nat) (mt sh wn : Int) (rs : List RP) (of : List (Int × Int)) (tk : List (Int × (Value × List Int))) (r : RP) (xs : List Int) (wx : World) : Prop :=
  ∃ S' A' c' r' v, QRaw S' wx g mo ms mt sh wn A' c' (rs ++ [r']) of (setA r.p.cl (v, xs) tk) ∧ r'.p = r.p ∧ (∀ k, S' k → S k ∨ w.heap.size ≤ k) ∧ (∀ k, S k → S' k) ∧ Upd S w wx
theorem RP.own.ownS {base : Nat} {w : World} {r : RP} {S : Nat → Prop} (h : r.own base w) (hS : ∀ k, base ≤ k → k < w.heap.size → S k) : r.ownS S w :=
  ⟨⟨own_base (Nat.zero_le _) h.args, fun b hb => hS b (h.args.lt b hb).1 (h.args.lt b hb).2⟩, ⟨own_base (Nat.zero_le _) h.rd, fun b hb => hS b (h.rd.lt b hb).1 (h.rd.lt b hb).2⟩, ⟨own_base (Nat.zero_le _) h.wr, fun b hb => hS b (h.wr.lt b hb).1 (h.wr.lt b hb).2⟩⟩

set_option maxRecDepth 100000 in
set_option maxHeartbeats 4000000 in
theorem submit_ok (S0 : Nat → Prop) (r : RP) (h : QAt S w g mt sh wn L T) (hrp : r.ok S0 w) (hfit : r.p.fits) (hb : subBad r.p.cl = false) (hs : ¬ r.p.tok ∈ T r.p.cl) (hf : ¬ (L.length : Int) = mt) (hsh : ¬ (cnt r.p.cl L : Int) = sh) :
    Calls Try.prog 14 #[.pointer (some ⟨g, 0, none⟩), .agg #[.int .i64 r.p.cl, .int .u64 r.p.tok, .string r.p.nm, .slice r.A1 r.p.args.length r.c1, .int .i64 r.p.how, .slice r.A2 r.p.rd.length r.c2, .slice r.A3 r.p.wr.length r.c3]] w (Submitted S w g mt sh wn L T r.p) := by
  have hf2 : ((L.length : Int) == mt) = false := by simpa using hf
  have hf3 := hid hf
  have hsh2 : ((cnt r.p.cl L : Int) == sh) = false := by simpa using hsh
  clear hf hsh
  obtain ⟨ip, hip, hp0, hp1, hp2⟩ := info_parts info_cloneP_any
  obtain ⟨mo, ms, A, c, rs, of, tk, q, rfl, hT⟩ := h
  have hpl : (plans rs).length = rs.length := by simp [plans]
  rw [hpl] at hf2
  have hlen := q.len
  have hmt := q.mt1
  have hcn : ((cnt r.p.cl (plans rs) : Nat) : Int) ≤ 1024 := by have := cnt_le r.p.cl (plans rs); omega
  have h1 : ¬ r.p.cl < 0 := by have := of_decide_eq_false hb; omega
  have h2 : ¬ 64 ≤ r.p.cl := by have := of_decide_eq_false hb; omega
  have hB0 : Below w.heap.size w (w.alloc (.cells #[.int .i64 r.p.cl, .int .u64 r.p.tok, .string r.p.nm, .slice r.A1 r.p.args.length r.c1, .int .i64 r.p.how, .slice r.A2 r.p.rd.length r.c2, .slice r.A3 r.p.wr.length r.c3] 40)) := (Below.refl _ _).alloc (Nat.le_refl _) _
  have q0 := q.below hB0
  have kb : Blk (w.alloc (.cells #[.int .i64 r.p.cl, .int .u64 r.p.tok, .string r.p.nm, .slice r.A1 r.p.args.length r.c1, .int .i64 r.p.how, .slice r.A2 r.p.rd.length r.c2, .slice r.A3 r.p.wr.length r.c3] 40)) w.heap.size 40 #[.int .i64 r.p.cl, .int .u64 r.p.tok, .string r.p.nm, .slice r.A1 r.p.args.length r.c1, .int .i64 r.p.how, .slice r.A2 r.p.rd.length r.c2, .slice r.A3 r.p.wr.length r.c3] := Blk.new _ _ _
  obtain ⟨c0, c1, c2, c3, c4, c5⟩ := q0.cells
  have hlk : (Instr.lookup 64 (.map (some ms)) (.int .i64 r.p.cl) false).run Try.prog (w.alloc (.cells #[.int .i64 r.p.cl, .int .u64 r.p.tok, .string r.p.nm, .slice r.A1 r.p.args.length r.c1, .int .i64 r.p.how, .slice r.A2 r.p.rd.length r.c2, .slice r.A3 r.p.wr.length r.c3] 40)).drew = .ok (tokVal tk r.p.cl) (w.alloc (.cells #[.int .i64 r.p.cl, .int .u64 r.p.tok, .string r.p.nm, .slice r.A1 r.p.args.length r.c1, .int .i64 r.p.how, .slice r.A2 r.p.rd.length r.c2, .slice r.A3 r.p.wr.length r.c3] 40)).drew := q0.seenLook r.p.cl 1
  obtain ⟨ht, hn, hS⟩ := q0.tokAt r.p.cl
  have hw := q.wn1.2
  rw [hT r.p.cl] at ht hn
  obtain ⟨A', c', hv0, hc1, hc2⟩ := ht.form
  have hv := hid hv0
  clear hv0
  rw [hv.out] at ht hlk
  have hrd := ht.rd.drew
  have d0 : (w.alloc (.cells #[.int .i64 r.p.cl, .int .u64 r.p.tok, .string r.p.nm, .slice r.A1 r.p.args.length r.c1, .int .i64 r.p.how, .slice r.A2 r.p.rd.length r.c2, .slice r.A3 r.p.wr.length r.c3] 40)).cell? ⟨w.heap.size, 0, none⟩ = some (.int .i64 r.p.cl) := kb.cell 0
  have d1 : (w.alloc (.cells #[.int .i64 r.p.cl, .int .u64 r.p.tok, .string r.p.nm, .slice r.A1 r.p.args.length r.c1, .int .i64 r.p.how, .slice r.A2 r.p.rd.length r.c2, .slice r.A3 r.p.wr.length r.c3] 40)).cell? ⟨w.heap.size, 1, none⟩ = some (.int .u64 r.p.tok) := kb.cell 1
  have hq0 := hid q0
  have hqq := hid q
  have hkb := hid kb
  clear q q0 hb kb
  go_enter Try.func14, Try.ntmps14
  go_wp2_with fail
  have hgW := hB0.size
  generalize w.alloc (.cells #[.int .i64 r.p.cl, .int .u64 r.p.tok, .string r.p.nm, .slice r.A1 r.p.args.length r.c1, .int .i64 r.p.how, .slice r.A2 r.p.rd.length r.c2, .slice r.A3 r.p.wr.length r.c3] 40) = W0 at *
  go_still_tail 9, (by kernel_rfl)
  change wpList _ _ _ _ _ W0.drew
  clear hlk
  go_wp2_with (go_at_call 31; refine (contains_any _ A' c' (T r.p.cl) r.p.tok _ hrd (by omega)).mono ?_; rw [decide_eq_false hs]; rintro e w1 ⟨rfl, rfl⟩)
  have hlk2 : ∀ k, (Instr.lookup 63 (.map (some mo)) (.int .i64 r.p.cl) false).run Try.prog (W0.drewN k) = .ok (.int .i64 (cnt r.p.cl (plans rs) : Nat)) (W0.drewN k) := fun k => hq0.out.ofLook r.p.cl k
  go_quiet (fail)
  go_wp2_with fail
  have hD1 : Below W0.heap.size W0 (W0.drew.drewN nq) := below_drewN ((Below.refl _ _).drew) _
  have hlk3 : ∀ k, (Instr.lookup 63 (.map (some mo)) (.int .i64 r.p.cl) false).run Try.prog ((W0.drew.drewN nq).drewN k) = .ok (.int .i64 (cnt r.p.cl (plans rs) : Nat)) ((W0.drew.drewN nq).drewN k) := fun k => (hq0.out.below hD1).ofLook r.p.cl k
  clear hlk2
  have c3' : (W0.drew.drewN nq).cell? ⟨g, 3, none⟩ = _ := c3
  have c1' : (W0.drew.drewN nq).cell? ⟨g, 1, none⟩ = _ := c1
  have c4' : (W0.drew.drewN nq).cell? ⟨g, 4, none⟩ = _ := c4
  generalize W0.drew.drewN nq = W1 at *
  go_quiet (fail)
  go_wp2_with fail
  have hD2 : Below W0.heap.size W0 (W1.drewN nq) := below_drewN hD1 _
  generalize W1.drewN nq = W2 at *
  clear hlk3 c3' c1' c4' c0 c1 c2 c3 c4 c5 d0 d1 hrd ht hD1
  -- the row of plans
  have hB2 : Below w.heap.size w W2 := hB0.trans (hD2.mono hgW)
  have q2 := hqq.out.raw.below hB2
  have kb2 := hkb.out.below_all hD2
  have hr2 := hrp.below hB2
  obtain ⟨c0, c1, c2, c3, c4, c5⟩ : W2.cell? ⟨g, 0, none⟩ = _ ∧ W2.cell? ⟨g, 1, none⟩ = _ ∧ W2.cell? ⟨g, 2, none⟩ = _ ∧ W2.cell? ⟨g, 3, none⟩ = _ ∧ W2.cell? ⟨g, 4, none⟩ = _ ∧ W2.cell? ⟨g, 5, none⟩ = _ := ⟨q2.blk.cell 0, q2.blk.cell 1, q2.blk.cell 2, q2.blk.cell 3, q2.blk.cell 4, q2.blk.cell 5⟩
  have e0 := kb2.cell 0
  have e1 := kb2.cell 1
  have e2 := kb2.cell 2
  have e3 := kb2.cell 3
  have e4 := kb2.cell 4
  have e5 := kb2.cell 5
  have e6 := kb2.cell 6
  simp at c0 c1 c2 c3 c4 c5 e0 e1 e2 e3 e4 e5 e6
  have hgl := q2.blk.lt
  have hbl := kb2.lt
  have qf := fun j => q2.blk.frozen j
  have hrow0 := q2.pls.row.1
  have hne : ∀ k, (Value.slice A rs.length c).ownBlock = some k → k ≠ g ∧ k ≠ w.heap.size ∧ S k ∧ k < W2.heap.size := fun k hk => by
    have hSk := q2.pls.row.2 k hk
    have hlt := hqq.out.lt k hSk
    refine ⟨?_, by omega, hSk, q2.lt k hSk⟩
    rcases q2.pls.row.1.2 with ⟨h0, _⟩ | ⟨gr, cap, cur, hvv, _, hbb, _⟩
    · rw [h0] at hk; simp [Value.ownBlock] at hk
    · rw [hvv] at hk
      have : gr = k := by simpa [Value.ownBlock] using hk
      subst this
      exact (q2.blk.ne_ (t' := 40) (cs' := cur) hbb (by decide)).symm
  have hne := hid hne
  have hq2 := hid q2
  have hkb2 := hid kb2
  have hl9 : rs.length ≤ 1024 := by omega
  clear q2 kb2 hrp
  go_cut [] (fun wx => SubMid S w g mo ms mt sh wn rs of tk r wx)
  case first =>
    go_region_law
      (first
        | (go_simp; go_at_call 32; refine (own_any S0 r _ ?_ hfit).mono ?_; (exact ⟨hr2.args, hr2.rd, hr2.wr⟩); rintro e w1 ⟨r', ⟨hpe0, rfl⟩, hown1, hb1⟩; have hpe := hid hpe0; clear hpe0; have hq1 : Below W2.heap.size W2 w1 := ((Below.refl _ W2).drew).trans hb1; have hk1 := (hq1.cell (p := ⟨g, 3, none⟩) hgl).trans c3; have hz1 : g < w1.heap.size := Nat.lt_of_lt_of_le hgl hq1.size)
        | (refine step_append_rd _ rfl (.tmp 56) (.tmp 59) 65 rfl 0 40 ip _ 7 112 Try.underlying65 hip hp0 hp1 hp2 rfl (by omega) (.slice A rs.length c) rs.length (pcells rs) rfl ?_ (fun b => b = w1.heap.size) (some ⟨w1.heap.size, 0, none⟩) 1 1 r'.cells rfl ?_ ?_ ?_ ?_ ?_ (rs.length + 1) rfl (pcells rs ++ r'.cells) rfl ?_
           go_must (
             · exact (own_below (w := W2.drew) hrow0 hb1).alloc _
             · exact Rd.new w1 40 7 1 r'.cells.toArray _ rfl rfl
             · exact cells_one r'
             · simp only [maxLen]; omega
             · omega
             · exact Nat.zero_le _
             intro A2 c2' w2 hown2 hg2 hat2
             have hu2 : Upd (fun k => (Value.slice A rs.length c).ownBlock = some k) W2 w2 := ((Upd.of_below' hq1 _).alloc _).grown hg2 fun k hk _ => hk
             have hk2 : w2.cell? ⟨g, 3, none⟩ = some (.slice A rs.length c) := hu2.cell c3 fun hm => (hne.out g hm).1 rfl
             have hb2 := hq2.out.blk.upd hu2 fun hm => (hne.out g hm).1 rfl
             have hf2' := fun j => hb2.frozen j
             have hb2 := hid hb2)))
    all_goals
      go_wp2_with fail
      go_meet
      have q2 := hq2.out
      have hz1' := hq1.size
      have hzw := hg2.size
      simp at hzw
      have hzs := hB2.size
      have hg1 : Upd (fun k => (Value.slice A rs.length c).ownBlock = some k ∨ k = g) (w1.alloc (.cells #[.int .i64 r'.p.cl, .int .u64 r'.p.tok, .string r'.p.nm, .slice r'.A1 r'.p.args.length r'.c1, .int .i64 r'.p.how, .slice r'.A2 r'.p.rd.length r'.c2, .slice r'.A3 r'.p.wr.length r'.c3] 40)) (w2.setCell ⟨g, 3, none⟩ (.slice A2 (rs.length + 1) c2')) := ((Upd.refl _ _).grown hg2 fun k hk _ => .inl hk).setCell (p := ⟨g, 3, none⟩) (fun _ => .inr rfl) _
      have hu3 : Upd (fun k => (Value.slice A rs.length c).ownBlock = some k ∨ k = g) W2 (w2.setCell ⟨g, 3, none⟩ (.slice A2 (rs.length + 1) c2')) := (hu2.mono fun k _ h => .inl h).setCell (p := ⟨g, 3, none⟩) (fun _ => .inr rfl) _
      have hSg := q2.inS.1
      have hSw : ∀ k, S k → k < w.heap.size := hqq.out.lt
      refine ⟨fun k => S k ∨ w.heap.size ≤ k ∧ k < w2.heap.size, A2, c2', r', q2.push hu3 ?_ (fun k h => .inl h) ?_ (hb2.out.set_ 3 _) ?_ ?_, hpe.out, ?_, fun k h => .inl h, ?_, ?_⟩
      · rintro k (h | h)
        · refine .inr ?_
          rcases q2.pls.row.1.2 with ⟨h0, _⟩ | ⟨gr, cap, cur, hvv, _, hbb, _⟩
          · rw [h0] at h; simp [Value.ownBlock] at h
          · rw [hvv] at h
            have : gr = k := by simpa [Value.ownBlock] using h
            exact ⟨cur, this ▸ hbb⟩
        · exact .inl h
      · rintro k (h | h)
        · have := q2.lt k h; simp; omega
        · simpa using h.2
      · refine OwnS.keepT (w := w2) ⟨hown2, fun b hb => ?_⟩ fun b cs hb => Below.heap_setCell _ _ _ _ fun e => hb2.out.ne_ hb (by decide) e.symm
        have hlt := (hown2.lt b hb).2
        rcases hat2 with h | h
        · rw [h] at hb; exact .inl (hne.out b hb).2.2.1
        · rw [h] at hb; injection hb with hb; simp at hb; exact .inr ⟨by omega, hlt⟩
      · refine RP.own.ownS (base := W2.heap.size) ?_ (fun k h1 h2 => .inr ⟨by omega, by simpa using h2⟩)
        refine RP.own.upd (w := w1.alloc (.cells #[.int .i64 r'.p.cl, .int .u64 r'.p.tok, .string r'.p.nm, .slice r'.A1 r'.p.args.length r'.c1, .int .i64 r'.p.how, .slice r'.A2 r'.p.rd.length r'.c2, .slice r'.A3 r'.p.wr.length r'.c3] 40)) ⟨?_, ?_, ?_⟩ hg1 ?_
        · exact hown1.args.alloc _
        · exact hown1.rd.alloc _
        · exact hown1.wr.alloc _
        · rintro k h1 _ (h | h)
          · have := (hne.out k h).2.2.2; omega
          · omega
      · rintro k (h | h)
        · exact .inl h
        · exact .inr h.1
      · refine (Upd.of_below' hB2 _).trans (hu3.mono (M' := S) fun k _ h => ?_) fun k _ h => h
        rcases h with h | rfl
        · exact (hne.out k h).2.2.1
        · exact hSg
      · refine hkb2.out.upd hu3 ?_
        rintro (h | h)
        · exact (hne.out _ h).2.1 rfl
        · have := hSw g hSg; omega
  case rest =>
    obtain ⟨S', A3, c3', r', q3, hpe, hS1, hS2, hu3, kb3⟩ := hcut
    -- the count
    obtain ⟨n, hn⟩ : ∃ n : Int, n = (cnt r.p.cl (plans rs) : Nat) := ⟨_, rfl⟩
    have hnn := hid hn
    have hn1 : 0 ≤ n := by omega
    have hn2 : n ≤ 1024 := by omega
    have hlk4 : (Instr.lookup 63 (.map (some mo)) (.int .i64 r.p.cl) false).run Try.prog wc = .ok (.int .i64 n) wc := by
      have h1 := q3.ofm.lookup Try.underlying63 zero_int r.p.cl
      have h2 := hqq.out.cnt r.p.cl
      rw [← hn] at h2
      rw [getK_map (f := Value.int .i64)] at h1
      cases hg : getA r.p.cl of with
      | none => rw [hg] at h1 h2; simp only [Option.getD_none] at h2; rw [← h2]; exact h1
      | some v => rw [hg] at h1 h2; simp only [Option.getD_some] at h2; rw [← h2]; exact h1
    obtain ⟨W4, hrun4', hm4, hg4, hz4⟩ := q3.ofm.update Try.underlying63 r.p.cl (.int .i64 (n + 1))
    have hrun4 : (Instr.mapUpdate 63 (.map (some mo)) (.int .i64 r.p.cl) (.int .i64 (n + 1))).run Try.prog wc = .ok () W4 := hrun4'
    rw [setK_map (f := Value.int .i64)] at hm4
    have hu4 : Upd (fun k => k = mo) wc W4 := (Upd.refl _ wc).grown hg4 fun k hk _ => by injection hk with hk; exact hk.symm
    have q4 := q3.count hu4 hm4 q3.once.1.set
    have kb4 := kb3.upd hu4 fun e => q3.ofm.ne_blk kb3 e.symm
    have m4 : wc.cell? ⟨g, 4, none⟩ = some (.map (some mo)) := q3.blk.cell 4
    clear hrun4' hn
    go_wp2_with fail
    clear hlk4 hrun4 hm4 hg4 hz4 m4 c0 c1 c2 c3 c4 c5 e0 e1 e2 e3 e4 e5 e6 qf hrow0
    have hUp4 : Upd S w W4 := hu3.trans (hu4.mono (M' := S) fun k _ h => h ▸ hqq.out.inS.2.1) fun _ _ h => h
    have hq4 := hid q4
    have hkb4 := hid kb4
    have x1 : W4.cell? ⟨w.heap.size, 1, none⟩ = some (.int .u64 r.p.tok) := kb4.cell 1
    have m5 : W4.cell? ⟨g, 5, none⟩ = some (.map (some ms)) := q4.blk.cell 5
    clear q3 kb3 hu3 hu4 q4 kb4
    -- the tokens
    have htl := hT r.p.cl
    obtain ⟨ht4, hS4⟩ := hq4.out.tokAt r.p.cl
    rw [htl] at ht4
    obtain ⟨v', W6, hrunA, hT6, huA, hown6⟩ := run_tok_append (W4.alloc (.cells #[.int .u64 r.p.tok] 32)).drew (tokVal tk r.p.cl) (T r.p.cl) (ht4.keep (w' := (W4.alloc (.cells #[.int .u64 r.p.tok] 32)).drew) fun b cs _ hk => Below.heap_alloc W4 _ b hk.lt) W4.heap.size r.p.tok ((Blk.new W4 32 #[.int .u64 r.p.tok]).drew.cell 0) (by omega) 61
    have hm6 : MapIs intE W6 ms (tk.map fun p => (p.1, p.2.1)) := (hq4.out.seen.keep (w' := (W4.alloc (.cells #[.int .u64 r.p.tok] 32)).drew) (Below.heap_alloc W4 _ ms hq4.out.seen.lt)).upd huA fun h => by
      obtain ⟨cs, hb⟩ := ht4.blk h
      exact hq4.out.seen.ne_blk hb rfl
    obtain ⟨W7, hrunM', hm7, hgM, hzM⟩ := hm6.update Try.underlying64 r.p.cl v'
    have hrunM : (Instr.mapUpdate 64 (.map (some ms)) (.int .i64 r.p.cl) v').run Try.prog W6 = .ok () W7 := hrunM'
    have hlk5 : (Instr.lookup 64 (.map (some ms)) (.int .i64 r.p.cl) false).run Try.prog W4.drew = .ok (tokVal tk r.p.cl) W4.drew := (hq4.out.below ((Below.refl _ _).drew)).seenLook r.p.cl
    clear hrunM'
    have hlk6 : (Instr.lookup 64 (.map (some ms)) (.int .i64 r.p.cl) false).run Try.prog (W4.alloc (.cells #[.int .u64 r.p.tok] 32)).drew = .ok (tokVal tk r.p.cl) (W4.alloc (.cells #[.int .u64 r.p.tok] 32)).drew := (hq4.out.below (((Below.refl _ _).alloc (Nat.le_refl _) _).drew)).seenLook r.p.cl
    have hBA : Below W4.heap.size W4 (W4.alloc (.cells #[.int .u64 r.p.tok] 32)).drew := ((Below.refl _ _).alloc (Nat.le_refl _) _).drew
    have m6 : (W4.alloc (.cells #[.int .u64 r.p.tok] 32)).drew.cell? ⟨g, 5, none⟩ = some (.map (some ms)) := (hBA.cell (p := ⟨g, 5, none⟩) hq4.out.blk.lt).trans m5
    have x6 : (W4.alloc (.cells #[.int .u64 r.p.tok] 32)).drew.cell? ⟨w.heap.size, 1, none⟩ = some (.int .u64 r.p.tok) := (hBA.cell (p := ⟨w.heap.size, 1, none⟩) hkb4.out.lt).trans x1
    have hnb : ∀ b, (tokVal tk r.p.cl).ownBlock = some b → b ≠ g ∧ b ≠ w.heap.size := fun b hb => by
      obtain ⟨cs, hb'⟩ := ht4.blk hb
      exact ⟨hb'.ne_ hq4.out.blk (by decide), hb'.ne_ hkb4.out (by decide)⟩
    have m7 : W6.cell? ⟨g, 5, none⟩ = some (.map (some ms)) := huA.cell m6 fun h => (hnb g h).1 rfl
    have x7 : W6.cell? ⟨w.heap.size, 1, none⟩ = some (.int .u64 r.p.tok) := huA.cell x6 fun h => (hnb _ h).2 rfl
    have hlk7 : (Instr.lookup 64 (.map (some ms)) (.int .i64 r.p.cl) false).run Try.prog W6 = .ok (tokVal tk r.p.cl) W6 := by
      have h1 := hm6.lookup Try.underlying64 zero_toks r.p.cl
      rw [getK_map (f := fun v : Value × List Int => v.1)] at h1
      unfold tokVal
      cases hg : getA r.p.cl tk with
      | none => rw [hg] at h1; exact h1
      | some v => rw [hg] at h1; exact h1
    have keep4 : Hid ((Instr.lookup 64 (.map (some ms)) (.int .i64 r.p.cl) false).run Try.prog W6 = .ok (tokVal tk r.p.cl) W6) := hlk7
    generalize hvv : tokVal tk r.p.cl = tv at *
    have hms : ms ≠ g := hq4.out.seen.ne_blk hq4.out.blk
    have hmw : ms ≠ w.heap.size := hq4.out.seen.ne_blk hkb4.out
    have m8 : W7.cell? ⟨g, 5, none⟩ = some (.map (some ms)) := hgM.cell m7 (by simpa using hms.symm)
    have x8 : W7.cell? ⟨w.heap.size, 1, none⟩ = some (.int .u64 r.p.tok) := hgM.cell x7 (by simpa using hmw.symm)
    have hmid : Hid (SubMid3 S w g mo ms mt sh wn rs (setA r.p.cl (n + 1) of) tk r (T r.p.cl ++ [r.p.tok]) W7) := by
      have hu7 : Upd (fun k => k = ms ∨ tv.ownBlock = some k ∧ k < W4.heap.size) W4 W7 := by
        have h1 : Upd (fun k => k = ms ∨ tv.ownBlock = some k ∧ k < W4.heap.size) W4 W6 := (Upd.of_below' hBA _).trans huA fun k hk h => .inr ⟨h, hk⟩
        exact h1.grown hgM fun k hk _ => by injection hk with hk; exact .inl hk.symm
      have hz4 := hUp4.size
      have hz7 := hu7.size
      have hzA := hBA.size
      have hT7 : TokAt W7 v' (T r.p.cl ++ [r.p.tok]) := hT6.keep fun b cs _ hb => hgM.block b hb.lt fun e => by injection e with e; exact hm6.ne_blk hb e.symm
      have q7 := hq4.out.tokens (x := r.p.cl) (v := v') (xs := T r.p.cl ++ [r.p.tok]) (S' := fun k => S' k ∨ w.heap.size ≤ k ∧ k < W7.heap.size) hu7 (fun k h => hvv ▸ h) (fun k h => .inl h) (by
          rintro k (h | h)
          · have := hq4.out.lt k h; omega
          · exact h.2) (by rw [← setK_map (f := fun v : Value × List Int => v.1)]; exact hm7) hT7 (fun b hb => by
          rcases hown6 b hb with h | h
          · exact .inl (hvv ▸ h)
          · refine .inr ⟨fun hs => ?_, .inr ⟨by omega, hT7.lt hb⟩⟩
            have := hq4.out.lt b hs; omega)
      refine ⟨_, A3, c3', r', v', q7, hpe, ?_, fun k h => .inl (hS2 k h), hUp4.trans hu7 fun k hk h => ?_⟩
      · rintro k (h | h)
        · exact hS1 k h
        · exact .inr h.1
      · rcases h with rfl | ⟨h, _⟩
        · exact hqq.out.inS.2.2
        · rcases hS1 k (hS4 k h) with h | h
          · exact h
          · omega
    clear hT6 huA hown6 hm6 hm7 hgM hzM hlk7 keep4 hnb hBA ht4 hS4 hUp4
    go_cut [] (fun wx => SubMid3 S w g mo ms mt sh wn rs (setA r.p.cl (n + 1) of) tk r (T r.p.cl ++ [r.p.tok]) wx)
    case first =>
      go_region_held3 (fun w' => w'.cell? ⟨g, 5, none⟩ = some (.map (some ms)) ∧ w'.cell? ⟨w.heap.size, 1, none⟩ = some (.int .u64 r.p.tok))
        (first | exact ⟨m5, x1⟩ | exact ⟨m6, x6⟩ | exact ⟨m7, x7⟩ | exact ⟨m8, x8⟩)
        (first
          | refine step_append_of rfl (.tmp 80) (.tmp 84) 61 rfl tv (.slice (some ⟨W4.heap.size, 0, none⟩) 1 1) rfl rfl v' W6 hrunA ?_)
      all_goals
        go_wp2_with fail
        go_meet
        exact hmid.out
    case rest =>
      clear hmid hrunA hrunM m5 x1 m6 x6 m7 x7 m8 x8 hlk5 hlk6 hms hmw hq4 hkb4
      obtain ⟨S5, A5, c5', r5, v5, q5, hpe5, hS5, hS6, hu5⟩ := hcut
      obtain ⟨xs, hxs0⟩ : ∃ xs, xs = T r.p.cl ++ [r.p.tok] := ⟨_, rfl⟩
      rw [← hxs0] at q5
      obtain ⟨hwn0, hwn1⟩ := hqq.out.wn1
      have hxl : (xs.length : Int) ≤ 257 := by rw [hxs0]; simp; omega
      have hxp : 1 ≤ xs.length := by rw [hxs0]; simp
      have hxs := hid hxs0
      clear hxs0
      have htv0 : TokAt wc v5 xs := by
        have h1 := (q5.tokAt r.p.cl).1
        unfold tokVal tokL at h1
        rw [getA_set, if_pos rfl] at h1
        exact h1
      obtain ⟨Av, cv, rfl, hcv1, hcv2⟩ := htv0.form
      simp only [maxLen] at hcv2
      obtain ⟨gt, ot, rfl⟩ : ∃ gt ot, Av = some ⟨gt, ot, none⟩ := by
        rcases htv0 with ⟨_, h0⟩ | ⟨gt, ot, cap, cur, h0, _⟩
        · rw [h0] at hxp; simp at hxp
        · simp only [Value.slice.injEq] at h0
          exact ⟨gt, ot, h0.1⟩
      have hlkv : (Instr.lookup 64 (.map (some ms)) (.int .i64 r.p.cl) false).run Try.prog wc.drew = .ok (.slice (some ⟨gt, ot, none⟩) xs.length cv) wc.drew := by
        have h1 := (q5.below ((Below.refl _ _).drew)).seenLook r.p.cl
        unfold tokVal at h1
        rw [getA_set, if_pos rfl] at h1
        exact h1
      obtain ⟨d, hd⟩ : ∃ d, d = xs.length - wn.toNat := ⟨_, rfl⟩
      have hfin : ∀ W8 V, Upd (fun k => k = ms) wc W8 → MapIs intE W8 ms (setK r.p.cl V ((setA r.p.cl ((.slice (some ⟨gt, ot, none⟩) xs.length cv, xs) : Value × List Int) tk).map fun p => (p.1, p.2.1))) → TokAt wc V (xs.drop d) → (∀ b, V.ownBlock = some b → b = gt) →
          Submitted S w g mt sh wn (plans rs) T r.p (.returned (.int .i64 0)) W8 := by
        intro W8 V hu hm ht hv8
        have hown5 : (tokVal (setA r.p.cl ((.slice (some ⟨gt, ot, none⟩) xs.length cv, xs) : Value × List Int) tk) r.p.cl).ownBlock = some gt := by
          unfold tokVal
          rw [getA_set, if_pos rfl]
          rfl
        have hT8 : TokAt W8 V (xs.drop d) := ht.keep fun b cs _ hb => hu.block b hb.lt fun e => q5.seen.ne_blk hb e.symm
        have q8 := q5.tokens (x := r.p.cl) (v := V) (xs := xs.drop d) (S' := S5) hu (fun k h => .inl h) (fun k h => h) (fun k hk => Nat.lt_of_lt_of_le (q5.lt k hk) hu.size)
          (by rw [← setK_map (f := fun v : Value × List Int => v.1)]; exact hm) hT8 (fun b hb => .inl (by rw [hv8 b hb]; exact hown5))
        have hq0 := hqq.out
        have hrl : (rs ++ [r5]).length = rs.length + 1 := by simp
        refine ⟨S5, rfl, ⟨mo, ms, A5, c5', rs ++ [r5], _, _, q8.in_ (fun x => ?_) hq0.mt1 hq0.wn1 ?_ ?_ ?_, ?_, fun x => ?_⟩, hS5, hu5.trans (hu.mono (M' := S) fun k _ h => h ▸ hq0.inS.2.2) fun _ _ h => h⟩
        · rw [getA_set]
          have e : cnt x (plans (rs ++ [r5])) = cnt x (plans rs) + (if r.p.cl = x then 1 else 0) := by
            unfold cnt plans
            rw [List.map_append, List.filter_append, List.length_append]
            by_cases hx : r.p.cl = x
            · simp [hpe5, hx]
            · simp [hpe5, hx]
          rw [e]
          by_cases hx : x = r.p.cl
          · subst hx; rw [if_pos rfl, if_pos rfl]; simp [hnn.out]
          · rw [if_neg hx, if_neg fun e => hx e.symm, hq0.cnt x]; simp
        · have := hf3.out
          rw [hpl] at this
          rw [hrl]; omega
        · intro t ht
          rcases setA_mem' q5.once.2 ht with rfl | ⟨h, _⟩
          · show ((xs.drop d).length : Int) ≤ wn
            rw [List.length_drop]; omega
          · rcases setA_mem' hq0.once.2 h with rfl | ⟨h, _⟩
            · exact absurd rfl (by assumption)
            · exact hq0.tlen t h
        · intro q hq
          rcases List.mem_append.1 hq with h | h
          · exact hq0.fits q h
          · obtain rfl := List.mem_singleton.1 h
            rw [hpe5]; exact hfit
        · unfold plans
          rw [List.map_append]
          simp [hpe5]
        · unfold tokL subTok
          rw [getA_set, getA_set]
          by_cases hx : x = r.p.cl
          · rw [if_pos hx, if_pos hx, ← hxs.out]
            have : (T r.p.cl).length + 1 = xs.length := by rw [hxs.out]; simp
            rw [this, ← hd]; rfl
          · rw [if_neg hx, if_neg hx, if_neg hx]
            exact hT x
      have hfin := hid hfin
      have hseen := (q5.below ((Below.refl _ _).drew)).seen
      have hdw := Upd.refl (fun k => k = ms) wc
      have b2 : wc.cell? ⟨g, 2, none⟩ = some (.int .i64 wn) := q5.blk.cell 2
      have b5 : wc.cell? ⟨g, 5, none⟩ = some (.map (some ms)) := q5.blk.cell 5
      have htv := hid htv0
      clear q5 htv0
      go_wp2_with fail
      by_cases hpos : wn < (xs.length : Int)
      · have hwr : IntKind.i64.wrap ((xs.length : Int) - wn) = (d : Int) := by
          rw [IntWalk.i64_in _ (by omega)]; omega
        have hd1 : (0 : Int) < (d : Int) := by omega
        have hd2 : (d : Int) ≤ (xs.length : Int) := by omega
        have hd3 : d ≤ xs.length := by omega
        have hd0 : 0 < d := by omega
        by_cases hcd : cv = d
        · subst hcd
          have hz0 : xs.length - cv = 0 := by omega
          obtain ⟨W8, hrun8', hm8, hg8, _⟩ := hseen.update Try.underlying64 r.p.cl (.slice (some ⟨gt, ot, none⟩) 0 0)
          have hrun8 : (Instr.mapUpdate 64 (.map (some ms)) (.int .i64 r.p.cl) (.slice (some ⟨gt, ot, none⟩) 0 0)).run Try.prog wc.drew = .ok () W8 := hrun8'
          have hres := hfin.out W8 _ (hdw.drew.grown hg8 fun k hk _ => by injection hk with hk; exact hk.symm) hm8 (by
                      have := htv.out.cut cv hd3 (B := some ⟨gt, ot, none⟩) (fun g o e => by rw [if_pos rfl]; exact e) (by simp)
                      rw [Nat.sub_self, hz0] at this
                      exact this) (fun b hb => by simpa [Value.ownBlock] using hb.symm)
          have hres := hid hres
          clear hrun8' hm8 hg8 hd
          go_still_tail 25, (by kernel_rfl)
          change wpList _ _ _ _ _ wc.drew
          go_wp2_with fail
          go_ret
          exact hres.out
        · have hcd' := hid hcd
          obtain ⟨W8, hrun8', hm8, hg8, _⟩ := hseen.update Try.underlying64 r.p.cl (.slice (some ⟨gt, ot + d, none⟩) (xs.length - d) (cv - d))
          have hrun8 : (Instr.mapUpdate 64 (.map (some ms)) (.int .i64 r.p.cl) (.slice (some ⟨gt, ot + d, none⟩) (xs.length - d) (cv - d))).run Try.prog wc.drew = .ok () W8 := hrun8'
          have hres := hfin.out W8 _ (hdw.drew.grown hg8 fun k hk _ => by injection hk with hk; exact hk.symm) hm8 (htv.out.cut d hd3 (B := some ⟨gt, ot + d, none⟩) (fun g o e => by
                      simp only [Option.some.injEq, Addr.mk.injEq, and_true] at e
                      obtain ⟨rfl, rfl⟩ := e
                      rw [if_neg hcd]) (by simp)) (fun b hb => by simpa [Value.ownBlock] using hb.symm)
          have hres := hid hres
          clear hrun8' hm8 hg8 hd
          go_still_tail 25, (by kernel_rfl)
          change wpList _ _ _ _ _ wc.drew
          go_wp2_with fail
          go_ret
          exact hres.out
      · obtain ⟨z, hz⟩ : ∃ z, (xs.length : Int) - wn = z := ⟨_, rfl⟩
        have hwr : IntKind.i64.wrap ((xs.length : Int) - wn) = z := by
          rw [IntWalk.i64_in _ (by omega)]; exact hz
        have hz0 : ¬ 0 < z := by omega
        have hd0 : d = 0 := by omega
        have hcv0 : ¬ cv = 0 := by omega
        have hl0 : (0 : Int) ≤ (xs.length : Int) := by omega
        rw [hd0] at hfin
        clear hz
        obtain ⟨W8, hrun8', hm8, hg8, _⟩ := hseen.update Try.underlying64 r.p.cl (.slice (some ⟨gt, ot, none⟩) xs.length cv)
        have hrun8 : (Instr.mapUpdate 64 (.map (some ms)) (.int .i64 r.p.cl) (.slice (some ⟨gt, ot, none⟩) xs.length cv)).run Try.prog wc.drew = .ok () W8 := hrun8'
        have hres := hfin.out W8 _ (hdw.drew.grown hg8 fun k hk _ => by injection hk with hk; exact hk.symm) hm8 (by
                  rw [List.drop_zero]; exact htv.out) (fun b hb => by simpa [Value.ownBlock] using hb.symm)
        have hres := hid hres
        clear hrun8' hm8 hg8 hd hd0
        go_still_tail 25, (by kernel_rfl)
        change wpList _ _ _ _ _ wc.drew
        go_wp2_with fail
        go_ret
        exact hres.out
end

end Go.Proofs.Ytppcjaljhahdnaa
