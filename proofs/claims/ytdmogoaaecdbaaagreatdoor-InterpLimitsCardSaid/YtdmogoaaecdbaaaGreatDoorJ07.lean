/- Texts of the proof, joined: IOk. -/
import Derived.Test.YtdmogoaaecdbaaaGreatDoorJ04
import Derived.Lib.ItoaLen
namespace Go.Proofs.YtdmogoaaecdbaaaGreatDoor
open Go
set_option linter.unusedVariables false
set_option linter.unusedSimpArgs false

def VOk (v : Vl) : Prop := v.ok = true ∧ v.rng
theorem vok0 : VOk vl0 := ⟨rfl, by unfold Vl.rng vl0; constructor <;> decide⟩
theorem vok_tru (b : Bool) : VOk (truV b) := by cases b <;> exact ⟨by decide, by unfold Vl.rng truV; constructor <;> decide⟩
theorem vok_num {n : Int} (h : inR n = true) : VOk (numVl n) := by
  unfold inR at h
  simp only [Bool.and_eq_true, decide_eq_true_eq] at h
  exact ⟨by unfold Vl.ok numVl; simp, h⟩
theorem iok_text {v : Vl} (h : v.ok = true) (hk : v.k = 2) : v = wrdV v.s ∧ v.s.size ≤ 64 ∧ okT v.s = true := by
  rcases ok_forms h with rfl | ⟨h, e⟩ | ⟨h, e, h1, h2⟩
  · cases hk
  · omega
  · obtain ⟨k, n, s⟩ := v; simp only at h e; subst h e; exact ⟨rfl, h1, h2⟩
theorem vok_wrd {s : ByteArray} (h : s.size ≤ 64) (h2 : okT s = true) : VOk (wrdV s) := by
  refine ⟨?_, by unfold Vl.rng wrdV; constructor <;> simp⟩
  unfold Vl.ok wrdV
  simp [h, h2]
theorem isz_le {v : Vl} (h : v.ok = true) : v.s.size ≤ 64 := by
  rcases ok_forms h with rfl | ⟨_, e⟩ | ⟨_, _, h1, _⟩
  · decide
  · rw [e]; decide
  · exact h1
theorem okT_app {a b : ByteArray} (ha : okT a = true) (hb : okT b = true) : okT (a ++ b) = true := by
  unfold okT at *
  have : (a ++ b).data.toList = a.data.toList ++ b.data.toList := by simp
  rw [this, List.all_append, ha, hb]; rfl
theorem okT_itoa {n : Int} (h0 : -9223372036854775808 ≤ n) (h1 : n ≤ 9223372036854775807) : okT (digS n) = true ∧ (digS n).size ≤ 64 := by
  have hl := Lib.itoa_length_le n h0 h1
  have e : (digS n).data.toList = Lib.itoa n := by unfold digS; simp
  refine ⟨?_, ?_⟩
  · unfold okT
    rw [e, List.all_eq_true]
    intro c hc
    have hd : ∀ u : Nat, ∀ c ∈ Lib.decDigits u, okB c = true := fun u c hc => by
      have := isD_iff.1 (dec_isD u c hc)
      unfold okB
      simp only [Bool.and_eq_true, decide_eq_true_eq]
      omega
    unfold Lib.itoa at hc
    split at hc
    · rcases List.mem_cons.1 hc with rfl | hc
      · decide
      · exact hd _ _ hc
    · exact hd _ _ hc
  · have : (digS n).size = (Lib.itoa n).length := by unfold digS; simp [ByteArray.size]
    omega
theorem numR_rng {l : List UInt8} (h : (numR (parseL l)).2 = true) : inR (numR (parseL l)).1 = true := by
  unfold numR at *
  simp only [decide_eq_true_eq] at h
  obtain ⟨v, e, _, hr, _⟩ := parse_good h.1
  show inR (parseL l).v.n = true
  rw [e]
  unfold inR
  have hr : -9223372036854775808 ≤ v.n ∧ v.n ≤ 9223372036854775807 := hr
  show (decide (-9223372036854775808 ≤ v.n) && decide (v.n ≤ 9223372036854775807)) = true
  simp [hr.1, hr.2]
theorem inR_iff {n : Int} : inR n = true ↔ -9223372036854775808 ≤ n ∧ n ≤ 9223372036854775807 := by unfold inR; simp
theorem arith_rng {op b a n : Int} (hb : inR b = true) (ha : inR a = true) (h : arithP op b a = .ok n) : inR n = true := by
  rw [inR_iff] at ha hb
  unfold arithP at h
  split at h
  · split at h
    · cases h; assumption
    · cases h
  split at h
  · split at h
    · cases h; assumption
    · cases h
  split at h
  · split at h
    · cases h; assumption
    · cases h
  split at h
  · cases h
  rename_i h0
  split at h
  · cases h
    rw [inR_iff]
    have h2 : (b.tmod a).natAbs < a.natAbs := by rw [Int.natAbs_tmod]; exact Nat.mod_lt _ (by omega)
    omega
  split at h
  · cases h
  · rename_i h3
    cases h
    rw [inR_iff]
    have h2 : (b.tdiv a).natAbs = b.natAbs / a.natAbs := Int.natAbs_tdiv b a
    have h4 : b.natAbs / a.natAbs ≤ b.natAbs := Nat.div_le_self _ _
    by_cases e : (b.tdiv a).natAbs = 9223372036854775808
    · have e1 : b.natAbs = 9223372036854775808 := by omega
      have e2 : b = minI := by unfold minI; omega
      have e3 : a.natAbs = 1 := by
        rw [h2, e1] at e
        have h5 : a.natAbs ≠ 0 := by omega
        by_cases h6 : 2 ≤ a.natAbs
        · have : 9223372036854775808 / a.natAbs ≤ 9223372036854775808 / 2 := Nat.div_le_div_left h6 (by omega)
          omega
        · omega
      have e4 : a = 1 := by
        rcases Int.natAbs_eq a with h7 | h7
        · omega
        · exact absurd ⟨e2, by omega⟩ h3
      subst e4
      rw [Int.tdiv_one]
      omega
    · omega
/-- the parts of a run that its place has no part in -/
structure Mc.Ok0 (m : Mc) : Prop where
  st : ∀ v ∈ m.st, VOk v
  out : m.out.length ≤ 16 ∧ ∀ v ∈ m.out, VOk v ∧ v.k ≠ 0
  wl : m.writes.length ≤ 32
  wn : (m.writes.map (·.key)).Nodup
  wv : ∀ x ∈ m.writes, validK x.key = true ∧ VOk x.v ∧ (x.gone = true → x.v = vl0) ∧ (x.gone = false → x.v.k ≠ 0)
  rv : ∀ k ∈ m.reads, validK k = true
  rw_ : cntRW m.reads m.writes ≤ 64
  rn : m.reads.length ≤ m.steps.length
  fu : m.steps.length + m.fuel ≤ 1000000
/-- what the checker says, what is given -/
structure Good (p : Pr) (args : List Vl) (src : List Kv) (d : Nat → Int) : Prop where
  zero : d 0 = 0
  rng : DepR d
  nx : ∀ i, i < p.code.length → d i = -1 ∨ (0 ≤ d i ∧ takes (p.code.getD i is0).op ≤ d i ∧ onD p.code d i ≤ 32 ∧ ∀ to ∈ nexts i (p.code.getD i is0), to < p.code.length ∧ d to = onD p.code d i)
  ins : ∀ i, i < p.code.length → isOp (p.code.getD i is0).op = true ∧ 0 ≤ (p.code.getD i is0).n ∧ (p.code.getD i is0).n < p.most (p.code.getD i is0).op
  cs : p.cs.length ≤ 32 ∧ ∀ v ∈ p.cs, VOk v
  args : p.args = args.length ∧ args.length ≤ 8 ∧ ∀ v ∈ args, VOk v
  src : ∀ x ∈ src, x.2.rng
  n : 1 ≤ p.code.length ∧ p.code.length ≤ 256
structure Mc.Ok (p : Pr) (d : Nat → Int) (m : Mc) : Prop where
  at_ : m.at_ < p.code.length
  dep : d m.at_ = m.st.length
  o : m.Ok0
theorem srcV_ok {src : List Kv} (h : ∀ x ∈ src, x.2.rng) (k : ByteArray) : VOk (srcV src k) := by
  unfold srcV
  split
  · rename_i x hx
    split
    · rename_i ho
      exact ⟨ho, h x (List.mem_of_find?_eq_some hx)⟩
    · exact vok0
  · exact vok0
theorem Mc.Ok0.stk {m : Mc} (h : m.Ok0) {st : List Vl} (hs : ∀ v ∈ st, VOk v) : Mc.Ok0 { m with st := st } := ⟨hs, h.out, h.wl, h.wn, h.wv, h.rv, h.rw_, h.rn, h.fu⟩
theorem Mc.Ok0.atp {m : Mc} (h : m.Ok0) (n : Nat) : Mc.Ok0 { m with at_ := n } := ⟨h.st, h.out, h.wl, h.wn, h.wv, h.rv, h.rw_, h.rn, h.fu⟩
theorem uniqA_snoc {k : ByteArray} : ∀ {l a : List ByteArray}, uniqA a (l ++ [k]) = if memB k (uniqA a l) then uniqA a l else uniqA a l ++ [k]
  | [], a => rfl
  | x :: l, a => by
    show uniqA (if memB x a then a else a ++ [x]) (l ++ [k]) = _
    rw [uniqA_snoc]
    rfl
theorem memB_uniq {k : ByteArray} {l : List ByteArray} : memB k (uniq l) = memB k l := by
  rw [Bool.eq_iff_iff, memB_iff, memB_iff, uniq_mem]
theorem memB_snoc {k j : ByteArray} {l : List ByteArray} : memB k (l ++ [j]) = (memB k l || decide (j = k)) := by unfold memB; rw [List.any_append]; simp
theorem cntRW_read {rs : List ByteArray} {ws : List Wr} {k : ByteArray} : cntRW (rs ++ [k]) ws ≤ cntRW rs ws + (if memB k rs = true then 0 else 1) := by
  unfold cntRW
  have h1 : ((ws.map (·.key)).filter fun j => !memB j (rs ++ [k])).length ≤ ((ws.map (·.key)).filter fun j => !memB j rs).length := by
    rw [← List.countP_eq_length_filter, ← List.countP_eq_length_filter]
    refine List.countP_mono_left fun j _ h => ?_
    rw [memB_snoc] at h
    simp only [Bool.not_eq_true', Bool.or_eq_false_iff] at h
    rw [h.1]; rfl
  have h2 : (uniq (rs ++ [k])).length = (uniq rs).length + (if memB k rs = true then 0 else 1) := by
    have e : uniq (rs ++ [k]) = if memB k (uniq rs) then uniq rs else uniq rs ++ [k] := uniqA_snoc
    rw [e, memB_uniq]
    split <;> simp
  omega
theorem cntRW_write {rs : List ByteArray} {ws : List Wr} {x : Wr} : cntRW rs (putW x ws) ≤ cntRW rs ws + (if memB x.key rs = true ∨ hasW x.key ws = true then 0 else 1) := by
  unfold cntRW
  rw [putW_keys]
  split
  · rename_i h
    simp [h]
  · rename_i h
    rw [List.filter_append, List.length_append]
    have h : hasW x.key ws = false := by simpa using h
    rw [h]
    cases hm : memB x.key rs <;> simp [hm]
    omega
theorem room_read {m : Mc} (h : m.Ok0) {k : ByteArray} (hk : validK k = true) (hr : roomB m k = true) (hw : hasW k m.writes = false) (hs : m.reads.length < m.steps.length) : Mc.Ok0 { m with reads := m.reads ++ [k] } := by
  refine ⟨h.st, h.out, h.wl, h.wn, h.wv, fun j hj => ?_, ?_, ?_, h.fu⟩
  · rcases List.mem_append.1 hj with hj | hj
    · exact h.rv j hj
    · rw [List.mem_singleton.1 hj]; exact hk
  · have h1 := cntRW_read (rs := m.reads) (ws := m.writes) (k := k)
    have h2 := h.rw_
    show cntRW (m.reads ++ [k]) m.writes ≤ 64
    unfold roomB at hr
    rw [hw] at hr
    simp only [Bool.or_false, Bool.or_eq_true, decide_eq_true_eq] at hr
    split at h1
    · omega
    · rename_i h3
      rcases hr with hr | hr
      · exact absurd hr h3
      · omega
  · show (m.reads ++ [k]).length ≤ _
    rw [List.length_append, List.length_singleton]
    exact hs
theorem write_ok {m m' : Mc} (h : m.Ok0) {x : Wr} (hk : validK x.key = true) (hv : VOk x.v) (h1 : x.gone = true → x.v = vl0) (h2 : x.gone = false → x.v.k ≠ 0) (hw : m.write x = .ok m') : m'.Ok0 ∧ m'.st = m.st ∧ m'.at_ = m.at_ := by
  unfold Mc.write at hw
  split at hw
  · cases hw
  rename_i hr
  split at hw
  · cases hw
  rename_i hl
  cases hw
  refine ⟨⟨h.st, h.out, ?_, putW_nodup h.wn, fun y hy => ?_, h.rv, ?_, h.rn, h.fu⟩, rfl, rfl⟩
  · show (putW x m.writes).length ≤ 32
    rw [putW_len]
    have := h.wl
    split
    · omega
    · rename_i h3
      have h3 : hasW x.key m.writes = false := by simpa using h3
      by_cases h4 : 32 ≤ m.writes.length
      · exact absurd ⟨h3, h4⟩ hl
      · omega
  · rcases putW_mem hy with rfl | hy
    · exact ⟨hk, hv, h1, h2⟩
    · exact h.wv y hy
  · have h3 := cntRW_write (rs := m.reads) (ws := m.writes) (x := x)
    have h4 := h.rw_
    show cntRW m.reads (putW x m.writes) ≤ 64
    have hr : roomB m x.key = true := by simpa using hr
    unfold roomB at hr
    simp only [Bool.or_eq_true, decide_eq_true_eq] at hr
    split at h3
    · omega
    · rename_i h5
      rcases hr with hr | hr
      · exact absurd hr h5
      · omega
theorem load_ok {m m' : Mc} {src : List Kv} (hsrc : ∀ x ∈ src, x.2.rng) (h : m.Ok0) {k : ByteArray} {v : Vl} (hk : validK k = true) (hs : m.reads.length < m.steps.length) (hl : m.load src k = .ok (v, m')) : m'.Ok0 ∧ VOk v ∧ m'.st = m.st ∧ m'.at_ = m.at_ := by
  unfold Mc.load at hl
  split at hl
  · rename_i x hx
    cases hl
    exact ⟨h, (h.wv x (getW_some hx).1).2.1, rfl, rfl⟩
  · rename_i hx
    split at hl
    · rename_i hr
      cases hl
      exact ⟨room_read h hk hr (getW_none.1 hx) hs, srcV_ok hsrc k, rfl, rfl⟩
    · cases hl
theorem push_ok {m : Mc} (h : m.Ok0) {x : Vl} {r : List Vl} (hr : ∀ v ∈ r, VOk v) (hx : VOk x) : Mc.Ok0 { m with st := x :: r } := h.stk fun v hv => by
  rcases List.mem_cons.1 hv with rfl | hv
  · exact hx
  · exact hr v hv
theorem two_ok {op : Int} {m m' : Mc} {a b : Vl} {r : List Vl} (h : m.Ok0) (ha : VOk a) (hb : VOk b) (hr : ∀ v ∈ r, VOk v) (hw : twoP op m a b r = .ok m') : m'.Ok0 ∧ m'.at_ = m.at_ ∧ m'.st.length = r.length + (if op = 22 then 0 else 1) := by
  unfold twoP at hw
  by_cases o1 : op = 13
  · rw [if_pos o1] at hw; cases hw
    exact ⟨push_ok h hr (vok_tru _), rfl, by rw [o1]; rfl⟩
  rw [if_neg o1] at hw
  by_cases o2 : op = 14
  · rw [if_pos o2] at hw; cases hw
    exact ⟨push_ok h hr (vok_tru _), rfl, by rw [o2]; rfl⟩
  rw [if_neg o2] at hw
  by_cases o3 : op = 24
  · rw [if_pos o3] at hw
    split at hw
    · rename_i hk
      split at hw
      · rename_i hl
        cases hw
        refine ⟨push_ok h hr (vok_wrd ?_ (okT_app (iok_text hb.1 hk.2).2.2 (iok_text ha.1 hk.1).2.2)), rfl, by rw [o3]; rfl⟩
        rw [ByteArray.size_append]; exact hl
      · cases hw
    · cases hw
  rw [if_neg o3] at hw
  by_cases o4 : op = 22
  · rw [if_pos o4] at hw
    split at hw
    · rename_i hk
      split at hw
      · cases hw
      · rename_i hv
        obtain ⟨h1, h2, h3⟩ := write_ok (h.stk hr) (x := ⟨b.s, false, a⟩) (by simpa using hv) ha (fun e => by cases e) (fun _ => hk.2) hw
        exact ⟨h1, h3, by rw [h2, if_pos o4]; rfl⟩
    · cases hw
  rw [if_neg o4] at hw
  split at hw
  · rename_i hk
    split at hw
    · cases hw
      exact ⟨push_ok h hr (vok_tru _), rfl, by rw [if_neg o4]; rfl⟩
    split at hw
    · cases hw
      exact ⟨push_ok h hr (vok_tru _), rfl, by rw [if_neg o4]; rfl⟩
    split at hw
    · rename_i n hn
      cases hw
      exact ⟨push_ok h hr (vok_num (arith_rng (inR_iff.2 hb.2) (inR_iff.2 ha.2) hn)), rfl, by rw [if_neg o4]; rfl⟩
    · cases hw
  · cases hw
theorem key_ok {v : Vl} (h : ¬ keyE v ≠ 0) : v.k = 2 ∧ validK v.s = true := by
  unfold keyE at h
  split at h
  · omega
  · rename_i h1
    split at h
    · omega
    · rename_i h2
      exact ⟨by omega, by simpa using h2⟩
theorem one_ok {op : Int} {src : List Kv} {m m' : Mc} {a : Vl} {r : List Vl} (hsrc : ∀ x ∈ src, x.2.rng) (h : m.Ok0) (ha : VOk a) (hr : ∀ v ∈ r, VOk v) (hs : m.reads.length < m.steps.length) (hw : oneP op src m a r = .ok m') : m'.Ok0 ∧ m'.at_ = m.at_ ∧ m'.st.length = r.length + (if op = 23 ∨ op = 29 then 0 else 1) ∧ op ≠ 30 := by
  unfold oneP at hw
  by_cases o1 : op = 12
  · rw [if_pos o1] at hw
    split at hw
    · split at hw
      · cases hw
      · rename_i hm
        cases hw
        refine ⟨push_ok h hr (vok_num ?_), rfl, by rw [o1]; rfl, by omega⟩
        have := ha.2
        unfold Vl.rng at this
        unfold minI at hm
        rw [inR_iff]; omega
    · cases hw
  rw [if_neg o1] at hw
  by_cases o2 : op = 15
  · rw [if_pos o2] at hw
    split at hw
    · cases hw
      exact ⟨push_ok h hr (vok_tru _), rfl, by rw [o2]; rfl, by omega⟩
    · cases hw
  rw [if_neg o2] at hw
  by_cases o3 : op = 20
  · rw [if_pos o3] at hw
    split at hw
    · cases hw
    · rename_i hk
      split at hw
      · rename_i v m1 hl
        cases hw
        obtain ⟨h1, h2, h3, h4⟩ := load_ok hsrc h (key_ok hk).2 hs hl
        exact ⟨push_ok h1 hr h2, h4, by rw [o3]; rfl, by omega⟩
      · cases hw
  rw [if_neg o3] at hw
  by_cases o4 : op = 21
  · rw [if_pos o4] at hw
    split at hw
    · cases hw
    · rename_i hk
      split at hw
      · rename_i v m1 hl
        cases hw
        obtain ⟨h1, h2, h3, h4⟩ := load_ok hsrc h (key_ok hk).2 hs hl
        exact ⟨push_ok h1 hr (vok_tru _), h4, by rw [o4]; rfl, by omega⟩
      · cases hw
  rw [if_neg o4] at hw
  by_cases o5 : op = 23
  · rw [if_pos o5] at hw
    split at hw
    · cases hw
    · rename_i hk
      obtain ⟨h1, h2, h3⟩ := write_ok (h.stk hr) (x := ⟨a.s, true, vl0⟩) (key_ok hk).2 vok0 (fun _ => rfl) (fun e => by cases e) hw
      exact ⟨h1, h3, by rw [h2, if_pos (.inl o5)]; rfl, by omega⟩
  rw [if_neg o5] at hw
  by_cases o6 : op = 25
  · rw [if_pos o6] at hw
    split at hw
    · cases hw
      have := okT_itoa ha.2.1 ha.2.2
      exact ⟨push_ok h hr (vok_wrd this.2 this.1), rfl, by rw [o6]; rfl, by omega⟩
    · cases hw
  rw [if_neg o6] at hw
  by_cases o7 : op = 26
  · rw [if_pos o7] at hw
    split at hw
    · split at hw
      · rename_i hn
        cases hw
        exact ⟨push_ok h hr (vok_num (numR_rng hn)), rfl, by rw [o7]; rfl, by omega⟩
      · cases hw
    · cases hw
  rw [if_neg o7] at hw
  by_cases o8 : op = 27
  · rw [if_pos o8] at hw
    split at hw
    · cases hw
      have := isz_le ha.1
      exact ⟨push_ok h hr (vok_num (inR_iff.2 (by omega))), rfl, by rw [o8]; rfl, by omega⟩
    · cases hw
  rw [if_neg o8] at hw
  by_cases o9 : op = 28
  · rw [if_pos o9] at hw
    cases hw
    exact ⟨push_ok h hr (vok_tru _), rfl, by rw [o9]; rfl, by omega⟩
  rw [if_neg o9] at hw
  by_cases o10 : op = 29
  · rw [if_pos o10] at hw
    split at hw
    · cases hw
    · rename_i hk
      split at hw
      · cases hw
      · rename_i hl
        cases hw
        refine ⟨⟨hr, ⟨?_, fun v hv => ?_⟩, h.wl, h.wn, h.wv, h.rv, h.rw_, h.rn, h.fu⟩, rfl, by rw [if_pos (.inr o10)]; rfl, by omega⟩
        · show (m.out ++ [a]).length ≤ 16
          rw [List.length_append, List.length_singleton]; omega
        · rcases List.mem_append.1 hv with hv | hv
          · exact h.out.2 v hv
          · rw [List.mem_singleton.1 hv]; exact ⟨ha, hk⟩
  rw [if_neg o10] at hw
  split at hw
  · split at hw <;> cases hw
  · cases hw
theorem getD_mem {α : Type} {l : List α} {n : Nat} {x : α} (h : n < l.length) : l.getD n x ∈ l := by
  rw [List.getD_eq_getElem?_getD, List.getElem?_eq_getElem h]; exact List.getElem_mem h
theorem mov_ok {p : Pr} {args : List Vl} {m : Mc} {i : Is} (hc : ∀ v ∈ p.cs, VOk v) (ha : ∀ v ∈ args, VOk v) (hal : p.args = args.length) (h : m.Ok0) (h1 : 1 ≤ i.op) (h6 : i.op ≤ 6) (hn : 0 ≤ i.n ∧ i.n < p.most i.op) (ht : takes i.op ≤ m.st.length) :
    (movP p args m i).Ok0 ∧ ((movP p args m i).st.length : Int) = m.st.length - takes i.op + lays i.op := by
  unfold movP
  by_cases o1 : i.op = 1
  · rw [if_pos o1]
    rw [o1] at hn
    have hn2 : i.n < p.cs.length := hn.2
    refine ⟨push_ok h h.st (hc _ (getD_mem (by omega))), ?_⟩
    rw [o1]; show ((m.st.length + 1 : Nat) : Int) = m.st.length - 0 + 1
    omega
  rw [if_neg o1]
  by_cases o2 : i.op = 2
  · rw [if_pos o2]
    rw [o2] at hn
    have hn2 : i.n < p.args := hn.2
    refine ⟨push_ok h h.st (ha _ (getD_mem (by omega))), ?_⟩
    rw [o2]; show ((m.st.length + 1 : Nat) : Int) = m.st.length - 0 + 1
    omega
  rw [if_neg o2]
  by_cases o3 : i.op = 3
  · rw [if_pos o3]
    rw [o3] at ht
    have ht : (1 : Int) ≤ m.st.length := ht
    cases hs : m.st with
    | nil => rw [hs] at ht; simp at ht
    | cons x r =>
      refine ⟨push_ok h (by rw [← hs]; exact h.st) (h.st x (by rw [hs]; exact List.mem_cons_self ..)), ?_⟩
      rw [o3]; show (((x :: r).length + 1 : Nat) : Int) = (x :: r).length - 1 + 2
      omega
  rw [if_neg o3]
  by_cases o4 : i.op = 4
  · rw [if_pos o4]
    rw [o4] at ht
    have ht : (1 : Int) ≤ m.st.length := ht
    refine ⟨h.stk fun v hv => h.st v (List.mem_of_mem_tail hv), ?_⟩
    rw [o4]; show (m.st.tail.length : Int) = m.st.length - 1 + 0
    rw [List.length_tail]; omega
  rw [if_neg o4]
  by_cases o5 : i.op = 5
  · rw [if_pos o5]
    rw [o5] at ht
    have ht : (2 : Int) ≤ m.st.length := ht
    cases hs : m.st with
    | nil => rw [hs] at ht; simp at ht
    | cons x r =>
      cases r with
      | nil => rw [hs] at ht; simp at ht
      | cons y r =>
        refine ⟨h.stk fun v hv => h.st v ?_, ?_⟩
        · rw [hs]
          simp only [List.mem_cons] at hv ⊢
          rcases hv with e | e | e
          · exact .inr (.inl e)
          · exact .inl e
          · exact .inr (.inr e)
        · rw [o5]; show ((y :: x :: r).length : Int) = (x :: y :: r).length - 2 + 2
          simp only [List.length_cons]; omega
  rw [if_neg o5]
  have o6 : i.op = 6 := by omega
  rw [o6] at ht
  have ht : (2 : Int) ≤ m.st.length := ht
  refine ⟨push_ok h h.st (h.st _ (getD_mem (by omega))), ?_⟩
  rw [o6]; show ((m.st.length + 1 : Nat) : Int) = m.st.length - 2 + 3
  omega
theorem on_ok {p : Pr} {args : List Vl} {src : List Kv} {d : Nat → Int} {m m1 : Mc} {i : Is} (G : Good p args src d) (h : m.Ok0) (hat : m.at_ < p.code.length) (hi : i = p.code.getD m.at_ is0) (ht : takes i.op ≤ m.st.length) (hs : m.reads.length < m.steps.length) (hr : i.op ≠ 31) (hw : onP p args src m i = .ok m1) :
    m1.Ok0 ∧ m1.at_ ∈ nexts m.at_ i ∧ (m1.st.length : Int) = m.st.length - takes i.op + lays i.op := by
  obtain ⟨g1, g2, g3⟩ := G.ins _ hat
  rw [← hi] at g1 g2 g3
  unfold isOp at g1
  simp only [Bool.and_eq_true, decide_eq_true_eq] at g1
  unfold onP at hw
  by_cases o1 : i.op ≤ 6
  · rw [if_pos o1] at hw
    cases hw
    obtain ⟨a1, a2⟩ := mov_ok G.cs.2 G.args.2.2 G.args.1 h g1.1 o1 ⟨g2, g3⟩ ht
    refine ⟨a1.atp _, ?_, a2⟩
    show m.at_ + 1 ∈ nexts m.at_ i
    unfold nexts
    rw [if_neg (by omega), if_neg (by omega), if_neg (by omega)]
    exact List.mem_singleton.2 rfl
  rw [if_neg o1] at hw
  by_cases o2 : i.op = 18
  · rw [if_pos o2] at hw
    cases hw
    refine ⟨h.atp _, ?_, ?_⟩
    · show i.n.toNat ∈ nexts m.at_ i
      unfold nexts
      rw [if_pos o2]
      exact List.mem_singleton.2 rfl
    · rw [o2]; show (m.st.length : Int) = m.st.length - 0 + 0
      omega
  rw [if_neg o2] at hw
  by_cases o3 : i.op = 19
  · rw [if_pos o3] at hw
    split at hw
    · rename_i a r hst
      split at hw
      · cases hw
        refine ⟨(h.stk (st := r) fun v hv => h.st v (by rw [hst]; exact List.mem_cons_of_mem _ hv)).atp _, ?_, ?_⟩
        · show (if a.n = 0 then i.n.toNat else m.at_ + 1) ∈ nexts m.at_ i
          unfold nexts
          rw [if_neg o2, if_pos o3]
          split
          · exact List.mem_cons_of_mem _ (List.mem_singleton.2 rfl)
          · exact List.mem_cons_self ..
        · rw [o3, hst]; show (r.length : Int) = (a :: r).length - 1 + 0
          simp only [List.length_cons]; omega
      · cases hw
    · cases hw
  rw [if_neg o3] at hw
  have hnx : i.op ≠ 30 → m.at_ + 1 ∈ nexts m.at_ i := fun h30 => by
    unfold nexts
    rw [if_neg o2, if_neg o3, if_neg (by rintro (e | e) <;> omega)]
    exact List.mem_singleton.2 rfl
  by_cases o4 : takes i.op = 2
  · rw [if_pos o4] at hw
    split at hw
    · rename_i a b r hst
      cases hq : twoP i.op m a b r with
      | error e => rw [hq] at hw; cases hw
      | ok m2 =>
        rw [hq] at hw
        cases hw
        have hm := fun v hv => h.st v (by rw [hst]; exact hv)
        obtain ⟨b1, b2, b3⟩ := two_ok h (hm a (List.mem_cons_self ..)) (hm b (List.mem_cons_of_mem _ (List.mem_cons_self ..))) (fun v hv => hm v (List.mem_cons_of_mem _ (List.mem_cons_of_mem _ hv))) hq
        have h30 : i.op ≠ 30 := fun e => by rw [e] at o4; cases o4
        refine ⟨b1.atp _, hnx h30, ?_⟩
        show (m2.st.length : Int) = _
        rw [b3, hst, o4]
        unfold takes at o4
        unfold lays
        simp only [List.length_cons]
        split at o4
        · cases o4
        split at o4
        · rename_i e1 e2
          by_cases e22 : i.op = 22
          · rw [if_pos e22, e22]; simp; omega
          · rw [if_neg e22, if_neg (by omega), if_neg (by omega), if_pos (by omega)]
            omega
        · cases o4
    · cases hw
  rw [if_neg o4] at hw
  split at hw
  · rename_i a r hst
    cases hq : oneP i.op src m a r with
    | error e => rw [hq] at hw; cases hw
    | ok m2 =>
      rw [hq] at hw
      cases hw
      have hm := fun v hv => h.st v (by rw [hst]; exact hv)
      obtain ⟨b1, b2, b3, b4⟩ := one_ok G.src h (hm a (List.mem_cons_self ..)) (fun v hv => hm v (List.mem_cons_of_mem _ hv)) hs hq
      refine ⟨b1.atp _, hnx b4, ?_⟩
      show (m2.st.length : Int) = _
      rw [b3, hst]
      have o6 : ¬ (i.op = 5 ∨ i.op = 6 ∨ i.op = 7 ∨ i.op = 8 ∨ i.op = 9 ∨ i.op = 10 ∨ i.op = 11 ∨ i.op = 13 ∨ i.op = 14 ∨ i.op = 16 ∨ i.op = 17 ∨ i.op = 22 ∨ i.op = 24) := fun e => o4 (by unfold takes; rw [if_neg (by omega), if_pos e])
      have o7 : i.op = 12 ∨ i.op = 15 ∨ i.op = 20 ∨ i.op = 21 ∨ i.op = 23 ∨ i.op = 25 ∨ i.op = 26 ∨ i.op = 27 ∨ i.op = 28 ∨ i.op = 29 := by omega
      have o5 : takes i.op = 1 := by
        unfold takes
        rw [if_pos (by omega)]
      rw [o5]
      unfold lays
      simp only [List.length_cons]
      by_cases e1 : i.op = 23 ∨ i.op = 29
      · rw [if_pos e1, if_neg (by omega), if_neg (by omega), if_neg (by omega)]
        omega
      · rw [if_neg e1, if_neg (by omega), if_neg (by omega), if_pos (by omega)]
        omega
  · cases hw
/-- an instruction keeps what always holds -/
theorem step_ok {p : Pr} {args : List Vl} {src : List Kv} {d : Nat → Int} {m m1 : Mc} (G : Good p args src d) (h : m.Ok p d) (hw : stepP p args src m = .inr m1) : m1.Ok p d := by
  unfold stepP at hw
  split at hw
  · cases hw
  rename_i hf
  split at hw
  · cases hw
  rename_i hr
  split at hw
  · rename_i m2 ho
    cases hw
    have hnx := G.nx m.at_ h.at_
    rcases hnx with e | ⟨_, n2, n3, n4⟩
    · have := h.dep; omega
    · rw [h.dep] at n2
      have hk : m.tick.Ok0 := by
        obtain ⟨a1, a2, a3, a4, a5, a6, a7, a8, a9⟩ := h.o
        refine ⟨a1, a2, a3, a4, a5, a6, a7, ?_, ?_⟩
        · show m.reads.length ≤ (m.steps ++ [m.at_]).length
          rw [List.length_append, List.length_singleton]; omega
        · show (m.steps ++ [m.at_]).length + (m.fuel - 1) ≤ 1000000
          rw [List.length_append, List.length_singleton]; omega
      obtain ⟨b1, b2, b3⟩ := on_ok (m := m.tick) G hk h.at_ rfl n2 (by
        show m.reads.length < (m.steps ++ [m.at_]).length
        have := h.o.rn
        rw [List.length_append, List.length_singleton]; omega) hr ho
      obtain ⟨c1, c2⟩ := n4 _ b2
      refine ⟨c1, ?_, b1⟩
      rw [c2]
      unfold onD
      rw [h.dep, b3]
      rfl
  · cases hw
theorem good_of {p : Pr} {args : List Vl} {src : List Kv} (hc : p.check.1 = 0) (hcs : ∀ v ∈ p.cs, v.rng) (hl : p.args = args.length) (ha : ∀ v ∈ args, VOk v) (hs : ∀ x ∈ src, x.2.rng) : ∃ d, Good p args src d := by
  obtain ⟨hf, d, hd⟩ := check_find hc fun e he => find_bad he
  obtain ⟨f1, f2, f3⟩ := find_ok hd
  unfold Pr.form at hf
  split at hf
  · cases hf
  rename_i g1
  split at hf
  · cases hf
  rename_i g2
  split at hf
  · rename_i g3; exact absurd hf g3
  rename_i g3
  split at hf
  · cases hf
  rename_i g4
  have g3 : (scan (fun i => conE (p.cs.getD i vl0)) p.cs.length 0).1 = 0 := by omega
  have k1 := (scan_zero _ _ _).1 g3
  have k2 := (scan_zero _ _ _).1 hf
  refine ⟨d, f1, f2, f3, fun i hi => ?_, ⟨by omega, fun v hv => ?_⟩, ⟨hl, by omega, ha⟩, hs, by omega⟩
  · have := k2 i (Nat.zero_le _) (by omega)
    unfold Pr.insE at this
    split at this
    · cases this
    · rename_i e1
      split at this
      · rename_i e2
        exact ⟨by simpa using e1, e2⟩
      · cases this
  · obtain ⟨j, hj, e⟩ := List.mem_iff_getElem.1 hv
    have := k1 j (Nat.zero_le _) (by omega)
    simp only [List.getD_eq_getElem?_getD, hj, List.getElem?_eq_getElem, Option.getD_some, e] at this
    unfold conE at this
    split at this
    · rename_i e1; exact ⟨e1.1, hcs v hv⟩
    · cases this
theorem mc0_ok {p : Pr} {args : List Vl} {src : List Kv} {d : Nat → Int} (G : Good p args src d) {fuel : Nat} (h : fuel ≤ 1000000) : (mc0 fuel).Ok p d := ⟨G.n.1, G.zero, ⟨fun v hv => (by cases hv), ⟨by simp [mc0], fun v hv => (by cases hv)⟩, by simp [mc0], List.nodup_nil, fun x hx => (by cases hx), fun k hk => (by cases hk), by simp [mc0, cntRW, uniq, uniqA], by simp [mc0], by simp [mc0]; omega⟩⟩
end Go.Proofs.YtdmogoaaecdbaaaGreatDoor

