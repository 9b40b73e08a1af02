/- slices.Delete of one plan. -/
import Derived.Test.YtppcjaljhahdnaaQIndex
import Derived.StillTailTactics
namespace Go.Proofs.Ytppcjaljhahdnaa
open Go.RowKit
set_option linter.unusedVariables false

theorem wpList_append_of {P : Program} {ops : Array Oper} {rest : List Oper} {o : Oper} {a : Act} {w : World} {Q : Exit → Act → World → Prop} (hgd : o.guard = none) (s x : Operand) (t : TypeId)
    (ho : o.op = .call { callee := .builtin .append, args := #[s, x], argTypes := #[t, t] })
    (v1 v2 : Value) (hs : a.eval s = v1) (hx : a.eval x = v2) (v' : Value) (w' : World) (hrun : (Builtin.append_ #[t, t] o.type #[v1, v2]).run P w = .ok v' w')
    (h : wpList P ops Q rest (a.put o.dst v') w') : wpList P ops Q (o :: rest) a w :=
  wpList_plain hgd fun K hK => by
    unfold Oper.wp execOp
    simp only [ho, resolve, invoke, builtin, Sem.run_bind, Sem.run_pure, Result.andThen_ok, List.map_toArray, List.map_cons, List.map_nil, hs, hx, hrun]
    exact hK _ _ h

def zplan : List Value := [.int .i64 0, .int .u64 0, .string ⟨#[]⟩, .slice none 0 0, .int .i64 0, .slice none 0 0, .slice none 0 0]

theorem run_clear_plan (w : World) (g m k : Nat) (cs : Array Value) (ty : TypeId) (hk : Blk w g 40 cs) (hm : m * 7 + 7 ≤ cs.size) :
    (Builtin.clear_ #[65] ty #[.slice (some ⟨g, m * 7, none⟩) 1 k]).run Try.prog w = .ok (.tuple #[]) (w.setCells g (m * 7) zplan) := by
  have hz : (zeroValue 40).run Try.prog w = .ok (.agg #[.int .i64 0, .int .u64 0, .string ⟨#[]⟩, .slice none 0 0, .int .i64 0, .slice none 0 0, .slice none 0 0]) w := by kernel_rfl
  have hzc : (Builtin.zeroCells (Value.agg #[.int .i64 0, .int .u64 0, .string ⟨#[]⟩, .slice none 0 0, .int .i64 0, .slice none 0 0, .slice none 0 0]).cells 1).toList = zplan := by kernel_rfl
  have hst := run_storeCells_cells (P := Try.prog) g (m * 7) zplan 0 w (fun j hj => by
    have h7 : j < 7 := hj
    rw [hk.cell]; simp; omega) (fun j hj => hk.frozen _) (by
    intro v hv
    simp only [zplan, List.mem_cons, List.not_mem_nil, or_false] at hv
    rcases hv with h | h | h | h | h | h | h <;> subst h <;> rfl)
  simp only [Nat.add_zero] at hst
  simp only [Builtin.clear_, Sem.run_bind, run_underlying Try.underlying65, Result.andThen_ok, hz, hzc, hst, List.getElem?_toArray, List.getElem?_cons_zero]
  rfl

set_option maxRecDepth 100000 in
set_option maxHeartbeats 1000000 in
theorem delete_any (g c i : Nat) (rs : List RP) (w : World) (h : w.ownsRow 0 40 7 (.slice (some ⟨g, 0, none⟩) rs.length c) rs.length (pcells rs)) (hi : i < rs.length) (hl : rs.length ≤ 1000000000) :
    Calls Try.prog 55 #[.slice (some ⟨g, 0, none⟩) rs.length c, .int .i64 i, .int .i64 ((i : Int) + 1)] w fun e w' =>
      e = .returned (.slice (some ⟨g, 0, none⟩) (rs.length - 1) c) ∧ w'.ownsRow 0 40 7 (.slice (some ⟨g, 0, none⟩) (rs.length - 1) c) (rs.length - 1) (pcells (rs.take i ++ rs.drop (i + 1))) ∧ Upd (fun k => k = g) w w' := by
  obtain ⟨ip, hip, hp0, hp1, hp2⟩ := info_parts info_cloneP_any
  obtain ⟨cur, hcap, hcm, hk, hcs, htk⟩ : ∃ cur, rs.length ≤ c ∧ c ≤ maxLen ∧ Blk w g 40 cur ∧ cur.size = c * 7 ∧ cur.toList.take (rs.length * 7) = pcells rs := by
    rcases h.2 with ⟨h0, _⟩ | ⟨g', cap', cur, e, _, hb, h1, h2, h3, h4⟩
    · cases h0
    · simp only [Value.slice.injEq, Option.some.injEq, Addr.mk.injEq, true_and, and_true] at e
      obtain ⟨rfl, rfl⟩ := e
      exact ⟨cur, h1, h2, hb, h3, h4⟩
  have hcell : ∀ j u, (pcells rs)[j]? = some u → cur[j]? = some u := fun j u hu => by
    have hj : j < (pcells rs).length := (List.getElem?_eq_some_iff.1 hu).1
    rw [pcells_len] at hj
    rw [← htk, List.getElem?_take, if_pos hj] at hu
    simpa using hu
  obtain ⟨m, hm⟩ : ∃ m, rs.length = m + 1 := ⟨rs.length - 1, by omega⟩
  have hpl := pcells_len rs
  have hdl : (pcells (rs.drop (i + 1))).length = (m - i) * 7 := by rw [pcells_len, List.length_drop, hm]; congr 1; omega
  rw [hm] at hi hl hcap hpl ⊢
  -- the cells that move to the left
  obtain ⟨B, hB, hsrc⟩ : ∃ B : Option Addr, B = (if c = i + 1 then some ⟨g, 0, none⟩ else some ⟨g, (i + 1) * 7, none⟩) ∧ ∃ b, B = some b ∧ ∀ j u, (pcells (rs.drop (i + 1)))[j]? = some u → w.drew.cell? (b.add j) = some u := by
    by_cases hcc : c = i + 1
    · refine ⟨_, rfl, ⟨g, 0, none⟩, by rw [if_pos hcc], fun j u hu => ?_⟩
      have : j < (m - i) * 7 := by rw [← hdl]; exact (List.getElem?_eq_some_iff.1 hu).1
      omega
    · refine ⟨_, rfl, ⟨g, (i + 1) * 7, none⟩, by rw [if_neg hcc], fun j u hu => ?_⟩
      rw [Addr.add_lit]
      refine (hk.cell _).trans (hcell _ _ ?_)
      have e : pcells rs = pcells (rs.take (i + 1)) ++ pcells (rs.drop (i + 1)) := by rw [← pcells_app, List.take_append_drop]
      rw [e, List.getElem?_append_right (by rw [pcells_len, List.length_take, hm]; omega), pcells_len, List.length_take, hm, Nat.min_eq_left (by omega), Nat.add_sub_cancel_left]
      exact hu
  obtain ⟨b, hBb, hsrc⟩ := hsrc
  obtain ⟨W1, hW1⟩ : ∃ W1, W1 = w.drew.setCells g (i * 7) (pcells (rs.drop (i + 1))) := ⟨_, rfl⟩
  have hk1 : Blk W1 g 40 (writeAt cur (i * 7) (pcells (rs.drop (i + 1)))) := by rw [hW1]; exact Blk.setCells _ _ hk.drew
  have hu1 : Upd (fun k => k = g) w W1 := by rw [hW1]; exact Upd.setCells _ _ (Upd.refl _ w).drew fun _ => rfl
  have hrunA : ∀ ty, (Builtin.append_ #[65, 65] ty #[.slice (some ⟨g, 0, none⟩) i c, .slice (some b) (m - i) (c - (i + 1))]).run Try.prog w.drew = .ok (.slice (some ⟨g, 0, none⟩) m c) W1 := fun ty => by
    have hr := run_append_room_cells (P := Try.prog) w.drew 65 ty 40 ip Try.underlying65 hip g 0 i c b (m - i) (c - (i + 1)) (pcells (rs.drop (i + 1))) (by rw [hp1]; exact hdl) hsrc (pcells_one _) (by omega)
      (fun j hj => by rw [hdl] at hj; rw [hp1, hk.drew.cell]; simp; omega) (fun j hj => hk.drew.frozen _)
    rw [hp1, Nat.zero_add, show i + (m - i) = m by omega] at hr
    rw [hW1]; exact hr
  have hrunC : ∀ ty, (Builtin.clear_ #[65] ty #[.slice (some ⟨g, m * 7, none⟩) 1 (c - m)]).run Try.prog W1 = .ok (.tuple #[]) (W1.setCells g (m * 7) zplan) := fun ty => run_clear_plan W1 g m _ _ ty hk1 (by rw [writeAt_size, hcs]; omega)
  have hfin : (W1.setCells g (m * 7) zplan).ownsRow 0 40 7 (.slice (some ⟨g, 0, none⟩) m c) m (pcells (rs.take i ++ rs.drop (i + 1))) := by
    have hz7 : zplan.length = 7 := rfl
    refine ⟨by rw [pcells_len]; simp [hm]; omega, .inr ⟨g, c, _, rfl, Nat.zero_le _, Blk.setCells zplan (m * 7) hk1, by omega, hcm, by rw [writeAt_size, writeAt_size, hcs], ?_⟩⟩
    apply List.ext_getElem?
    intro j
    have hs1 : i * 7 + (pcells (rs.drop (i + 1))).length ≤ cur.size := by rw [hdl, hcs]; omega
    have htl : (pcells (rs.take i)).length = i * 7 := by rw [pcells_len, List.length_take, hm, Nat.min_eq_left (by omega)]
    rw [List.getElem?_take, Array.getElem?_toList, writeAt_get _ _ _ _ (by rw [writeAt_size, hz7, hcs]; omega), writeAt_get _ _ _ _ hs1, pcells_app, hdl]
    by_cases hj : j < m * 7
    · rw [if_pos hj, if_pos hj]
      by_cases hj2 : j < i * 7
      · rw [if_pos hj2, List.getElem?_append_left (by rw [htl]; exact hj2)]
        have e : pcells rs = pcells (rs.take i) ++ pcells (rs.drop i) := by rw [← pcells_app, List.take_append_drop]
        have hlt : j < (pcells (rs.take i)).length := by rw [htl]; exact hj2
        rw [List.getElem?_eq_getElem hlt]
        exact hcell j _ (by rw [e, List.getElem?_append_left hlt, List.getElem?_eq_getElem hlt])
      · rw [if_neg hj2, if_pos (by omega), List.getElem?_append_right (by omega), htl]
    · rw [if_neg hj, List.getElem?_eq_none]
      rw [List.length_append, htl, hdl]; omega
  have hufin : Upd (fun k => k = g) w (W1.setCells g (m * 7) zplan) := Upd.setCells _ _ hu1 fun _ => rfl
  have hfin := hid hfin
  have hufin := hid hufin
  simp only [maxLen] at hcm
  have i1 : (i : Int) ≤ (m : Int) := by omega
  have i2 : (m : Int) + 1 ≤ (c : Int) := by omega
  have j1 : i ≤ c := by omega
  have j2 : (i : Int) + 1 ≤ (c : Int) := by omega
  have j3 : (i : Int) ≤ (c : Int) := by omega
  have j4 : (i : Int) ≤ (i : Int) + 1 := by omega
  have j5 : (0 : Int) ≤ (i : Int) + 1 := by omega
  have j6 : (i : Int) + 1 ≤ (m : Int) + 1 := by omega
  have j7 : (m : Int) ≤ (m : Int) + 1 := by omega
  have j8 : (m : Int) ≤ (c : Int) := by omega
  have hd1 : ((i : Int) == (i : Int) + 1) = false := by simp; omega
  have hcm2 : ¬ c = m := by omega
  have hci : ¬ c = i := by omega
  clear h hk hk1 hcs htk hcell hpl hdl hsrc hW1 hu1 hp0 hm hip
  subst hBb
  go_enter Try.func55, Try.ntmps55
  go_wp2_with fail
  by_cases hcc : c = i + 1
  · rw [if_pos hcc] at hB
    simp only [Option.some.injEq] at hB
    subst hB
    go_still_tail 6, (by kernel_rfl)
    change wpList _ _ _ _ _ w.drew
    subst hcc
    rw [Nat.sub_self] at hrunA
    refine wpList_append_of rfl (.tmp 22) (.tmp 25) 65 rfl _ _ rfl rfl _ _ (hrunA _) ?_
    go_wp2_with fail
    go_ret
    exact ⟨rfl, hfin.out, hufin.out⟩
  · rw [if_neg hcc] at hB
    simp only [Option.some.injEq] at hB
    subst hB
    go_still_tail 6, (by kernel_rfl)
    change wpList _ _ _ _ _ w.drew
    refine wpList_append_of rfl (.tmp 22) (.tmp 25) 65 rfl _ _ rfl rfl _ _ (hrunA _) ?_
    go_wp2_with fail
    go_ret
    exact ⟨rfl, hfin.out, hufin.out⟩

end Go.Proofs.Ytppcjaljhahdnaa
