/- all: what can be taken, one behind the other. -/
import Derived.Test.YtlnlffpkdeaimaaOrd
import Derived.Test.YtlnlffpkdeaimaaTake
import Derived.Test.YtlnlffpkdeaimaaRTake
namespace Go.Proofs.Ytlnlffpkdeaimaa
open Go.RowKit
set_option linter.unusedVariables false
set_option linter.unusedSimpArgs false

theorem takesN_held (N : Nat) : ∀ (m k : Nat) (H : List ((Int × Int) × HV)), held (takesN N m k H) = takesN N m k (held H) := by
  intro m
  induction m with
  | zero => intro k H; rfl
  | succ m ih =>
    intro k H
    unfold takesN
    rw [getA_held]
    cases getA (keyN N k) H with
    | none => rfl
    | some hv =>
      simp only [Option.map_some]
      rw [← delA_held, ← ih]; rfl
theorem takesN_sub {α : Type} (N : Nat) : ∀ (m k : Nat) (L : List ((Int × Int) × α)) (h), h ∈ takesN N m k L → h ∈ L := by
  intro m
  induction m with
  | zero => intro k L h hh; cases hh
  | succ m ih =>
    intro k L h hh
    unfold takesN at hh
    cases hg : getA (keyN N k) L with
    | none => rw [hg] at hh; cases hh
    | some v =>
      rw [hg] at hh
      rcases List.mem_cons.1 hh with rfl | hh
      · exact getA_mem hg
      · exact (delA_sub _ _).subset (ih _ _ _ hh)
theorem takesN_none {α : Type} {N m k : Nat} {L : List ((Int × Int) × α)} (h : getA (keyN N k) L = none) : takesN N (m + 1) k L = [] := by
  show (match getA (keyN N k) L with | none => [] | some p => (keyN N k, p) :: takesN N m (k + 1) (delA (keyN N k) L)) = []
  rw [h]
theorem takesN_some {α : Type} {N m k : Nat} {L : List ((Int × Int) × α)} {v : α} (h : getA (keyN N k) L = some v) : takesN N (m + 1) k L = (keyN N k, v) :: takesN N m (k + 1) (delA (keyN N k) L) := by
  show (match getA (keyN N k) L with | none => [] | some p => (keyN N k, p) :: takesN N m (k + 1) (delA (keyN N k) L)) = _
  rw [h]
theorem takesN_key {α : Type} (N : Nat) : ∀ (m k : Nat) (L : List ((Int × Int) × α)) (i : Nat) (h : i < (takesN N m k L).length), (takesN N m k L)[i].1 = keyN N (k + i) := by
  intro m
  induction m with
  | zero => intro k L i h; simp [takesN] at h
  | succ m ih =>
    intro k L i h
    cases hg : getA (keyN N k) L with
    | none => simp [takesN, hg] at h
    | some v =>
      have e : takesN N (m + 1) k L = (keyN N k, v) :: takesN N m (k + 1) (delA (keyN N k) L) := by
        show (match getA (keyN N k) L with | none => [] | some p => (keyN N k, p) :: takesN N m (k + 1) (delA (keyN N k) L)) = _
        rw [hg]
      simp only [e] at h ⊢
      cases i with
      | zero => rfl
      | succ i =>
        simp only [List.getElem_cons_succ]
        rw [ih, Nat.add_right_comm]; rfl
theorem takesN_le {α : Type} (N : Nat) : ∀ (m k : Nat) (L : List ((Int × Int) × α)), (takesN N m k L).length ≤ m := by
  intro m
  induction m with
  | zero => intro k L; exact Nat.le_refl _
  | succ m ih =>
    intro k L
    unfold takesN
    cases getA (keyN N k) L with
    | none => exact Nat.zero_le _
    | some v => exact Nat.succ_le_succ (ih _ _)
theorem keyN_next (N k : Nat) (h : 1 ≤ N) : (((k % N : Nat) : Int) + 1 = (N : Int) → keyN N (k + 1) = (((k / N : Nat) : Int) + 1, 0)) ∧ (((k % N : Nat) : Int) + 1 ≠ (N : Int) → keyN N (k + 1) = (((k / N : Nat) : Int), ((k % N : Nat) : Int) + 1)) := by
  have hm : k % N < N := Nat.mod_lt _ h
  have hd := Nat.div_add_mod k N
  constructor
  · intro e
    have e1 : k + 1 = N * (k / N + 1) := by rw [Nat.mul_add]; omega
    unfold keyN
    rw [e1, Nat.mul_div_cancel_left _ h, Nat.mul_mod_right]
    simp
  · intro e
    have e1 : k + 1 = N * (k / N) + (k % N + 1) := by omega
    have e2 : k % N + 1 < N := by omega
    unfold keyN
    rw [e1, Nat.mul_add_div h, Nat.mul_add_mod, Nat.div_eq_of_lt e2, Nat.mod_eq_of_lt e2]
    simp

def ocell (h : (Int × Int) × HV) : List Value := [.int .i64 h.1.1, .int .i64 h.1.2, .slice h.2.A h.2.rs.length h.2.c]
def ocells (L : List ((Int × Int) × HV)) : List Value := L.flatMap ocell
theorem ocell_one (h : (Int × Int) × HV) : ∀ u ∈ ocell h, u.oneCell' = true := by
  intro u hu
  simp only [ocell, List.mem_cons, List.not_mem_nil, or_false] at hu
  rcases hu with h | h | h <;> subst h <;> rfl
theorem ocells_app (L M : List ((Int × Int) × HV)) : ocells (L ++ M) = ocells L ++ ocells M := by simp [ocells]
theorem orow_at {S : Nat → Prop} {w : World} {A : Option Addr} {L : List ((Int × Int) × HV)} (h : Rd S w 3 A L.length (ocells L)) {k : Nat} (hk : k < L.length) : ∃ b o, A = some ⟨b, o, none⟩ ∧ S b ∧ b < w.heap.size ∧
    w.cell? ⟨b, o + k * 3, none⟩ = some (.int .i64 L[k].1.1) ∧ w.cell? ⟨b, o + k * 3 + 1, none⟩ = some (.int .i64 L[k].1.2) ∧ w.cell? ⟨b, o + k * 3 + 2, none⟩ = some (.slice L[k].2.A L[k].2.rs.length L[k].2.c) := by
  obtain ⟨b, o, e, hS, hl, hc⟩ := h.at_ hk
  have g := fun j (hj : j < 3) u (hu : (ocell L[k])[j]? = some u) => hc (k * 3 + j) u (by rw [ocells, flat_at ocell 3 (fun _ => rfl) L k j hk hj]; exact hu)
  simp only [← Nat.add_assoc] at g
  exact ⟨b, o, e, hS, hl, g 0 (by omega) _ rfl, g 1 (by omega) _ rfl, g 2 (by omega) _ rfl⟩
theorem held_at {xs ys : List ((Int × Int) × HV)} (h : held xs = held ys) {i : Nat} (h1 : i < xs.length) (h2 : i < ys.length) : xs[i].1 = ys[i].1 ∧ plans xs[i].2.rs = plans ys[i].2.rs := by
  have e : (held xs)[i]? = (held ys)[i]? := by rw [h]
  simpa [held, h1, h2] using e
theorem info_ord : (Try.prog.info? 42).map (fun i => (i.zero, i.size, i.bytes)) = some (some (.agg #[.int .i64 0, .int .i64 0, .slice none 0 0]), 3, 40) := by kernel_rfl

theorem own_upd {M : Nat → Prop} {w w' : World} {base : Nat} {e : TypeId} {size n : Nat} {v : Value} {xs : List Value} (h : w.ownsRow base e size v n xs) (hu : Upd M w w') (hM : ∀ k, base ≤ k → k < w.heap.size → ¬ M k) : w'.ownsRow base e size v n xs := by
  refine ⟨h.1, ?_⟩
  rcases h.2 with hn | ⟨g, cap, cur, rfl, hg, hh, rest⟩
  · exact .inl hn
  · have hl : g < w.heap.size := (Array.getElem?_eq_some_iff.1 hh).1
    exact .inr ⟨g, cap, cur, rfl, hg, (hu.block g hl (hM g hg hl)).trans hh, rest⟩

def AllPost (w : World) (g mb N : Nat) (H : List ((Int × Int) × HV)) (most : Nat) (r : Ending) (w' : World) : Prop :=
  ∃ A c, r = .returned (.slice A (takesN N most 0 H).length c) ∧ w'.ownsRow w.heap.size 42 3 (.slice A (takesN N most 0 H).length c) (takesN N most 0 H).length (ocells (takesN N most 0 H)) ∧ Upd (fun b => b = g ∨ b = mb) w w'
structure AllRel (w : World) (g mb N : Nat) (H : List ((Int × Int) × HV)) (most : Nat) (k : Nat) (wr : World) (A : Option Addr) (c : Nat) (os H' : List ((Int × Int) × HV)) : Prop where
  le : k ≤ most
  len : os.length = k
  m : MergeAt wr g mb N (k / N : Nat) (k % N : Nat) H'
  eq : os ++ takesN N (most - k) k H' = takesN N most 0 H
  sub : ∀ h ∈ H', h ∈ H
  upd : Upd (fun b => b = g ∨ b = mb) w wr
  own : wr.ownsRow w.heap.size 42 3 (.slice A k c) k (ocells os)

set_option maxRecDepth 100000 in
set_option maxHeartbeats 1000000 in
theorem all_any (g mb N : Nat) (H : List ((Int × Int) × HV)) (most : Nat) (w : World) (h : MergeAt w g mb N 0 0 H) (hn1 : 1 ≤ N) (hn2 : N ≤ 16) (hm : most ≤ 1000001) {mI : Int} (hmI : mI = (most : Int)) :
    Calls Try.prog 13 #[.pointer (some ⟨g, 0, none⟩), .int .i64 mI] w (AllPost w g mb N H most) := by
  subst hmI
  obtain ⟨ip, hip, hp0, hp1, hp2⟩ := info_parts info_ord
  have hout := h.out
  have hgw := h.blk.lt
  have hmw := h.map.lt
  go_enter Try.func13, Try.ntmps13
  go_wp2_with fail
  go_loopw [5, 6] (fun v i wr => ∃ (k : Nat) (A : Option Addr) (c : Nat) (os H' : List ((Int × Int) × HV)), i = .int .i64 k ∧ v = .slice A k c ∧ AllRel w g mb N H most k wr A c os H') (fun _ i _ => most - (intOf i).toNat)
  case atStart => exact ⟨0, none, 0, [], H, rfl, rfl, ⟨Nat.zero_le _, rfl, by simpa using h, rfl, fun _ h => h, Upd.refl _ _, World.ownsRow_nil _ _ _ _⟩⟩
  case round =>
    obtain ⟨k, A, c, os, H', rfl, rfl, R⟩ := hrel
    have hk := R.le
    have hdk : k / N ≤ k := Nat.div_le_self _ _
    have hmk : k % N < N := Nat.mod_lt _ (by omega)
    have hzw := R.upd.size
    have hkey : keyN N k = (((k / N : Nat) : Int), ((k % N : Nat) : Int)) := rfl
    by_cases hlt : k < most
    · have i1 : (k : Int) < (most : Int) := by omega
      have htk : most - k = (most - (k + 1)) + 1 := by omega
      cases hget : getA (((k / N : Nat) : Int), ((k % N : Nat) : Int)) H' with
      | none =>
        have hfin : os = takesN N most 0 H := by
          have h1 := R.eq
          rw [htk, takesN_none (by rw [hkey]; exact hget), List.append_nil] at h1
          exact h1
        have hnext := R.len
        subst hfin
        have hown := R.own
        have hupd := R.upd
        go_wp2_with (go_at_call 17; refine (take_no g mb _ _ _ H' _ R.m hget).mono ?_; rintro r w1 ⟨rfl, hb1⟩)
        go_ret
        have hz1 := hb1.size
        refine ⟨A, c, by rw [hnext]; rfl, ?_, ?_⟩
        · rw [hnext]
          repeat' (refine World.ownsRow.alloc ?_ _)
          exact own_below hown hb1
        · exact (hupd.trans (.of_below' hb1 _) fun _ _ h => h).trans (.of_below' ((Below.refl _ _).alloc (Nat.le_refl _) _) _) fun _ _ h => h
      | some hv =>
        have hnx := hid (keyN_next N k hn1)
        have zs0 : (0 : Int) ≤ ((k % N : Nat) : Int) := Int.natCast_nonneg _
        have zs1 : ((k % N : Nat) : Int) ≤ 1000 := by omega
        have ze0 : (0 : Int) ≤ ((k / N : Nat) : Int) := Int.natCast_nonneg _
        have ze1 : ((k / N : Nat) : Int) ≤ 1000000000 := by omega
        have heq := hid R.eq
        have hlen := hid R.len
        have hsub := hid R.sub
        have hupd := R.upd
        have hown := R.own
        have hmem := getA_mem hget
        have hM0 := R.m
        clear R
        go_wp2_with (first
          | (go_at_call 17; refine (take_yes g mb _ _ _ H' hv _ hM0 hget zs0 zs1 ze0 ze1).mono ?_; rintro r w1 ⟨e1, s1, hc1, rfl, hM1, hu1⟩
             have hz1 := hu1.size
             have hc1 := hid hc1
             have hown1 := own_upd hown hu1 (by rintro q hq _ (h | h) <;> omega)
             have hupd1 := hupd.trans hu1 fun _ _ h => h)
          | (at_builtin; refine wpList_append_rd _ rfl (.tmp 21) (.tmp 23) 38 rfl w.heap.size 42 ip _ 3 40 Try.underlying38 hip hp0 hp1 hp2 rfl (by omega) (.slice A k c) k (ocells os) rfl ((hown1.alloc _).alloc _) (fun b => b = w1.heap.size + 1) (some ⟨w1.heap.size + 1, 0, none⟩) 1 1 (ocell ((((k / N : Nat) : Int), ((k % N : Nat) : Int)), hv)) rfl (Rd.new _ 42 3 1 (ocell ((((k / N : Nat) : Int), ((k % N : Nat) : Int)), hv)).toArray _ (by simp) rfl) (ocell_one _) (by simp only [maxLen]; omega) (by omega) (by simp; omega) ?_; intro v2 w3 hown2 hg2 hat2; obtain ⟨A2, c2, rfl, hc2, _⟩ := own_form hown2))
        have hkn : keyN N (k + 1) = (e1, s1) := by
          rcases hc1.out with ⟨h1, h2, h3⟩ | ⟨h1, h2, h3⟩
          · rw [hnx.out.1 h1, h2, h3]
          · rw [hnx.out.2 h1, h2, h3]
        obtain ⟨he1, hs1⟩ := Prod.mk.inj hkn
        subst he1 hs1
        go_roundw
        case rel =>
          refine ⟨k + 1, A2, c2, os ++ [((((k / N : Nat) : Int), ((k % N : Nat) : Int)), hv)], delA (((k / N : Nat) : Int), ((k % N : Nat) : Int)) H', by go_num, rfl, ?_⟩
          have hzz := hg2.size
          have hrow : ∀ q, (Value.slice A k c).ownBlock = some q → w.heap.size ≤ q := fun q hq => (hown1.lt q hq).1
          have hu3 : Upd (fun b => w.heap.size ≤ b) w1 w3 := (((Upd.refl _ w1).alloc _).alloc _).grown hg2 fun q hq _ => hrow q hq
          refine ⟨by omega, by simp [hlen.out], ?_, ?_, fun h hh => hsub.out h ((delA_sub _ _).subset hh), ?_, ?_⟩
          · refine hM1.upd hu3 (by omega) (by omega) fun x hx q hq => ?_
            have := (hout x (hsub.out x ((delA_sub _ _).subset hx)) q hq).2.2
            omega
          · rw [List.append_assoc, ← heq.out, htk, takesN_some (by rw [hkey]; exact hget)]
            rfl
          · exact hupd1.trans hu3 fun b hb hM => absurd hM (by omega)
          · rw [ocells_app]
            have e2 : ocells [((((k / N : Nat) : Int), ((k % N : Nat) : Int)), hv)] = ocell ((((k / N : Nat) : Int), ((k % N : Nat) : Int)), hv) := by simp [ocells]
            rw [e2]
            exact hown2
        case measure => simp [intOf]; omega
    · obtain rfl : k = most := by omega
      have h1 := R.eq
      rw [Nat.sub_self] at h1
      have hnext := R.len
      obtain rfl : os = takesN N k 0 H := by simpa [takesN] using h1
      go_wp2_with fail
      go_ret
      exact ⟨A, c, by rw [hnext]; rfl, by rw [hnext]; exact R.own, R.upd⟩

end Go.Proofs.Ytlnlffpkdeaimaa
