/- Merge.Missing (both), ints, Same. -/
import Derived.Test.YtlnlffpkdeaimaaRTake
namespace Go.Proofs.Ytlnlffpkdeaimaa
open Go.RowKit
set_option linter.unusedVariables false

def intsV (l : List Int) : List Value := l.map (Value.int .i64)
theorem ints_one (l : List Int) : ∀ u ∈ intsV l, u.oneCell' = true := by
  intro u hu
  obtain ⟨_, _, rfl⟩ := List.mem_map.1 hu
  rfl
theorem intsV_app (l m : List Int) : intsV (l ++ m) = intsV l ++ intsV m := by simp [intsV]
theorem info_int : (Try.prog.info? 3).map (fun i => (i.zero, i.size, i.bytes)) = some (some (.int .i64 0), 1, 8) := by kernel_rfl

section
variable {P : Program} (w : World)
/-- append in a plain region: the value handed on as a slice, the count and the cells as they are named -/
theorem wpList_append_n {ops : Array Oper} {rest : List Oper} {o : Oper} {a : Act} {Q : Exit → Act → World → Prop} (hgd : o.guard = none) (s x : Operand) (t : TypeId)
    (ho : o.op = .call { callee := .builtin .append, args := #[s, x], argTypes := #[t, t] })
    (base : Nat) (e : TypeId) (i : TypeInfo) (z : Value) (size bytes : Nat) (ht : P.underlying t = some (.slice e)) (hi : P.info? e = some i) (hz : i.zero = some z)
    (hsize : i.size = size) (hby : i.bytes = bytes) (hzs : z.cells.size = size) (hsz : 0 < size)
    (v : Value) (n : Nat) (xs : List Value) (hs : a.eval s = v) (hown : w.ownsRow base e size v n xs)
    (S : Nat → Prop) (A : Option Addr) (m c : Nat) (news : List Value) (hx : a.eval x = .slice A m c) (hr : Rd S w size A m news) (h1 : ∀ u ∈ news, u.oneCell' = true)
    (h63 : n + m ≤ maxLen) (hbytes : (n + m) * bytes ≤ 140737488355328) (hbase : base ≤ w.heap.size) (N : Nat) (hN : n + m = N) (ys : List Value) (hys : xs ++ news = ys)
    (h : ∀ A' c' w', w'.ownsRow base e size (.slice A' N c') N ys → w.grownBy w' v.ownBlock → ((Value.slice A' N c').ownBlock = v.ownBlock ∨ (Value.slice A' N c').ownBlock = some w.heap.size) → wpList P ops Q rest (a.put o.dst (.slice A' N c')) w') :
    wpList P ops Q (o :: rest) a w :=
  wpList_append_rd w hgd s x t ho base e i z size bytes ht hi hz hsize hby hzs hsz v n xs hs hown S A m c news hx hr h1 h63 hbytes hbase (fun v' w' h2 h3 h4 => by
    subst hN; subst hys
    obtain ⟨A', c', rfl, _, _⟩ := own_form h2
    exact h A' c' w' h2 h3 h4)
end
theorem sext {S : Nat → Prop} {w : World} {A : Option Addr} {c n : Nat} {l : List Int} (h : w.ownsRow n 3 1 (.slice A l.length c) l.length (intsV l)) : ∀ k, (Value.slice A l.length c).ownBlock = some k → n ≤ k := fun k hk => (h.lt k hk).1

/-- the sequencers from s to n whose batch of epoch e is not there -/
def missL {α : Type} (e : Int) (L : List ((Int × Int) × α)) (s : Int) : Nat → List Int
  | 0 => []
  | k + 1 => missL e L s k ++ (match getA (e, s + k) L with | some _ => [] | none => [s + k])
theorem missL_len {α : Type} (e : Int) (L : List ((Int × Int) × α)) (s : Int) (k : Nat) : (missL e L s k).length ≤ k := by
  induction k with
  | zero => simp [missL]
  | succ k ih => simp only [missL, List.length_append]; split <;> simp <;> omega

/-- a slice of these numbers, in new memory -/
def IntsRet (w : World) (l : List Int) (r : Ending) (w' : World) : Prop := ∃ A c, r = .returned (.slice A l.length c) ∧ Rd (fun b => w.heap.size ≤ b) w' 1 A l.length (intsV l) ∧ Below w.heap.size w w'

set_option maxRecDepth 100000 in
set_option maxHeartbeats 1000000 in
theorem missing_any (g mb : Nat) (n e s : Int) (H : List ((Int × Int) × HV)) (w : World) (h : MergeAt w g mb n e s H) (hs0 : 0 ≤ s) (hs1 : s ≤ n) (hn : n ≤ 1000) :
    Calls Try.prog 25 #[.pointer (some ⟨g, 0, none⟩)] w (IntsRet w (missL e H s (n - s).toNat)) := by
  obtain ⟨ii, hii, hi0, hi1, hi2⟩ := info_parts info_int
  obtain ⟨c0, c1, c2, c3⟩ := h.cells
  have hg := h.blk.lt
  go_enter Try.func25, Try.ntmps25
  go_wp2_with fail
  go_loopw [3, 4] (fun v i wr => ∃ (k : Nat) (A : Option Addr) (c : Nat), (i = .int .i64 (s + k) ∧ s + k ≤ n) ∧ v = .slice A (missL e H s k).length c ∧ wr.ownsRow w.heap.size 3 1 (.slice A (missL e H s k).length c) (missL e H s k).length (intsV (missL e H s k)) ∧ Below w.heap.size w wr) (fun _ i _ => (n - intOf i).toNat)
  case atStart => exact ⟨0, none, 0, ⟨by simp, by simpa using hs1⟩, rfl, World.ownsRow_nil _ _ _ _, Below.refl _ _⟩
  case round =>
    obtain ⟨k, A, c, ⟨rfl, hk⟩, rfl, hown, hB⟩ := hrel
    have hm1 := h.below hB
    clear c0 c1 c2 c3
    obtain ⟨c0, c1, c2, c3⟩ := hm1.cells
    have hlen := missL_len e H s k
    by_cases hlt : s + k < n
    · cases hget : getA (e, s + k) H with
      | some hv =>
        have hgk : getK (e, s + k) (hvals H) = some hv.val := by rw [getK_hvals, hget]; rfl
        have hst : Hid (missL e H s (k + 1) = missL e H s k) := by simp [missL, hget]; exact hid trivial
        have hlk : ∀ j, (Instr.lookup 73 (.map (some mb)) (.agg #[.int .i64 e, .int .i64 (s + k)]) true).run Try.prog (wr.drewN j) = .ok (.tuple #[.slice hv.A hv.rs.length hv.c, .bool true]) (wr.drewN j) := fun j => by
          have := (hm1.map.keep (w' := wr.drewN j) rfl).lookup_ok Try.underlying73 zero_plans (e, s + k)
          rw [hgk] at this
          exact this
        clear hget hgk
        go_wp2_with fail
        go_quiet (fail)
        go_wp2_with fail
        go_roundw
        case rel => exact ⟨k + 1, A, c, ⟨by go_num, by omega⟩, by rw [hst.out], by rw [hst.out]; exact hown, below_drewN hB _⟩
        case measure => simp [intOf]; omega
      | none =>
        have hgk : getK (e, s + k) (hvals H) = none := by rw [getK_hvals, hget]; rfl
        have hst : Hid (missL e H s (k + 1) = missL e H s k ++ [s + k]) := by simp [missL, hget]; exact hid trivial
        have hlk : ∀ j, (Instr.lookup 73 (.map (some mb)) (.agg #[.int .i64 e, .int .i64 (s + k)]) true).run Try.prog (wr.drewN j) = .ok (.tuple #[.slice none 0 0, .bool false]) (wr.drewN j) := fun j => by
          have := (hm1.map.keep (w' := wr.drewN j) rfl).lookup_ok Try.underlying73 zero_plans (e, s + k)
          rw [hgk] at this
          exact this
        clear hget hgk
        go_wp2_with fail
        go_quiet (fail)
        clear hlk
        go_wp2_with (at_builtin; refine wpList_append_n _ rfl (.tmp 39) (.tmp 41) 26 rfl w.heap.size 3 ii _ 1 8 Try.underlying26 hii hi0 hi1 hi2 rfl (by omega) (.slice A (missL e H s k).length c) (missL e H s k).length (intsV (missL e H s k)) rfl ?_ (fun b => b = wr.heap.size) (some ⟨wr.heap.size, 0, none⟩) 1 1 [.int .i64 (s + k)] rfl ?_ ?_ ?_ ?_ ?_ ((missL e H s k).length + 1) rfl (intsV (missL e H s k) ++ [.int .i64 (s + k)]) rfl ?_
                     · exact World.ownsRow.alloc (w := wr.drewN nq) hown _
                     · exact Rd.new (wr.drewN nq) 3 1 1 #[.int .i64 (s + k)] _ rfl rfl
                     · intro u hu; obtain rfl := List.mem_singleton.1 hu; rfl
                     · simp only [maxLen]; omega
                     · omega
                     · have := hB.size; simp; omega
                     intro A2 c2 w2 hown2 hg2 hat2
                     have hB2 : Below w.heap.size w w2 := (Below.alloc (w := wr.drewN nq) (below_drewN hB nq) hB.size _).grown hg2 (by have := hB.size; simp; omega) (sext (S := Nil) hown))
        go_roundw
        case rel =>
          have e1 : (missL e H s k ++ [s + k]).length = (missL e H s k).length + 1 := by simp
          exact ⟨k + 1, A2, c2, ⟨by go_num, by omega⟩, by rw [hst.out, e1], by rw [hst.out, e1, intsV_app]; exact hown2, hB2⟩
        case measure => simp [intOf]; omega
    · have hkn : Hid ((n - s).toNat = k) := by have : s + k = n := by omega
                                               exact hid (by omega)
      go_wp2_with fail
      go_ret
      refine ⟨A, c, ?_, ?_, hB⟩
      · rw [hkn.out]; rfl
      · rw [hkn.out]; exact Rd.of_own' hown

set_option maxRecDepth 100000 in
set_option maxHeartbeats 1000000 in
theorem rmissing_any (S : Nat → Prop) (g : Nat) (n e s : Int) (AL : Option Addr) (cL : Nat) (H : List ((Int × Int) × HV)) (w : World) (h : RAt S w g n e s AL cL H) (hL : H.length ≤ 1000000) (hs0 : 0 ≤ s) (hs1 : s ≤ n) (hn : n ≤ 1000) :
    Calls Try.prog 26 #[.pointer (some ⟨g, 0, none⟩)] w (IntsRet w (missL e H s (n - s).toNat)) := by
  obtain ⟨ii, hii, hi0, hi1, hi2⟩ := info_parts info_int
  obtain ⟨c0, c1, c2, c3⟩ := h.cells
  have hg := h.blk.lt
  go_enter Try.func26, Try.ntmps26
  go_wp2_with fail
  go_loopw [3, 4] (fun v i wr => ∃ (k : Nat) (A : Option Addr) (c : Nat), (i = .int .i64 (s + k) ∧ s + k ≤ n) ∧ v = .slice A (missL e H s k).length c ∧ wr.ownsRow w.heap.size 3 1 (.slice A (missL e H s k).length c) (missL e H s k).length (intsV (missL e H s k)) ∧ Below w.heap.size w wr) (fun _ i _ => (n - intOf i).toNat)
  case atStart => exact ⟨0, none, 0, ⟨by simp, by simpa using hs1⟩, rfl, World.ownsRow_nil _ _ _ _, Below.refl _ _⟩
  case round =>
    obtain ⟨k, A, c, ⟨rfl, hk⟩, rfl, hown, hB⟩ := hrel
    have hm1 := h.below hB
    clear c0 c1 c2 c3
    obtain ⟨c0, c1, c2, c3⟩ := hm1.cells
    have hlen := missL_len e H s k
    by_cases hlt : s + k < n
    · rcases idxA_getA (e, s + (k : Int)) H 0 with ⟨hget, hidx⟩ | ⟨m, v, hm, hget, hidx, _⟩
      · have hst : Hid (missL e H s (k + 1) = missL e H s k ++ [s + k]) := by simp [missL, hget]; exact hid trivial
        have hidx := hid hidx
        clear hget
        go_wp2_with fail
        refine (at_any S g AL cL H e (s + k) _ c3 hm1.row.rd (by omega)).mono ?_
        rintro r w' ⟨rfl, rfl⟩
        rw [hidx.out]
        go_wp2_with (at_builtin; refine wpList_append_n _ rfl (.tmp 25) (.tmp 27) 26 rfl w.heap.size 3 ii _ 1 8 Try.underlying26 hii hi0 hi1 hi2 rfl (by omega) (.slice A (missL e H s k).length c) (missL e H s k).length (intsV (missL e H s k)) rfl ?_ (fun b => b = wr.heap.size) (some ⟨wr.heap.size, 0, none⟩) 1 1 [.int .i64 (s + k)] rfl ?_ ?_ ?_ ?_ ?_ ((missL e H s k).length + 1) rfl (intsV (missL e H s k) ++ [.int .i64 (s + k)]) rfl ?_
                     · exact World.ownsRow.alloc (w := wr) hown _
                     · exact Rd.new wr 3 1 1 #[.int .i64 (s + k)] _ rfl rfl
                     · intro u hu; obtain rfl := List.mem_singleton.1 hu; rfl
                     · simp only [maxLen]; omega
                     · omega
                     · have := hB.size; simp; omega
                     intro A2 c2 w2 hown2 hg2 hat2
                     have hB2 : Below w.heap.size w w2 := (Below.alloc (w := wr) hB hB.size _).grown hg2 (by have := hB.size; simp; omega) (sext (S := Nil) hown))
        go_roundw
        case rel =>
          have e1 : (missL e H s k ++ [s + k]).length = (missL e H s k).length + 1 := by simp
          exact ⟨k + 1, A2, c2, ⟨by go_num, by omega⟩, by rw [hst.out, e1], by rw [hst.out, e1, intsV_app]; exact hown2, hB2⟩
        case measure => simp [intOf]; omega
      · have hst : Hid (missL e H s (k + 1) = missL e H s k) := by simp [missL, hget]; exact hid trivial
        have hidx1 : idxA (e, s + (k : Int)) H 0 = (m : Int) := by simpa using hidx
        clear hidx
        have hidx := hid hidx1
        clear hidx1
        have hm0 : decide ((m : Int) < 0) = false := by simp
        clear hget
        go_wp2_with fail
        refine (at_any S g AL cL H e (s + k) _ c3 hm1.row.rd (by omega)).mono ?_
        rintro r w' ⟨rfl, rfl⟩
        rw [hidx.out]
        go_wp2_with fail
        go_roundw
        case rel => exact ⟨k + 1, A, c, ⟨by go_num, by omega⟩, by rw [hst.out], by rw [hst.out]; exact hown, hB⟩
        case measure => simp [intOf]; omega
    · have hkn : Hid ((n - s).toNat = k) := by have : s + k = n := by omega
                                               exact hid (by omega)
      go_wp2_with fail
      go_ret
      refine ⟨A, c, ?_, ?_, hB⟩
      · rw [hkn.out]; rfl
      · rw [hkn.out]; exact Rd.of_own' hown

set_option maxHeartbeats 400000 in
theorem ints_any (S S' : Nat → Prop) (A B : Option Addr) (l m : List Int) (c d : Nat) (w : World) (ha : Rd S w 1 A l.length (intsV l)) (hb : Rd S' w 1 B m.length (intsV m)) (hl : l.length ≤ 1000000) (hm : m.length ≤ 1000000) :
    Calls Try.prog 24 #[.slice A l.length c, .slice B m.length d] w fun e w' => e = .returned (.bool (eqL l m)) ∧ ∃ k, w' = w.drewN k := by
  by_cases hlen0 : l.length = m.length
  · have hlen := hid hlen0
    have hle : l.length ≤ m.length := by omega
    have h : ((l.length : Int) != (m.length : Int)) = false := by simp [hlen0]
    clear hlen0
    go_enter Try.func24, Try.ntmps24
    go_wp2_with fail
    go_loopw [5] (fun i wr => ∃ k q : Nat, k ≤ l.length ∧ i = .int .i64 k ∧ wr = w.drewN q ∧ ∀ j (h1 : j < l.length) (h2 : j < m.length), j < k → l[j] = m[j]) (fun i _ => l.length - (intOf i).toNat)
    case atStart => exact ⟨0, 0, by omega, rfl, rfl, fun j _ _ hj => absurd hj (by omega)⟩
    case round =>
      obtain ⟨k, q, hk, rfl, rfl, hall0⟩ := hrel
      have hall := hid hall0
      clear hall0
      by_cases hlt : k < l.length
      · have hlt2 : k < m.length := by omega
        obtain ⟨b1, o1, rfl, _, hb1, hc1⟩ := ha.at_ hlt
        obtain ⟨b2, o2, rfl, _, hb2, hc2⟩ := hb.at_ hlt2
        have e1 := hc1 k (.int .i64 l[k]) (by simp [intsV, hlt])
        have e2 := hc2 k (.int .i64 m[k]) (by simp [intsV, hlt2])
        have i1 : (k : Int) < (l.length : Int) := by omega
        have i2 : (k : Int) < (m.length : Int) := by omega
        clear hc1 hc2 ha hb
        by_cases he0 : l[k] = m[k]
        · have hd : (l[k] != m[k]) = false := by simpa using he0
          have he := hid he0
          clear he0
          go_wp2_with fail
          go_quiet (fail)
          go_wp2
          go_roundw
          case rel => exact ⟨k + 1, _, by omega, by go_num, rfl, all_step hall.out hlt hlt2 he.out⟩
          case measure => simp [intOf]; omega
        · have hd : (l[k] != m[k]) = true := by simpa using he0
          go_wp2_with fail
          go_quiet (fail)
          go_wp2
          go_ret
          exact ⟨by rw [eqL_at hlt hlt2 he0]; rfl, _, World.drewN_drewN _ _ _⟩
      · obtain rfl : k = l.length := by omega
        go_wp2_with fail
        go_ret
        exact ⟨by rw [eqL_all hlen.out hall.out]; rfl, q, rfl⟩
  · have h : ((l.length : Int) != (m.length : Int)) = true := by simp; omega
    go_enter Try.func24, Try.ntmps24
    go_wp2_with fail
    go_ret
    exact ⟨by rw [eqL_len hlen0]; rfl, 0, rfl⟩

/-- two ordered batches compared -/
def eqO (s s' e e' : Int) (l m : List Pl) : Bool := decide (s = s') && eqB e e' l m
set_option maxHeartbeats 400000 in
theorem rsame_any (S S' : Nat → Prop) (A B : Option Addr) (l m : List RP) (x y s t : Int) (c d : Nat) (w : World) (ha : PlansOk S w A l) (hb : PlansOk S' w B m)
    (hl : l.length ≤ 1000000000) (hm : m.length ≤ 1000000000) (hfl : ∀ r ∈ l, r.p.fits) (hfm : ∀ r ∈ m, r.p.fits) :
    Calls Try.prog 14 #[.agg #[.int .i64 x, .int .i64 s, .slice A l.length c], .agg #[.int .i64 y, .int .i64 t, .slice B m.length d]] w
      fun e w' => e = .returned (.bool (eqO s t x y (plans l) (plans m))) ∧ Below w.heap.size w w' := by
  have hB := below_two (w := w) (.cells #[.int .i64 x, .int .i64 s, .slice A l.length c] 42) (.cells #[.int .i64 y, .int .i64 t, .slice B m.length d] 42)
  have ha1 := ha.below hB
  have hb1 := hb.below hB
  have hB := hid hB
  by_cases hst : s = t
  · have hd : (s == t) = true := by simpa using hst
    have he : eqO s t x y (plans l) (plans m) = eqB x y (plans l) (plans m) := by simp [eqO, hst]
    have he := hid he
    clear hst
    go_enter Try.func14, Try.ntmps14
    go_wp2_with (go_at_call 21; refine (batches_any S S' _ _ l m x y _ _ _ ha1 hb1 hl hm hfl hfm).mono ?_; rintro e w1 ⟨rfl, hb2⟩)
    go_ret
    exact ⟨by rw [he.out]; rfl, hB.out.trans (hb2.mono (by simp; omega))⟩
  · have hd : (s == t) = false := by simpa using hst
    have he : eqO s t x y (plans l) (plans m) = false := by simp [eqO, hst]
    have he := hid he
    clear hst
    go_enter Try.func14, Try.ntmps14
    go_wp2_with fail
    go_ret
    exact ⟨by rw [he.out]; rfl, hB.out⟩

end Go.Proofs.Ytlnlffpkdeaimaa
