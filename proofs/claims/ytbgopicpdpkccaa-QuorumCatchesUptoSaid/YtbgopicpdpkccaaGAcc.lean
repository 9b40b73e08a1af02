/- quorum: acceptedOf. -/
import Derived.Test.YtbgopicpdpkccaaGAns2
namespace Go.Proofs.Ytbgopicpdpkccaa
open Go.RowKit
set_option linter.unusedVariables false
set_option linter.unusedSimpArgs false

/-- a bid with an answer more, if the answer counts -/
def Sl.cnts (x : Sl) (m : Ml) (acc : Bool) : Option Bd := match x.bid with
  | none => none
  | some d => if d.bal = m.bal ∧ d.acc = acc ∧ getA m.fr d.ans = none then some { d with ans := setA m.fr ⟨m.had, m.text⟩ d.ans } else none
theorem Sl.cnts_none {x : Sl} {m : Ml} {acc : Bool} (h : x.cnts m acc = none) : ∀ d, x.bid = some d → d.bal = m.bal → d.acc = acc → (getA m.fr d.ans).isSome := by
  intro d hd h1 h2
  unfold Sl.cnts at h
  rw [hd] at h
  simp only at h
  split at h
  · cases h
  · rename_i hn
    cases hg : getA m.fr d.ans with
    | none => exact absurd ⟨h1, h2, hg⟩ hn
    | some v => rfl
theorem Sl.cnts_some {x : Sl} {m : Ml} {acc : Bool} {d2 : Bd} (h : x.cnts m acc = some d2) : ∃ d, x.bid = some d ∧ d.bal = m.bal ∧ d.acc = acc ∧ getA m.fr d.ans = none ∧ d2 = { d with ans := setA m.fr ⟨m.had, m.text⟩ d.ans } := by
  unfold Sl.cnts at h
  cases hd : x.bid with
  | none => rw [hd] at h; cases h
  | some d =>
    rw [hd] at h
    simp only at h
    split at h
    · rename_i hc
      injection h with h
      exact ⟨d, rfl, hc.1, hc.2.1, hc.2.2, h.symm⟩
    · cases h
def Gr.acceptedOf (G : Gr) (i : Nat) (s : Int) (x : Sl) (m : Ml) : Gr := match x.cnts m true with
  | none => G
  | some d2 => if d2.ans.length = G.nds.length / 2 + 1 then (G.setSl i s { x with bid := none }).sendAll ⟨5, m.dst, 0, m.slot, m.bal, bal0, d2.text⟩ else G.setSl i s { x with bid := some d2 }
theorem setSl_setSl (G : Gr) (i : Nat) (s : Int) (x y : Sl) (hi : i < G.nds.length) : (G.setSl i s x).setSl i s y = G.setSl i s y := by
  have hs : ∀ l : List (Int × Sl), setA s y (setA s x l) = setA s y l := by
    intro l
    induction l with
    | nil => simp [setA]
    | cons p l ih =>
      unfold setA
      by_cases e : s = p.1
      · rw [if_pos e]; simp [setA, e]
      · rw [if_neg e]; simp [setA, e, ih]
  unfold Gr.setSl
  rw [Gr.nd_set _ _ _ _ hi, if_pos rfl]
  show Gr.setNd _ i ⟨(G.nd i).up, setA s y (setA s x (G.nd i).sl)⟩ = _
  rw [hs]
  unfold Gr.setNd
  simp
section
variable {S : Nat → Prop} {w w' : World} {g : Nat} {An Am : Option Addr} {cn cm : Nat} {G : Gr} {a : Ad}
set_option maxRecDepth 100000 in
set_option maxHeartbeats 2000000 in
theorem acceptedOf_any (m : Ml) (x : Sl) (i : Nat) (s : Int) (h : GIn S w g An cn Am cm G a) (hi : i < G.nds.length) (hx : getA s (G.nd i).sl = some x) (hn : G.nds.length ≤ 1000) : Calls Try.prog 59 #[.pointer (some ⟨g, 0, none⟩), .pointer (some ⟨a.sb i s, 0, none⟩), .agg #[.int .i64 m.kind, .int .i64 m.fr, .int .i64 m.dst, .int .i64 m.slot, .int .i64 m.bal.rd, .int .i64 m.bal.nd, .int .i64 m.had.rd, .int .i64 m.had.nd, .string m.text]] w fun e w' => e = .returned (.tuple #[]) ∧ GGo S w g (G.acceptedOf i s x m) w' := by
  have hB0 : Below w.heap.size w (w.alloc (.cells #[.int .i64 m.kind, .int .i64 m.fr, .int .i64 m.dst, .int .i64 m.slot, .int .i64 m.bal.rd, .int .i64 m.bal.nd, .int .i64 m.had.rd, .int .i64 m.had.nd, .string m.text] 78)) := (Below.refl _ _).alloc (Nat.le_refl _) _
  have kb := Blk.new w 78 #[.int .i64 m.kind, .int .i64 m.fr, .int .i64 m.dst, .int .i64 m.slot, .int .i64 m.bal.rd, .int .i64 m.bal.nd, .int .i64 m.had.rd, .int .i64 m.had.nd, .string m.text]
  have hSlt := h.lt
  have q := h.below hB0
  have hB := hid hB0
  have hh := hid q
  clear h hB0
  have e0 : (w.alloc (.cells #[.int .i64 m.kind, .int .i64 m.fr, .int .i64 m.dst, .int .i64 m.slot, .int .i64 m.bal.rd, .int .i64 m.bal.nd, .int .i64 m.had.rd, .int .i64 m.had.nd, .string m.text] 78)).cell? ⟨w.heap.size, 0, none⟩ = some (.int .i64 m.kind) := kb.cell 0
  have e1 : (w.alloc (.cells #[.int .i64 m.kind, .int .i64 m.fr, .int .i64 m.dst, .int .i64 m.slot, .int .i64 m.bal.rd, .int .i64 m.bal.nd, .int .i64 m.had.rd, .int .i64 m.had.nd, .string m.text] 78)).cell? ⟨w.heap.size, 1, none⟩ = some (.int .i64 m.fr) := kb.cell 1
  have e2 : (w.alloc (.cells #[.int .i64 m.kind, .int .i64 m.fr, .int .i64 m.dst, .int .i64 m.slot, .int .i64 m.bal.rd, .int .i64 m.bal.nd, .int .i64 m.had.rd, .int .i64 m.had.nd, .string m.text] 78)).cell? ⟨w.heap.size, 2, none⟩ = some (.int .i64 m.dst) := kb.cell 2
  have e3 : (w.alloc (.cells #[.int .i64 m.kind, .int .i64 m.fr, .int .i64 m.dst, .int .i64 m.slot, .int .i64 m.bal.rd, .int .i64 m.bal.nd, .int .i64 m.had.rd, .int .i64 m.had.nd, .string m.text] 78)).cell? ⟨w.heap.size, 3, none⟩ = some (.int .i64 m.slot) := kb.cell 3
  have e4 : (w.alloc (.cells #[.int .i64 m.kind, .int .i64 m.fr, .int .i64 m.dst, .int .i64 m.slot, .int .i64 m.bal.rd, .int .i64 m.bal.nd, .int .i64 m.had.rd, .int .i64 m.had.nd, .string m.text] 78)).cell? ⟨w.heap.size, 4, none⟩ = some (.int .i64 m.bal.rd) := kb.cell 4
  have e5 : (w.alloc (.cells #[.int .i64 m.kind, .int .i64 m.fr, .int .i64 m.dst, .int .i64 m.slot, .int .i64 m.bal.rd, .int .i64 m.bal.nd, .int .i64 m.had.rd, .int .i64 m.had.nd, .string m.text] 78)).cell? ⟨w.heap.size, 5, none⟩ = some (.int .i64 m.bal.nd) := kb.cell 5
  have e6 : (w.alloc (.cells #[.int .i64 m.kind, .int .i64 m.fr, .int .i64 m.dst, .int .i64 m.slot, .int .i64 m.bal.rd, .int .i64 m.bal.nd, .int .i64 m.had.rd, .int .i64 m.had.nd, .string m.text] 78)).cell? ⟨w.heap.size, 6, none⟩ = some (.int .i64 m.had.rd) := kb.cell 6
  have e7 : (w.alloc (.cells #[.int .i64 m.kind, .int .i64 m.fr, .int .i64 m.dst, .int .i64 m.slot, .int .i64 m.bal.rd, .int .i64 m.bal.nd, .int .i64 m.had.rd, .int .i64 m.had.nd, .string m.text] 78)).cell? ⟨w.heap.size, 7, none⟩ = some (.int .i64 m.had.nd) := kb.cell 7
  have e8 : (w.alloc (.cells #[.int .i64 m.kind, .int .i64 m.fr, .int .i64 m.dst, .int .i64 m.slot, .int .i64 m.bal.rd, .int .i64 m.bal.nd, .int .i64 m.had.rd, .int .i64 m.had.nd, .string m.text] 78)).cell? ⟨w.heap.size, 8, none⟩ = some (.string m.text) := kb.cell 8
  cases hc : x.cnts m true with
  | none =>
    have hpure : Hid (G.acceptedOf i s x m = G) := hid (by unfold Gr.acceptedOf; rw [hc])
    have hcn := hid (answered_no m x i s true hh.out hi hx (Sl.cnts_none hc))
    have hq := hid q
    clear hc q kb hx
    go_enter Try.func59, Try.ntmps59
    go_wp2_with fail
    refine hcn.out.mono ?_
    rintro e w2 ⟨rfl, hb2⟩
    have hfin : Hid (GGo S w g G w2) := hid ⟨S, ⟨_, _, _, _, _, hq.out.below hb2⟩, fun _ h => .inl h, .of_below' (hB.out.trans (hb2.mono hB.out.size)) _⟩
    clear hb2
    go_wp2_with fail
    refine bodyPost_ret (v := .tuple #[]) (by simp [results, Try.results59, go_sem]) rfl ?_
    exact ⟨rfl, by rw [hpure.out]; exact hfin.out⟩
  | some d2 =>
    obtain ⟨d, hd, h1, h2, hag, hd2⟩ := Sl.cnts_some hc
    have hcy0 := answered_yes m x i s true hh.out hi hx d hd h1 h2 hag hn
    have hl2 : d2.ans.length = d.ans.length + 1 := by rw [hd2]; exact setA_len hag
    rw [← hd2] at hcy0
    have hcy := hid hcy0
    have hpure : Hid (G.acceptedOf i s x m = if d2.ans.length = G.nds.length / 2 + 1 then (G.setSl i s { x with bid := none }).sendAll ⟨5, m.dst, 0, m.slot, m.bal, bal0, d2.text⟩ else G.setSl i s { x with bid := some d2 }) := hid (by unfold Gr.acceptedOf; rw [hc])
    have hl2 := hid hl2
    clear hc hd h1 h2 hag hd2 hcy0 q
    have hWS : (w.alloc (.cells #[.int .i64 m.kind, .int .i64 m.fr, .int .i64 m.dst, .int .i64 m.slot, .int .i64 m.bal.rd, .int .i64 m.bal.nd, .int .i64 m.had.rd, .int .i64 m.had.nd, .string m.text] 78)).heap.size = w.heap.size + 1 := by simp
    have hWS := hid hWS
    go_enter Try.func59, Try.ntmps59
    go_wp2_with fail
    refine hcy.out.mono ?_
    rintro e w2 ⟨rfl, S2, q2, hS2, hu2⟩
    have hWS2 := hWS.out
    by_cases hmaj : d.ans.length = G.nds.length / 2
    · have tt : decide (d.ans.length = G.nds.length / 2) = true := decide_eq_true hmaj
      have hmaj2 : Hid (d2.ans.length = G.nds.length / 2 + 1) := hid (by rw [hl2.out, hmaj])
      have hlen2 : (G.setSl i s { x with bid := some d2 }).nds.length = G.nds.length := Gr.len_set _ _ _
      have hi2 : i < (G.setSl i s { x with bid := some d2 }).nds.length := by omega
      have hx2 : getA s ((G.setSl i s { x with bid := some d2 }).nd i).sl = some { x with bid := some d2 } := by
        unfold Gr.setSl
        rw [Gr.nd_set _ _ _ _ hi, if_pos rfl]
        show getA s (setA s _ (G.nd i).sl) = _
        rw [getA_set, if_pos rfl]
      obtain ⟨kS, hSs, hbd⟩ := q2.sl i hi2 (s, { x with bid := some d2 }) (getA_mem hx2)
      obtain ⟨kD, hSd, hSa, hmp, hon⟩ := hbd d2 rfl
      have s8 : w2.cell? ⟨a.sb i s, 8, none⟩ = some (.pointer (some ⟨a.bb i s, 0, none⟩)) := kS.cell 8
      have d2' : w2.cell? ⟨a.bb i s, 2, none⟩ = some (.string d2.text) := kD.cell 2
      have qs := fun j => kS.frozen j
      have hsl : a.sb i s < w2.heap.size := kS.lt
      have hSs : S2 (a.sb i s) := hSs
      have kb2 := kb.upd hu2 fun hS => by have := hSlt _ hS; omega
      have hzb := kb2.lt
      have hsw : a.sb i s ≠ w.heap.size := fun e => by
        rcases hS2 _ hSs with h | h
        · have := hSlt _ h; omega
        · omega
      have hu3 : Upd (fun k => k = a.sb i s) w2 (w2.setCell ⟨a.sb i s, 8, none⟩ (.pointer none)) := (Upd.refl (fun k => k = a.sb i s) w2).setCell (p := ⟨a.sb i s, 8, none⟩) (fun _ => rfl) _
      have kb3 := kb2.upd hu3 (Ne.symm hsw)
      have q3 : GAt S2 (w2.setCell ⟨a.sb i s, 8, none⟩ (.pointer none)) g (G.setSl i s { x with bid := none }) := by
        have := q2.slot (S' := S2) (x' := { x with bid := none }) (bb' := a.bb i s) (ab' := a.ab i s) hi2 hx2 hu3 (fun k hk => .inl hk) (fun _ => id) (fun k hk => by have := q2.lt k hk; simpa using this) ⟨kS.set_ 8 (.pointer none), hSs, fun d hd => by cases hd⟩ (fun hs => by cases hs)
        rw [setSl_setSl _ _ _ _ _ hi] at this
        exact ⟨_, _, _, _, _, this⟩
      have hz3 : (w2.setCell ⟨a.sb i s, 8, none⟩ (.pointer none)).heap.size = w2.heap.size := by simp
      have hz2 := hu2.size
      have hlen3 : (G.setSl i s { x with bid := none }).nds.length = G.nds.length := Gr.len_set _ _ _
      have hlen3 := hid hlen3
      clear hlen2 hx2 kD hmp hon q2 hmaj e0 e1 e2 e3 e4 e5 e6 e7 e8 kb kb2 kS hbd
      go_upto_region 4 with fail
      generalize w2.setCell ⟨a.sb i s, 8, none⟩ (.pointer none) = w3 at *
      have e0 : w3.cell? ⟨w.heap.size, 0, none⟩ = some (.int .i64 m.kind) := kb3.cell 0
      have e1 : w3.cell? ⟨w.heap.size, 1, none⟩ = some (.int .i64 m.fr) := kb3.cell 1
      have e2 : w3.cell? ⟨w.heap.size, 2, none⟩ = some (.int .i64 m.dst) := kb3.cell 2
      have e3 : w3.cell? ⟨w.heap.size, 3, none⟩ = some (.int .i64 m.slot) := kb3.cell 3
      have e4 : w3.cell? ⟨w.heap.size, 4, none⟩ = some (.int .i64 m.bal.rd) := kb3.cell 4
      have e5 : w3.cell? ⟨w.heap.size, 5, none⟩ = some (.int .i64 m.bal.nd) := kb3.cell 5
      have e6 : w3.cell? ⟨w.heap.size, 6, none⟩ = some (.int .i64 m.had.rd) := kb3.cell 6
      have e7 : w3.cell? ⟨w.heap.size, 7, none⟩ = some (.int .i64 m.had.nd) := kb3.cell 7
      have e8 : w3.cell? ⟨w.heap.size, 8, none⟩ = some (.string m.text) := kb3.cell 8
      clear s8 d2' qs
      go_wp2_with fail
      refine (sendAll_any ⟨5, m.dst, 0, m.slot, m.bal, bal0, d2.text⟩ q3 (by rw [hlen3.out]; exact hn)).mono ?_
      rintro e w4 ⟨rfl, S4, h4, hS4, hu4⟩
      go_wp2_with fail
      go_end0
      refine ⟨rfl, ?_⟩
      rw [hpure.out, if_pos hmaj2.out]
      refine ⟨S4, h4, fun k hk => ?_, ?_⟩
      · rcases hS4 k hk with h | h
        · rcases hS2 k h with h | h
          · exact .inl h
          · exact .inr (by omega)
        · exact .inr (by omega)
      · refine (((Upd.of_below' hB.out S).trans hu2 fun _ _ h => h).trans (hu3.mono (M' := S2) fun k _ h => h ▸ hSs) fun k hk h => ?_).trans hu4 fun k hk h => ?_
        · rcases hS2 k h with h | h
          · exact h
          · omega
        · rcases hS2 k h with h | h
          · exact h
          · omega
    · have tt : decide (d.ans.length = G.nds.length / 2) = false := decide_eq_false hmaj
      have hmaj2 : Hid (¬ d2.ans.length = G.nds.length / 2 + 1) := hid (by rw [hl2.out]; omega)
      have hfin : Hid (GGo S w g (G.setSl i s { x with bid := some d2 }) w2) := hid ⟨S2, ⟨_, _, _, _, _, q2⟩, fun k hk => (hS2 k hk).imp id (by omega), (Upd.of_below' hB.out S).trans hu2 fun _ _ h => h⟩
      clear q2 hu2 hmaj
      go_wp2_with fail
      refine bodyPost_ret (v := .tuple #[]) (by simp [results, Try.results59, go_sem]) rfl ?_
      refine ⟨rfl, ?_⟩
      rw [hpure.out, if_neg hmaj2.out]
      exact hfin.out
end

end Go.Proofs.Ytbgopicpdpkccaa
