/- quorum: node, send, sendAll. -/
import Derived.Test.YtbgopicpdpkccaaGFoc
namespace Go.Proofs.Ytbgopicpdpkccaa
open Go.RowKit
set_option linter.unusedVariables false
set_option linter.unusedSimpArgs false

def maxMail : Nat := 4096
def Gr.send (G : Gr) (m : Ml) : Gr := if G.mail.length < 4096 then G.setMail (G.mail ++ [m]) else G
/-- the group goes on -/
def GGo (S : Nat → Prop) (w : World) (g : Nat) (G' : Gr) (w' : World) : Prop := ∃ S', GAt S' w' g G' ∧ (∀ k, S' k → S k ∨ w.heap.size ≤ k) ∧ Upd S w w'
theorem info_mail : (Try.prog.info? 78).map (fun i => (i.zero, i.size, i.bytes)) = some (some (.agg #[.int .i64 0, .int .i64 0, .int .i64 0, .int .i64 0, .int .i64 0, .int .i64 0, .int .i64 0, .int .i64 0, .string ⟨#[]⟩]), 9, 80) := by kernel_rfl
section
variable {S : Nat → Prop} {w w' : World} {g : Nat} {An Am : Option Addr} {cn cm : Nat} {G : Gr} {a : Ad}
theorem GAt.below (h : GAt S w g G) (hb : Below w.heap.size w w') : GAt S w' g G := by
  obtain ⟨An, cn, Am, cm, a, h⟩ := h
  exact ⟨An, cn, Am, cm, a, h.below hb⟩
theorem GAt.lt (h : GAt S w g G) : (∀ k, S k → k < w.heap.size) ∧ S g := by
  obtain ⟨An, cn, Am, cm, a, h⟩ := h
  exact ⟨h.lt, h.inS⟩
theorem GGo.stay (h : GAt S w g G) : GGo S w g G w := ⟨S, h, fun _ h => .inl h, Upd.refl _ _⟩
theorem GGo.of_below (h : GAt S w g G) (hb : Below w.heap.size w w') : GGo S w g G w' := ⟨S, h.below hb, fun _ h => .inl h, .of_below' hb _⟩
theorem GIn.cells (h : GIn S w g An cn Am cm G a) : w.cell? ⟨g, 0, none⟩ = some (.slice An G.nds.length cn) ∧ w.cell? ⟨g, 1, none⟩ = some (.slice Am G.mail.length cm) := ⟨h.blk.cell 0, h.blk.cell 1⟩
/-- a node's pointer -/
theorem GIn.ptr (h : GIn S w g An cn Am cm G a) {i : Nat} (hi : i < G.nds.length) : ∃ b o, An = some ⟨b, o, none⟩ ∧ b < w.heap.size ∧ w.cell? ⟨b, o + i, none⟩ = some (.pointer (some ⟨a.nb i, 0, none⟩)) := by
  obtain ⟨b, o, e, _, hl, hc⟩ := h.nrow.rd.at_ hi
  exact ⟨b, o, e, hl, hc i _ (by simp [hi])⟩
set_option maxRecDepth 100000 in
set_option maxHeartbeats 2000000 in
theorem send_any (m : Ml) (h : GAt S w g G) : Calls Try.prog 43 #[.pointer (some ⟨g, 0, none⟩), .agg #[.int .i64 m.kind, .int .i64 m.fr, .int .i64 m.dst, .int .i64 m.slot, .int .i64 m.bal.rd, .int .i64 m.bal.nd, .int .i64 m.had.rd, .int .i64 m.had.nd, .string m.text]] w fun e w' => e = .returned (.tuple #[]) ∧ GGo S w g (G.send m) w' := by
  have hB : Below w.heap.size w (w.alloc (.cells #[.int .i64 m.kind, .int .i64 m.fr, .int .i64 m.dst, .int .i64 m.slot, .int .i64 m.bal.rd, .int .i64 m.bal.nd, .int .i64 m.had.rd, .int .i64 m.had.nd, .string m.text] 78)) := (Below.refl _ _).alloc (Nat.le_refl _) _
  have kb := Blk.new w 78 #[.int .i64 m.kind, .int .i64 m.fr, .int .i64 m.dst, .int .i64 m.slot, .int .i64 m.bal.rd, .int .i64 m.bal.nd, .int .i64 m.had.rd, .int .i64 m.had.nd, .string m.text]
  obtain ⟨An, cn, Am, cm, a, q0⟩ := h
  have hSlt := q0.lt
  have q := q0.below hB
  clear q0
  obtain ⟨c0, c1⟩ := q.cells
  by_cases hfull : G.mail.length < 4096
  · have hsend : G.send m = G.setMail (G.mail ++ [m]) := by unfold Gr.send; rw [if_pos hfull]
    rw [hsend]
    clear hsend
    have dd : decide ((G.mail.length : Int) < 4096) = true := decide_eq_true (by omega)
    have dd2 : decide (G.mail.length < 4096) = true := by simpa using hfull
    obtain ⟨im, him, hm0, hm1, hm2⟩ := info_parts info_mail
    go_enter Try.func43, Try.ntmps43
    go_upto_region 1 with fail
    generalize w.alloc (.cells #[.int .i64 m.kind, .int .i64 m.fr, .int .i64 m.dst, .int .i64 m.slot, .int .i64 m.bal.rd, .int .i64 m.bal.nd, .int .i64 m.had.rd, .int .i64 m.had.nd, .string m.text] 78) = W1 at *
    have e0 : W1.cell? ⟨w.heap.size, 0, none⟩ = some (.int .i64 m.kind) := kb.cell 0
    have e1 : W1.cell? ⟨w.heap.size, 1, none⟩ = some (.int .i64 m.fr) := kb.cell 1
    have e2 : W1.cell? ⟨w.heap.size, 2, none⟩ = some (.int .i64 m.dst) := kb.cell 2
    have e3 : W1.cell? ⟨w.heap.size, 3, none⟩ = some (.int .i64 m.slot) := kb.cell 3
    have e4 : W1.cell? ⟨w.heap.size, 4, none⟩ = some (.int .i64 m.bal.rd) := kb.cell 4
    have e5 : W1.cell? ⟨w.heap.size, 5, none⟩ = some (.int .i64 m.bal.nd) := kb.cell 5
    have e6 : W1.cell? ⟨w.heap.size, 6, none⟩ = some (.int .i64 m.had.rd) := kb.cell 6
    have e7 : W1.cell? ⟨w.heap.size, 7, none⟩ = some (.int .i64 m.had.nd) := kb.cell 7
    have e8 : W1.cell? ⟨w.heap.size, 8, none⟩ = some (.string m.text) := kb.cell 8
    have hgl := q.blk.lt
    have qf := fun j => q.blk.frozen j
    have hrow0 := q.mrow.1
    have hne0 : ∀ k, (Value.slice Am G.mail.length cm).ownBlock = some k → k ≠ g ∧ S k ∧ ∃ cs, Blk W1 k 78 cs := fun k hk => by
      have hSk := q.mrow.2 k hk
      rcases q.mrow.1.2 with ⟨h0, _⟩ | ⟨gr, cap, cur, hvv, _, hbb, _⟩
      · rw [h0] at hk; simp [Value.ownBlock] at hk
      · rw [hvv] at hk
        have : gr = k := by simpa [Value.ownBlock] using hk
        subst this
        exact ⟨(q.blk.ne_ (t' := 78) (cs' := cur) hbb (by decide)).symm, hSk, _, hbb⟩
    have hne := hid hne0
    have hq := hid q
    clear q hne0 kb
    go_wp2_with fail
    go_region_law
      (refine step_append_rd _ rfl (.tmp 14) (.tmp 16) 58 rfl 0 78 im _ 9 80 Try.underlying58 him hm0 hm1 hm2 rfl (by omega) (.slice Am G.mail.length cm) G.mail.length (mcells G.mail) rfl ?_ (fun b => b = W1.heap.size) (some ⟨W1.heap.size, 0, none⟩) 1 1 m.cells rfl ?_ ?_ ?_ ?_ ?_ (G.mail.length + 1) rfl (mcells G.mail ++ m.cells) rfl ?_
       go_must (
         · exact (hrow0.alloc _).drew
         · exact (Rd.new W1 78 9 1 m.cells.toArray _ rfl rfl).drew
         · exact fun u hu => mcells_one [m] u (by simpa [mcells] using hu)
         · simp only [maxLen]; omega
         · omega
         · exact Nat.zero_le _
         intro A2 c2' w2 hown2 hg2 hat2
         have hu2 : Upd (fun k => (Value.slice Am G.mail.length cm).ownBlock = some k) W1 w2 := (((Upd.refl _ W1).alloc _).drew).grown hg2 fun k hk _ => hk
         have hk2 : w2.cell? ⟨g, 1, none⟩ = some (.slice Am G.mail.length cm) := hu2.cell c1 fun hm => (hne.out g hm).1 rfl
         have hb2' := hq.out.blk.upd hu2 fun hm => (hne.out g hm).1 rfl
         have hf2' := fun j => hb2'.frozen j
         have hb2 := hid hb2'
         clear hb2'))
    all_goals
      go_wp2_with fail
      go_end0
      have q := hq.out
      have hu3 : Upd (fun k => (Value.slice Am G.mail.length cm).ownBlock = some k ∨ k = g) W1 (w2.setCell ⟨g, 1, none⟩ (.slice A2 (G.mail.length + 1) c2')) := (hu2.mono fun k _ h => .inl h).setCell (p := ⟨g, 1, none⟩) (fun _ => .inr rfl) _
      have hl1 : (G.mail ++ [m]).length = G.mail.length + 1 := by simp
      have hpc : mcells (G.mail ++ [m]) = mcells G.mail ++ m.cells := by rw [mcells_app]; simp [mcells]
      have hz2 := hu2.size
      have hzB := hB.size
      refine ⟨rfl, fun k => S k ∨ w.heap.size ≤ k ∧ k < w2.heap.size, ⟨_, _, A2, c2', _, q.post hu3 ?_ (fun k h => .inl h) ?_ (by rw [hl1]; exact hb2.out.set_ 1 _) ?_⟩, fun k h => h.imp id (·.1), ?_⟩
      · rintro k (h | h)
        · exact .inr (hne.out k h).2.2
        · exact .inl h
      · rintro k (h | h)
        · have := q.lt k h; simp; omega
        · simpa using h.2
      · rw [hl1, hpc]
        refine OwnS.keepT (w := w2) ⟨hown2, fun b hb => ?_⟩ fun b cs hb => Below.heap_setCell _ _ _ _ fun e => hb2.out.ne_ hb (by decide) e.symm
        have hlt := (hown2.lt b hb).2
        rcases hat2 with h | h
        · rw [h] at hb; exact .inl (hne.out b hb).2.1
        · rw [h] at hb; injection hb with hb; simp at hb; exact .inr ⟨by omega, hlt⟩
      · refine (Upd.of_below' hB _).trans (hu3.mono (M' := S) fun k _ h => ?_) fun k _ h => h
        rcases h with h | rfl
        · exact (hne.out k h).2.1
        · exact q.inS
  · have hsend : G.send m = G := by unfold Gr.send; rw [if_neg hfull]
    rw [hsend]
    have hfin : Hid (GGo S w g G (w.alloc (.cells #[.int .i64 m.kind, .int .i64 m.fr, .int .i64 m.dst, .int .i64 m.slot, .int .i64 m.bal.rd, .int .i64 m.bal.nd, .int .i64 m.had.rd, .int .i64 m.had.nd, .string m.text] 78))) := hid ⟨S, ⟨_, _, _, _, _, q⟩, fun _ h => .inl h, .of_below' hB _⟩
    have dd : decide ((G.mail.length : Int) < 4096) = false := decide_eq_false (by omega)
    have dd2 : decide (G.mail.length < 4096) = false := decide_eq_false hfull
    clear q hsend
    go_enter Try.func43, Try.ntmps43
    go_wp2_with fail
    go_end0
    exact ⟨rfl, hfin.out⟩
end

def Gr.sendTo (G : Gr) (m : Ml) (k : Nat) : Gr := (List.range k).foldl (fun (G : Gr) (i : Nat) => G.send { m with dst := (i : Int) }) G
def Gr.sendAll (G : Gr) (m : Ml) : Gr := G.sendTo m G.nds.length
theorem Gr.sendTo_succ (G : Gr) (m : Ml) (k : Nat) : G.sendTo m (k + 1) = (G.sendTo m k).send { m with dst := (k : Int) } := by
  unfold Gr.sendTo
  rw [List.range_succ, List.foldl_append]; rfl
theorem Gr.send_nds (G : Gr) (m : Ml) : (G.send m).nds = G.nds := by unfold Gr.send; split <;> rfl
theorem Gr.sendTo_nds (G : Gr) (m : Ml) (k : Nat) : (G.sendTo m k).nds = G.nds := by
  induction k with
  | zero => rfl
  | succ k ih => rw [Gr.sendTo_succ, Gr.send_nds, ih]
section
variable {S : Nat → Prop} {w w' : World} {g : Nat} {An Am : Option Addr} {cn cm : Nat} {G : Gr} {a : Ad}
set_option maxRecDepth 100000 in
set_option maxHeartbeats 2000000 in
theorem sendAll_any (m : Ml) (h : GAt S w g G) (hn : G.nds.length ≤ 1000) : Calls Try.prog 39 #[.pointer (some ⟨g, 0, none⟩), .agg #[.int .i64 m.kind, .int .i64 m.fr, .int .i64 m.dst, .int .i64 m.slot, .int .i64 m.bal.rd, .int .i64 m.bal.nd, .int .i64 m.had.rd, .int .i64 m.had.nd, .string m.text]] w fun e w' => e = .returned (.tuple #[]) ∧ GGo S w g (G.sendAll m) w' := by
  have hB : Below w.heap.size w (w.alloc (.cells #[.int .i64 m.kind, .int .i64 m.fr, .int .i64 m.dst, .int .i64 m.slot, .int .i64 m.bal.rd, .int .i64 m.bal.nd, .int .i64 m.had.rd, .int .i64 m.had.nd, .string m.text] 78)) := (Below.refl _ _).alloc (Nat.le_refl _) _
  have kb := Blk.new w 78 #[.int .i64 m.kind, .int .i64 m.fr, .int .i64 m.dst, .int .i64 m.slot, .int .i64 m.bal.rd, .int .i64 m.bal.nd, .int .i64 m.had.rd, .int .i64 m.had.nd, .string m.text]
  have hSlt := h.lt.1
  have h1 := h.below hB
  obtain ⟨An, cn, Am, cm, a, q⟩ := id h1
  obtain ⟨c0, c1⟩ := q.cells
  have hz := kb.lt
  have hsz1 : w.heap.size + 1 = (w.alloc (.cells #[.int .i64 m.kind, .int .i64 m.fr, .int .i64 m.dst, .int .i64 m.slot, .int .i64 m.bal.rd, .int .i64 m.bal.nd, .int .i64 m.had.rd, .int .i64 m.had.nd, .string m.text] 78)).heap.size := by simp
  clear q h
  go_enter Try.func39, Try.ntmps39
  go_upto_region 1 with fail
  generalize w.alloc (.cells #[.int .i64 m.kind, .int .i64 m.fr, .int .i64 m.dst, .int .i64 m.slot, .int .i64 m.bal.rd, .int .i64 m.bal.nd, .int .i64 m.had.rd, .int .i64 m.had.nd, .string m.text] 78) = W1 at *
  go_wp2_with fail
  go_loopw [10] (fun v wr => ∃ (k : Nat) (S' : Nat → Prop) (d : Int), v = .int .i64 k ∧ k ≤ G.nds.length ∧ GAt S' wr g (G.sendTo m k) ∧ (∀ k, S' k → S k ∨ W1.heap.size ≤ k) ∧ Upd S w wr ∧ Blk wr w.heap.size 78 #[.int .i64 m.kind, .int .i64 m.fr, .int .i64 d, .int .i64 m.slot, .int .i64 m.bal.rd, .int .i64 m.bal.nd, .int .i64 m.had.rd, .int .i64 m.had.nd, .string m.text]) (fun v _ => G.nds.length - (intOf v).toNat)
  case atStart => exact ⟨0, S, m.dst, rfl, Nat.zero_le _, h1, fun _ h => .inl h, .of_below' hB _, kb⟩
  case round =>
    clear h1 kb c0 c1
    obtain ⟨k, S', d, rfl, hk, q, hS, hu, kb⟩ := hrel
    have hqz := q.lt.1
    have hWz : W1.heap.size ≤ wr.heap.size := hsz1 ▸ kb.lt
    by_cases hlt : k < G.nds.length
    · have i1 : (k : Int) < (G.nds.length : Int) := by omega
      have x2 : wr.cell? ⟨w.heap.size, 2, none⟩ = some (.int .i64 d) := kb.cell 2
      have qz := fun j => kb.frozen j
      have hne : ∀ k, S' k → k ≠ w.heap.size := fun k hk => by
        rcases hS k hk with h | h
        · have := hSlt k h; omega
        · omega
      have q2 : GAt S' (wr.setCell ⟨w.heap.size, 2, none⟩ (.int .i64 (k : Int))) g (G.sendTo m k) := by
        obtain ⟨An, cn, Am, cm, a, q⟩ := q
        exact ⟨An, cn, Am, cm, a, q.far (M := fun k => k = w.heap.size) ((Upd.refl (fun k => k = w.heap.size) wr).setCell (p := ⟨w.heap.size, 2, none⟩) (fun _ => rfl) _) fun k hk e => hne k hk e⟩
      have kb2 : Blk (wr.setCell ⟨w.heap.size, 2, none⟩ (.int .i64 (k : Int))) w.heap.size 78 #[.int .i64 m.kind, .int .i64 m.fr, .int .i64 (k : Int), .int .i64 m.slot, .int .i64 m.bal.rd, .int .i64 m.bal.nd, .int .i64 m.had.rd, .int .i64 m.had.nd, .string m.text] := kb.set_ 2 _
      have hu2 : Upd S w (wr.setCell ⟨w.heap.size, 2, none⟩ (.int .i64 (k : Int))) := hu.setCell (p := ⟨w.heap.size, 2, none⟩) (fun h => absurd h (Nat.lt_irrefl _)) _
      have hzz : (wr.setCell ⟨w.heap.size, 2, none⟩ (.int .i64 (k : Int))).heap.size = wr.heap.size := by simp
      clear q
      go_upto_region 5 with fail
      generalize wr.setCell ⟨w.heap.size, 2, none⟩ (.int .i64 (k : Int)) = w2 at *
      have e0 : w2.cell? ⟨w.heap.size, 0, none⟩ = some (.int .i64 m.kind) := kb2.cell 0
      have e1 : w2.cell? ⟨w.heap.size, 1, none⟩ = some (.int .i64 m.fr) := kb2.cell 1
      have e2 : w2.cell? ⟨w.heap.size, 2, none⟩ = some (.int .i64 (k : Int)) := kb2.cell 2
      have e3 : w2.cell? ⟨w.heap.size, 3, none⟩ = some (.int .i64 m.slot) := kb2.cell 3
      have e4 : w2.cell? ⟨w.heap.size, 4, none⟩ = some (.int .i64 m.bal.rd) := kb2.cell 4
      have e5 : w2.cell? ⟨w.heap.size, 5, none⟩ = some (.int .i64 m.bal.nd) := kb2.cell 5
      have e6 : w2.cell? ⟨w.heap.size, 6, none⟩ = some (.int .i64 m.had.rd) := kb2.cell 6
      have e7 : w2.cell? ⟨w.heap.size, 7, none⟩ = some (.int .i64 m.had.nd) := kb2.cell 7
      have e8 : w2.cell? ⟨w.heap.size, 8, none⟩ = some (.string m.text) := kb2.cell 8
      clear x2 qz
      go_wp2_with fail
      refine (send_any { m with dst := (k : Int) } q2).mono ?_
      rintro e w3 ⟨rfl, S3, h3, hS3, hu3⟩
      have hst := G.sendTo_succ m k
      rw [← hst] at h3
      have hst := 0
      have kb3 := kb2.upd hu3 fun h => hne _ h rfl
      have hz2 := hu3.size
      clear q2 kb2
      go_wp2_with fail
      go_roundw
      case rel =>
        refine ⟨k + 1, S3, k, by go_num, hlt, h3, fun j hj => ?_, ?_, kb3⟩
        · rcases hS3 j hj with h | h
          · exact hS j h
          · exact .inr (by omega)
        · exact hu2.trans hu3 fun j hj h => by
            rcases hS j h with h | h
            · exact h
            · have := hB.size; omega
      case measure => simp [intOf]; omega
    · obtain rfl : k = G.nds.length := by omega
      go_wp2_with fail
      go_end0
      refine ⟨rfl, S', q, fun j hj => ?_, ?_⟩
      · rcases hS j hj with h | h
        · exact .inl h
        · have := hB.size; exact .inr (by omega)
      · exact hu
end

end Go.Proofs.Ytbgopicpdpkccaa
