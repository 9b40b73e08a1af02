/- Texts of the proof, joined: GDel2. -/
import Derived.Test.YtbgopicpdpkccaaJ05
namespace Go.Proofs.Ytbgopicpdpkccaa
open Go.RowKit
set_option linter.unusedVariables false
set_option linter.unusedSimpArgs false

/-- what is done with a message -/
def Gr.Handle (G : Gr) (i : Nat) (s : Int) (x : Sl) (m : Ml) (G' : Gr) : Prop :=
  if m.kind = 1 then G' = G.prepare i s x m else if m.kind = 2 then G.Promise i s x m G' else if m.kind = 3 then G' = G.accept i s x m else if m.kind = 4 then G' = G.acceptedOf i s x m else if m.kind = 5 then G' = G.learn i s x m else G' = G.ask m
def Gr.gone (G : Gr) (k : Nat) : Gr := G.setMail (G.mail.take k ++ G.mail.drop (k + 1))
def Gr.Deliver (G : Gr) (k : Nat) (m : Ml) (G' : Gr) : Prop :=
  if (G.nd m.dst.toNat).up = true then ((G.gone k).touch m.dst.toNat m.slot).Handle m.dst.toNat m.slot ((G.gone k).at_ m.dst.toNat m.slot) m G' else G' = G.gone k
theorem Gr.touch_len (G : Gr) (i : Nat) (s : Int) : (G.touch i s).nds.length = G.nds.length := by
  unfold Gr.touch
  split
  · rfl
  · exact Gr.len_set _ _ _
theorem GGo.then {S : Nat → Prop} {w w1 w2 : World} {g : Nat} {G2 : Gr} (h : ∃ S1, (∀ k, S1 k → S k ∨ w.heap.size ≤ k) ∧ Upd S w w1 ∧ GGo S1 w1 g G2 w2) : GGo S w g G2 w2 := by
  obtain ⟨S1, h1, hu1, S2, h2, hS2, hu2⟩ := h
  refine ⟨S2, h2, fun k hk => ?_, hu1.trans hu2 fun k hk h => ?_⟩
  · rcases hS2 k hk with h | h
    · exact h1 k h
    · have := hu1.size; exact .inr (by omega)
  · rcases h1 k h with h | h
    · exact h
    · omega
section
variable {S : Nat → Prop} {w w' : World} {g : Nat} {G : Gr}
set_option maxRecDepth 100000 in
set_option maxHeartbeats 4000000 in
theorem deliver_yes (k : Nat) (m : Ml) (h : GAt S w g G) (hk : k < G.mail.length) (hm : G.mail[k] = m) (hkind : 1 ≤ m.kind ∧ m.kind ≤ 6) (hdst : 0 ≤ m.dst ∧ m.dst < G.nds.length) (hs : 0 ≤ m.slot ∧ m.slot ≤ 1000) (hn : G.nds.length ≤ 1000) (hl : G.mail.length ≤ 100000) :
    Calls Try.prog 19 #[.pointer (some ⟨g, 0, none⟩), .int .i64 k] w fun e w' => e = .returned (.bool true) ∧ ∃ G', G.Deliver k m G' ∧ GGo S w g G' w' := by
  have hB1 : Below w.heap.size w (w.alloc (.cells #[.int .i64 m.kind, .int .i64 m.fr, .int .i64 m.dst, .int .i64 m.slot, .int .i64 m.bal.rd, .int .i64 m.bal.nd, .int .i64 m.had.rd, .int .i64 m.had.nd, .string m.text] 78)) := (Below.refl _ _).alloc (Nat.le_refl _) _
  have kb1 := Blk.new w 78 #[.int .i64 m.kind, .int .i64 m.fr, .int .i64 m.dst, .int .i64 m.slot, .int .i64 m.bal.rd, .int .i64 m.bal.nd, .int .i64 m.had.rd, .int .i64 m.had.nd, .string m.text]
  obtain ⟨An, cn, Am, cm, a, q⟩ := h
  have hSlt := q.lt
  obtain ⟨c0, c1⟩ := q.cells
  obtain ⟨gr, cur, rfl, hgr⟩ := own_formS q.mrow.1 (by omega)
  obtain ⟨i, hi00⟩ : ∃ i : Nat, m.dst = (i : Int) := ⟨m.dst.toNat, by omega⟩
  have hi : i < G.nds.length := by omega
  have hgS := q.inS
  have hrS : S gr := q.mrow.2 gr rfl
  have hgg : g ≠ gr := q.blk.ne_ hgr (by decide)
  have hgl := hSlt _ hgS
  have hrl := hSlt _ hrS
  have m0 : w.cell? ⟨gr, k * 9, none⟩ = some (.int .i64 m.kind) := by
    rw [q.mrow.1.cellAt _ (by omega)]
    exact (mcells_at _ k 0 hk (by omega)).trans (by rw [hm]; rfl)
  have m1 : w.cell? ⟨gr, k * 9 + 1, none⟩ = some (.int .i64 m.fr) := by
    rw [q.mrow.1.cellAt _ (by omega)]
    exact (mcells_at _ k 1 hk (by omega)).trans (by rw [hm]; rfl)
  have m2 : w.cell? ⟨gr, k * 9 + 2, none⟩ = some (.int .i64 m.dst) := by
    rw [q.mrow.1.cellAt _ (by omega)]
    exact (mcells_at _ k 2 hk (by omega)).trans (by rw [hm]; rfl)
  have m3 : w.cell? ⟨gr, k * 9 + 3, none⟩ = some (.int .i64 m.slot) := by
    rw [q.mrow.1.cellAt _ (by omega)]
    exact (mcells_at _ k 3 hk (by omega)).trans (by rw [hm]; rfl)
  have m4 : w.cell? ⟨gr, k * 9 + 4, none⟩ = some (.int .i64 m.bal.rd) := by
    rw [q.mrow.1.cellAt _ (by omega)]
    exact (mcells_at _ k 4 hk (by omega)).trans (by rw [hm]; rfl)
  have m5 : w.cell? ⟨gr, k * 9 + 5, none⟩ = some (.int .i64 m.bal.nd) := by
    rw [q.mrow.1.cellAt _ (by omega)]
    exact (mcells_at _ k 5 hk (by omega)).trans (by rw [hm]; rfl)
  have m6 : w.cell? ⟨gr, k * 9 + 6, none⟩ = some (.int .i64 m.had.rd) := by
    rw [q.mrow.1.cellAt _ (by omega)]
    exact (mcells_at _ k 6 hk (by omega)).trans (by rw [hm]; rfl)
  have m7 : w.cell? ⟨gr, k * 9 + 7, none⟩ = some (.int .i64 m.had.nd) := by
    rw [q.mrow.1.cellAt _ (by omega)]
    exact (mcells_at _ k 7 hk (by omega)).trans (by rw [hm]; rfl)
  have m8 : w.cell? ⟨gr, k * 9 + 8, none⟩ = some (.string m.text) := by
    rw [q.mrow.1.cellAt _ (by omega)]
    exact (mcells_at _ k 8 hk (by omega)).trans (by rw [hm]; rfl)
  have t1 : decide ((k : Int) < 0) = false := by simp
  have t2 : decide ((G.mail.length : Int) ≤ (k : Int)) = false := decide_eq_false (by omega)
  have t3 : decide (G.mail.length ≤ k) = false := decide_eq_false (by omega)
  have i1 : (k : Int) < (G.mail.length : Int) := by omega
  have hw1 : IntKind.i64.wrap ((k : Int) + 1) = (k : Int) + 1 := IntWalk.i64_in _ (by omega)
  have q1 := q.below hB1
  have hdl := hid (delete_any gr cm k G.mail _ q1.mrow.1 hk (by omega))
  have hq1 := hid q1
  have y1 : (w.alloc (.cells #[.int .i64 m.kind, .int .i64 m.fr, .int .i64 m.dst, .int .i64 m.slot, .int .i64 m.bal.rd, .int .i64 m.bal.nd, .int .i64 m.had.rd, .int .i64 m.had.nd, .string m.text] 78)).cell? ⟨g, 1, none⟩ = some (.slice (some ⟨gr, 0, none⟩) G.mail.length cm) := q1.cells.2
  have hgr1 := hgr.below_all hB1
  have hi0 := hid hi00
  have hm0 := hid hm
  clear q q1 hm hi00 hgr c0
  go_enter Try.func19, Try.ntmps19
  go_upto_region 4 with fail
  clear m0 m1 m2 m3 m4 m5 m6 m7 m8 c1
  generalize w.alloc (.cells #[.int .i64 m.kind, .int .i64 m.fr, .int .i64 m.dst, .int .i64 m.slot, .int .i64 m.bal.rd, .int .i64 m.bal.nd, .int .i64 m.had.rd, .int .i64 m.had.nd, .string m.text] 78) = w1 at *
  have hz1 := kb1.lt
  go_wp2_with fail
  refine hdl.out.mono ?_
  rintro e w2 ⟨rfl, hrow2, hu2⟩
  have kb2 := kb1.upd hu2 (by omega)
  have hbk2 := hq1.out.blk.upd hu2 hgg
  have x1 : w2.cell? ⟨g, 1, none⟩ = some (.slice (some ⟨gr, 0, none⟩) G.mail.length cm) := hbk2.cell 1
  have qg := fun j => hbk2.frozen j
  have hl1 : (G.mail.take k ++ G.mail.drop (k + 1)).length = G.mail.length - 1 := by simp; omega
  have hu3 : Upd (fun j => j = gr ∨ j = g) w1 (w2.setCell ⟨g, 1, none⟩ (.slice (some ⟨gr, 0, none⟩) (G.mail.length - 1) cm)) := (hu2.mono fun j _ h => .inl h).setCell (p := ⟨g, 1, none⟩) (fun _ => .inr rfl) _
  have hz23 : (w2.setCell ⟨g, 1, none⟩ (.slice (some ⟨gr, 0, none⟩) (G.mail.length - 1) cm)).heap.size = w2.heap.size := by simp
  have hz2 := hu2.size
  have q3 : GIn S (w2.setCell ⟨g, 1, none⟩ (.slice (some ⟨gr, 0, none⟩) (G.mail.length - 1) cm)) g An cn (some ⟨gr, 0, none⟩) cm (G.gone k) a := by
    refine hq1.out.post hu3 ?_ (fun _ => id) (fun j hj => ?_) (by rw [hl1]; exact hbk2.set_ 1 _) ⟨?_, fun b hb => ?_⟩
    · rintro j (h | h)
      · exact .inr ⟨cur, h ▸ hgr1⟩
      · exact .inl h
    · have := hSlt j hj; omega
    · rw [hl1]
      exact own_upd hrow2 ((Upd.refl (fun j => j = g) w2).setCell (p := ⟨g, 1, none⟩) (fun _ => rfl) _) hgg.symm
    · have : gr = b := by simpa [Value.ownBlock] using hb
      exact this ▸ hrS
  have kb3 := kb2.upd ((Upd.refl (fun j => j = g) w2).setCell (p := ⟨g, 1, none⟩) (fun _ => rfl) (.slice (some ⟨gr, 0, none⟩) (G.mail.length - 1) cm)) (by omega)
  have hU3 := (Upd.of_below' hB1 S).trans (hu3.mono (M' := S) fun j _ h => by rcases h with h | h <;> (subst h; assumption)) fun _ _ h => h
  clear hrow2 hu2 hu3 kb1 kb2 hq1 hdl hgr1 y1
  go_upto_region 5 with fail
  generalize w2.setCell ⟨g, 1, none⟩ (.slice (some ⟨gr, 0, none⟩) (G.mail.length - 1) cm) = w3 at *
  obtain ⟨G1, hG1⟩ : ∃ G1, G1 = G.gone k := ⟨_, rfl⟩
  rw [← hG1] at q3
  have hlen0 : G1.nds.length = G.nds.length := by rw [hG1]; rfl
  have hnd0 : ∀ j, G1.nd j = G.nd j := fun j => by rw [hG1]; rfl
  have hGG := hid hG1
  have hlen1 := hid hlen0
  have hnd := hid hnd0
  have hi3 : i < G1.nds.length := by omega
  have i3 : (i : Int) < (G1.nds.length : Int) := by omega
  have i0 : (0 : Int) ≤ (i : Int) := by omega
  obtain ⟨b, o, rfl, hbl, xp⟩ := q3.ptr hi3
  obtain ⟨c0, c1⟩ := q3.cells
  obtain ⟨n1, n2, n3, n4, _⟩ := q3.nd i hi3
  have xu : w3.cell? ⟨a.nb i, 0, none⟩ = some (.bool (G1.nd i).up) := n1.cell 0
  have x2 : w3.cell? ⟨w.heap.size, 2, none⟩ = some (.int .i64 (i : Int)) := by rw [← hi0.out]; exact kb3.cell 2
  clear hlen0 hnd0 hG1 n1 n4 x1 qg hl1
  go_quiet (fail)
  have q4 := q3.below (below_drewN (Below.refl _ w3) nq)
  have kb4 := kb3.below_all (below_drewN (Below.refl _ w3) nq)
  have hU4 := hU3.trans (Upd.of_below' (below_drewN (Below.refl _ w3) nq) S) fun _ _ h => h
  have xu4 : (w3.drewN nq).cell? ⟨a.nb i, 0, none⟩ = some (.bool (G1.nd i).up) := xu
  have hz34 : w3.heap.size = (w3.drewN nq).heap.size := rfl
  clear q3 kb3 hU3 xu x2 xp c0 c1
  generalize w3.drewN nq = w4 at *
  cases hup : (G1.nd i).up with
  | false =>
    rw [hup] at xu4
    have hfin : Hid (∃ G', G.Deliver k m G' ∧ GGo S w g G' w4) := hid ⟨G1, by
      unfold Gr.Deliver
      rw [if_neg (by rw [hi0.out, Int.toNat_natCast, ← hnd.out, hup]; simp)]
      exact hGG.out, S, ⟨_, _, _, _, _, q4⟩, fun _ h => .inl h, hU4⟩
    clear q4 kb4 hU4 hup
    go_wp2_with fail
    go_ret
    exact ⟨rfl, hfin.out⟩
  | true =>
    rw [hup] at xu4
    have hfinal : Hid (∀ G', (G1.touch i m.slot).Handle i m.slot (G1.at_ i m.slot) m G' → G.Deliver k m G') := hid (fun G' hP => by
      unfold Gr.Deliver
      rw [if_pos (by rw [hi0.out, Int.toNat_natCast, ← hnd.out, hup])]
      rw [hi0.out, Int.toNat_natCast, ← hGG.out]
      exact hP)
    clear hup
    go_upto_region 7 with fail
    clear xu4 t1 t2 t3 i1 hw1
    have hK6 : m.kind = 1 ∨ m.kind = 2 ∨ m.kind = 3 ∨ m.kind = 4 ∨ m.kind = 5 ∨ m.kind = 6 := by omega
    clear hkind
    rcases hK6 with hK | hK | hK | hK | hK | hK
    · have hcl0 : ∀ (a6 : Ad) (S6 : Nat → Prop) (w6 : World), GIn S6 w6 g (some ⟨b, o, none⟩) cn (some ⟨gr, 0, none⟩) cm (G1.touch i m.slot) a6 → i < (G1.touch i m.slot).nds.length → getA m.slot ((G1.touch i m.slot).nd i).sl = some (G1.at_ i m.slot) → (G1.touch i m.slot).nds.length ≤ 1000 → Calls Try.prog 56 #[.pointer (some ⟨g, 0, none⟩), .pointer (some ⟨a6.sb i m.slot, 0, none⟩), .agg #[.int .i64 1, .int .i64 m.fr, .int .i64 m.dst, .int .i64 m.slot, .int .i64 m.bal.rd, .int .i64 m.bal.nd, .int .i64 m.had.rd, .int .i64 m.had.nd, .string m.text]] w6 fun e w' => e = .returned (.tuple #[]) ∧ ∃ G7, (G1.touch i m.slot).Handle i m.slot (G1.at_ i m.slot) m G7 ∧ GGo S6 w6 g G7 w' := by
        intro a6 S6 w6 q6 hi6 hx6 hn6
        have := prepare_any m (G1.at_ i m.slot) i m.slot q6 hi6 hx6
        rw [hK] at this
        refine this.mono ?_
        rintro e w' ⟨h1, h2⟩
        exact ⟨h1, _, by unfold Gr.Handle; simp [hK], h2⟩
      have hcl := hid hcl0
      clear hcl0
      have hidx : ∀ w' : World, (Instr.index 86 (.agg #[.nilFunc, .func (Fn.func 56) #[.pointer (some ⟨g, 0, none⟩)] #[], .func (Fn.func 57) #[.pointer (some ⟨g, 0, none⟩)] #[], .func (Fn.func 58) #[.pointer (some ⟨g, 0, none⟩)] #[], .func (Fn.func 59) #[.pointer (some ⟨g, 0, none⟩)] #[], .func (Fn.func 60) #[.pointer (some ⟨g, 0, none⟩)] #[], .func (Fn.func 61) #[.pointer (some ⟨g, 0, none⟩)] #[]]) (.int .i64 1)).run Try.prog w' = .ok (.func (Fn.func 56) #[.pointer (some ⟨g, 0, none⟩)] #[]) w' := fun _ => by kernel_rfl
      have kb40 : Blk w4 w.heap.size 78 #[.int .i64 1, .int .i64 m.fr, .int .i64 m.dst, .int .i64 m.slot, .int .i64 m.bal.rd, .int .i64 m.bal.nd, .int .i64 m.had.rd, .int .i64 m.had.nd, .string m.text] := by rw [← hK]; exact kb4
      clear hK kb4
      have e0 : w4.cell? ⟨w.heap.size, 0, none⟩ = some (.int .i64 1) := kb40.cell 0
      have e1 : w4.cell? ⟨w.heap.size, 1, none⟩ = some (.int .i64 m.fr) := kb40.cell 1
      have e2 : w4.cell? ⟨w.heap.size, 2, none⟩ = some (.int .i64 m.dst) := kb40.cell 2
      have e3 : w4.cell? ⟨w.heap.size, 3, none⟩ = some (.int .i64 m.slot) := kb40.cell 3
      have e4 : w4.cell? ⟨w.heap.size, 4, none⟩ = some (.int .i64 m.bal.rd) := kb40.cell 4
      have e5 : w4.cell? ⟨w.heap.size, 5, none⟩ = some (.int .i64 m.bal.nd) := kb40.cell 5
      have e6 : w4.cell? ⟨w.heap.size, 6, none⟩ = some (.int .i64 m.had.rd) := kb40.cell 6
      have e7 : w4.cell? ⟨w.heap.size, 7, none⟩ = some (.int .i64 m.had.nd) := kb40.cell 7
      have e8 : w4.cell? ⟨w.heap.size, 8, none⟩ = some (.string m.text) := kb40.cell 8
      go_region_held3 (fun w' => w'.cell? ⟨w.heap.size, 0, none⟩ = some (.int .i64 1) ∧ w'.cell? ⟨w.heap.size, 1, none⟩ = some (.int .i64 m.fr) ∧ w'.cell? ⟨w.heap.size, 2, none⟩ = some (.int .i64 m.dst) ∧ w'.cell? ⟨w.heap.size, 3, none⟩ = some (.int .i64 m.slot) ∧ w'.cell? ⟨w.heap.size, 4, none⟩ = some (.int .i64 m.bal.rd) ∧ w'.cell? ⟨w.heap.size, 5, none⟩ = some (.int .i64 m.bal.nd) ∧ w'.cell? ⟨w.heap.size, 6, none⟩ = some (.int .i64 m.had.rd) ∧ w'.cell? ⟨w.heap.size, 7, none⟩ = some (.int .i64 m.had.nd) ∧ w'.cell? ⟨w.heap.size, 8, none⟩ = some (.string m.text)) (first | exact ⟨e0, e1, e2, e3, e4, e5, e6, e7, e8⟩ | exact ⟨f0, f1, f2, f3, f4, f5, f6, f7, f8⟩ | exact ⟨p0, p1, p2, p3, p4, p5, p6, p7, p8⟩ | exact ⟨r0, r1, r2, r3, r4, r5, r6, r7, r8⟩)
        (first
          | (go_at_call 56
             refine (hcl.out a6 S6 w6 q6 hi6 hx6 hn6).mono ?_
             rintro e7 w7 ⟨rfl, G7, hP7, S7, h7, hS7, hu7⟩
             have kb7 := kb6.upd hu7 fun h => hS6w _ h rfl
             have r0 : w7.cell? ⟨w.heap.size, 0, none⟩ = some (.int .i64 1) := kb7.cell 0
             have r1 : w7.cell? ⟨w.heap.size, 1, none⟩ = some (.int .i64 m.fr) := kb7.cell 1
             have r2 : w7.cell? ⟨w.heap.size, 2, none⟩ = some (.int .i64 m.dst) := kb7.cell 2
             have r3 : w7.cell? ⟨w.heap.size, 3, none⟩ = some (.int .i64 m.slot) := kb7.cell 3
             have r4 : w7.cell? ⟨w.heap.size, 4, none⟩ = some (.int .i64 m.bal.rd) := kb7.cell 4
             have r5 : w7.cell? ⟨w.heap.size, 5, none⟩ = some (.int .i64 m.bal.nd) := kb7.cell 5
             have r6 : w7.cell? ⟨w.heap.size, 6, none⟩ = some (.int .i64 m.had.rd) := kb7.cell 6
             have r7 : w7.cell? ⟨w.heap.size, 7, none⟩ = some (.int .i64 m.had.nd) := kb7.cell 7
             have r8 : w7.cell? ⟨w.heap.size, 8, none⟩ = some (.string m.text) := kb7.cell 8
             clear kb7)
          | (go_at_call 38
             refine (slot_any i m.slot q5 hi3).mono ?_
             rintro e6 w6 ⟨S6, a6, ⟨rfl, hS6⟩, q6, hx6, hu6⟩
             have hS6w : ∀ k, S6 k → k ≠ w.heap.size := fun k hk => by
               rcases hS6 k hk with h | h
               · have := hSlt k h; omega
               · omega
             have kb6 := kb5.upd hu6 fun h => by have := hSlt _ h; omega
             have hi6 : i < (G1.touch i m.slot).nds.length := by rw [Gr.touch_len]; exact hi3
             have hn6 : (G1.touch i m.slot).nds.length ≤ 1000 := by rw [Gr.touch_len, hlen1.out]; exact hn
             have hU6 := hU5.trans hu6 fun _ _ h => h
             have hz6 := hu6.size
             have p0 : w6.cell? ⟨w.heap.size, 0, none⟩ = some (.int .i64 1) := kb6.cell 0
             have p1 : w6.cell? ⟨w.heap.size, 1, none⟩ = some (.int .i64 m.fr) := kb6.cell 1
             have p2 : w6.cell? ⟨w.heap.size, 2, none⟩ = some (.int .i64 m.dst) := kb6.cell 2
             have p3 : w6.cell? ⟨w.heap.size, 3, none⟩ = some (.int .i64 m.slot) := kb6.cell 3
             have p4 : w6.cell? ⟨w.heap.size, 4, none⟩ = some (.int .i64 m.bal.rd) := kb6.cell 4
             have p5 : w6.cell? ⟨w.heap.size, 5, none⟩ = some (.int .i64 m.bal.nd) := kb6.cell 5
             have p6 : w6.cell? ⟨w.heap.size, 6, none⟩ = some (.int .i64 m.had.rd) := kb6.cell 6
             have p7 : w6.cell? ⟨w.heap.size, 7, none⟩ = some (.int .i64 m.had.nd) := kb6.cell 7
             have p8 : w6.cell? ⟨w.heap.size, 8, none⟩ = some (.string m.text) := kb6.cell 8
             clear hu6)
          | (go_at_call 40
             refine (kinds_any g w4.drew).mono ?_
             rintro e5 w5 ⟨rfl, hb50⟩
             have hb5 : Below w4.heap.size w4 w5 := ((Below.refl _ w4).drew).trans hb50
             have q5 := q4.below hb5
             have kb5 := kb40.below_all hb5
             have hU5 := hU4.trans (Upd.of_below' hb5 S) fun _ _ h => h
             have hz5 := hb5.size
             have f0 : w5.cell? ⟨w.heap.size, 0, none⟩ = some (.int .i64 1) := kb5.cell 0
             have f1 : w5.cell? ⟨w.heap.size, 1, none⟩ = some (.int .i64 m.fr) := kb5.cell 1
             have f2 : w5.cell? ⟨w.heap.size, 2, none⟩ = some (.int .i64 m.dst) := kb5.cell 2
             have f3 : w5.cell? ⟨w.heap.size, 3, none⟩ = some (.int .i64 m.slot) := kb5.cell 3
             have f4 : w5.cell? ⟨w.heap.size, 4, none⟩ = some (.int .i64 m.bal.rd) := kb5.cell 4
             have f5 : w5.cell? ⟨w.heap.size, 5, none⟩ = some (.int .i64 m.bal.nd) := kb5.cell 5
             have f6 : w5.cell? ⟨w.heap.size, 6, none⟩ = some (.int .i64 m.had.rd) := kb5.cell 6
             have f7 : w5.cell? ⟨w.heap.size, 7, none⟩ = some (.int .i64 m.had.nd) := kb5.cell 7
             have f8 : w5.cell? ⟨w.heap.size, 8, none⟩ = some (.string m.text) := kb5.cell 8
             clear hb5 hb50))
      all_goals
        go_wp2_with fail
        go_ret
        refine ⟨rfl, G7, hfinal.out _ hP7, GGo.then ⟨S6, fun k hk => (hS6 k hk).imp id (by omega), hU6, S7, h7, hS7, hu7⟩⟩
    · have hcl0 : ∀ (a6 : Ad) (S6 : Nat → Prop) (w6 : World), GIn S6 w6 g (some ⟨b, o, none⟩) cn (some ⟨gr, 0, none⟩) cm (G1.touch i m.slot) a6 → i < (G1.touch i m.slot).nds.length → getA m.slot ((G1.touch i m.slot).nd i).sl = some (G1.at_ i m.slot) → (G1.touch i m.slot).nds.length ≤ 1000 → Calls Try.prog 57 #[.pointer (some ⟨g, 0, none⟩), .pointer (some ⟨a6.sb i m.slot, 0, none⟩), .agg #[.int .i64 2, .int .i64 m.fr, .int .i64 m.dst, .int .i64 m.slot, .int .i64 m.bal.rd, .int .i64 m.bal.nd, .int .i64 m.had.rd, .int .i64 m.had.nd, .string m.text]] w6 fun e w' => e = .returned (.tuple #[]) ∧ ∃ G7, (G1.touch i m.slot).Handle i m.slot (G1.at_ i m.slot) m G7 ∧ GGo S6 w6 g G7 w' := by
        intro a6 S6 w6 q6 hi6 hx6 hn6
        have := promise_any m (G1.at_ i m.slot) i m.slot q6 hi6 hx6 hn6
        rw [hK] at this
        refine this.mono ?_
        rintro e w' ⟨h1, G7, hP, h2⟩
        exact ⟨h1, G7, by unfold Gr.Handle; simp [hK]; exact hP, h2⟩
      have hcl := hid hcl0
      clear hcl0
      have hidx : ∀ w' : World, (Instr.index 86 (.agg #[.nilFunc, .func (Fn.func 56) #[.pointer (some ⟨g, 0, none⟩)] #[], .func (Fn.func 57) #[.pointer (some ⟨g, 0, none⟩)] #[], .func (Fn.func 58) #[.pointer (some ⟨g, 0, none⟩)] #[], .func (Fn.func 59) #[.pointer (some ⟨g, 0, none⟩)] #[], .func (Fn.func 60) #[.pointer (some ⟨g, 0, none⟩)] #[], .func (Fn.func 61) #[.pointer (some ⟨g, 0, none⟩)] #[]]) (.int .i64 2)).run Try.prog w' = .ok (.func (Fn.func 57) #[.pointer (some ⟨g, 0, none⟩)] #[]) w' := fun _ => by kernel_rfl
      have kb40 : Blk w4 w.heap.size 78 #[.int .i64 2, .int .i64 m.fr, .int .i64 m.dst, .int .i64 m.slot, .int .i64 m.bal.rd, .int .i64 m.bal.nd, .int .i64 m.had.rd, .int .i64 m.had.nd, .string m.text] := by rw [← hK]; exact kb4
      clear hK kb4
      have e0 : w4.cell? ⟨w.heap.size, 0, none⟩ = some (.int .i64 2) := kb40.cell 0
      have e1 : w4.cell? ⟨w.heap.size, 1, none⟩ = some (.int .i64 m.fr) := kb40.cell 1
      have e2 : w4.cell? ⟨w.heap.size, 2, none⟩ = some (.int .i64 m.dst) := kb40.cell 2
      have e3 : w4.cell? ⟨w.heap.size, 3, none⟩ = some (.int .i64 m.slot) := kb40.cell 3
      have e4 : w4.cell? ⟨w.heap.size, 4, none⟩ = some (.int .i64 m.bal.rd) := kb40.cell 4
      have e5 : w4.cell? ⟨w.heap.size, 5, none⟩ = some (.int .i64 m.bal.nd) := kb40.cell 5
      have e6 : w4.cell? ⟨w.heap.size, 6, none⟩ = some (.int .i64 m.had.rd) := kb40.cell 6
      have e7 : w4.cell? ⟨w.heap.size, 7, none⟩ = some (.int .i64 m.had.nd) := kb40.cell 7
      have e8 : w4.cell? ⟨w.heap.size, 8, none⟩ = some (.string m.text) := kb40.cell 8
      go_region_held3 (fun w' => w'.cell? ⟨w.heap.size, 0, none⟩ = some (.int .i64 2) ∧ w'.cell? ⟨w.heap.size, 1, none⟩ = some (.int .i64 m.fr) ∧ w'.cell? ⟨w.heap.size, 2, none⟩ = some (.int .i64 m.dst) ∧ w'.cell? ⟨w.heap.size, 3, none⟩ = some (.int .i64 m.slot) ∧ w'.cell? ⟨w.heap.size, 4, none⟩ = some (.int .i64 m.bal.rd) ∧ w'.cell? ⟨w.heap.size, 5, none⟩ = some (.int .i64 m.bal.nd) ∧ w'.cell? ⟨w.heap.size, 6, none⟩ = some (.int .i64 m.had.rd) ∧ w'.cell? ⟨w.heap.size, 7, none⟩ = some (.int .i64 m.had.nd) ∧ w'.cell? ⟨w.heap.size, 8, none⟩ = some (.string m.text)) (first | exact ⟨e0, e1, e2, e3, e4, e5, e6, e7, e8⟩ | exact ⟨f0, f1, f2, f3, f4, f5, f6, f7, f8⟩ | exact ⟨p0, p1, p2, p3, p4, p5, p6, p7, p8⟩ | exact ⟨r0, r1, r2, r3, r4, r5, r6, r7, r8⟩)
        (first
          | (go_at_call 57
             refine (hcl.out a6 S6 w6 q6 hi6 hx6 hn6).mono ?_
             rintro e7 w7 ⟨rfl, G7, hP7, S7, h7, hS7, hu7⟩
             have kb7 := kb6.upd hu7 fun h => hS6w _ h rfl
             have r0 : w7.cell? ⟨w.heap.size, 0, none⟩ = some (.int .i64 2) := kb7.cell 0
             have r1 : w7.cell? ⟨w.heap.size, 1, none⟩ = some (.int .i64 m.fr) := kb7.cell 1
             have r2 : w7.cell? ⟨w.heap.size, 2, none⟩ = some (.int .i64 m.dst) := kb7.cell 2
             have r3 : w7.cell? ⟨w.heap.size, 3, none⟩ = some (.int .i64 m.slot) := kb7.cell 3
             have r4 : w7.cell? ⟨w.heap.size, 4, none⟩ = some (.int .i64 m.bal.rd) := kb7.cell 4
             have r5 : w7.cell? ⟨w.heap.size, 5, none⟩ = some (.int .i64 m.bal.nd) := kb7.cell 5
             have r6 : w7.cell? ⟨w.heap.size, 6, none⟩ = some (.int .i64 m.had.rd) := kb7.cell 6
             have r7 : w7.cell? ⟨w.heap.size, 7, none⟩ = some (.int .i64 m.had.nd) := kb7.cell 7
             have r8 : w7.cell? ⟨w.heap.size, 8, none⟩ = some (.string m.text) := kb7.cell 8
             clear kb7)
          | (go_at_call 38
             refine (slot_any i m.slot q5 hi3).mono ?_
             rintro e6 w6 ⟨S6, a6, ⟨rfl, hS6⟩, q6, hx6, hu6⟩
             have hS6w : ∀ k, S6 k → k ≠ w.heap.size := fun k hk => by
               rcases hS6 k hk with h | h
               · have := hSlt k h; omega
               · omega
             have kb6 := kb5.upd hu6 fun h => by have := hSlt _ h; omega
             have hi6 : i < (G1.touch i m.slot).nds.length := by rw [Gr.touch_len]; exact hi3
             have hn6 : (G1.touch i m.slot).nds.length ≤ 1000 := by rw [Gr.touch_len, hlen1.out]; exact hn
             have hU6 := hU5.trans hu6 fun _ _ h => h
             have hz6 := hu6.size
             have p0 : w6.cell? ⟨w.heap.size, 0, none⟩ = some (.int .i64 2) := kb6.cell 0
             have p1 : w6.cell? ⟨w.heap.size, 1, none⟩ = some (.int .i64 m.fr) := kb6.cell 1
             have p2 : w6.cell? ⟨w.heap.size, 2, none⟩ = some (.int .i64 m.dst) := kb6.cell 2
             have p3 : w6.cell? ⟨w.heap.size, 3, none⟩ = some (.int .i64 m.slot) := kb6.cell 3
             have p4 : w6.cell? ⟨w.heap.size, 4, none⟩ = some (.int .i64 m.bal.rd) := kb6.cell 4
             have p5 : w6.cell? ⟨w.heap.size, 5, none⟩ = some (.int .i64 m.bal.nd) := kb6.cell 5
             have p6 : w6.cell? ⟨w.heap.size, 6, none⟩ = some (.int .i64 m.had.rd) := kb6.cell 6
             have p7 : w6.cell? ⟨w.heap.size, 7, none⟩ = some (.int .i64 m.had.nd) := kb6.cell 7
             have p8 : w6.cell? ⟨w.heap.size, 8, none⟩ = some (.string m.text) := kb6.cell 8
             clear hu6)
          | (go_at_call 40
             refine (kinds_any g w4.drew).mono ?_
             rintro e5 w5 ⟨rfl, hb50⟩
             have hb5 : Below w4.heap.size w4 w5 := ((Below.refl _ w4).drew).trans hb50
             have q5 := q4.below hb5
             have kb5 := kb40.below_all hb5
             have hU5 := hU4.trans (Upd.of_below' hb5 S) fun _ _ h => h
             have hz5 := hb5.size
             have f0 : w5.cell? ⟨w.heap.size, 0, none⟩ = some (.int .i64 2) := kb5.cell 0
             have f1 : w5.cell? ⟨w.heap.size, 1, none⟩ = some (.int .i64 m.fr) := kb5.cell 1
             have f2 : w5.cell? ⟨w.heap.size, 2, none⟩ = some (.int .i64 m.dst) := kb5.cell 2
             have f3 : w5.cell? ⟨w.heap.size, 3, none⟩ = some (.int .i64 m.slot) := kb5.cell 3
             have f4 : w5.cell? ⟨w.heap.size, 4, none⟩ = some (.int .i64 m.bal.rd) := kb5.cell 4
             have f5 : w5.cell? ⟨w.heap.size, 5, none⟩ = some (.int .i64 m.bal.nd) := kb5.cell 5
             have f6 : w5.cell? ⟨w.heap.size, 6, none⟩ = some (.int .i64 m.had.rd) := kb5.cell 6
             have f7 : w5.cell? ⟨w.heap.size, 7, none⟩ = some (.int .i64 m.had.nd) := kb5.cell 7
             have f8 : w5.cell? ⟨w.heap.size, 8, none⟩ = some (.string m.text) := kb5.cell 8
             clear hb5 hb50))
      all_goals
        go_wp2_with fail
        go_ret
        refine ⟨rfl, G7, hfinal.out _ hP7, GGo.then ⟨S6, fun k hk => (hS6 k hk).imp id (by omega), hU6, S7, h7, hS7, hu7⟩⟩
    · have hcl0 : ∀ (a6 : Ad) (S6 : Nat → Prop) (w6 : World), GIn S6 w6 g (some ⟨b, o, none⟩) cn (some ⟨gr, 0, none⟩) cm (G1.touch i m.slot) a6 → i < (G1.touch i m.slot).nds.length → getA m.slot ((G1.touch i m.slot).nd i).sl = some (G1.at_ i m.slot) → (G1.touch i m.slot).nds.length ≤ 1000 → Calls Try.prog 58 #[.pointer (some ⟨g, 0, none⟩), .pointer (some ⟨a6.sb i m.slot, 0, none⟩), .agg #[.int .i64 3, .int .i64 m.fr, .int .i64 m.dst, .int .i64 m.slot, .int .i64 m.bal.rd, .int .i64 m.bal.nd, .int .i64 m.had.rd, .int .i64 m.had.nd, .string m.text]] w6 fun e w' => e = .returned (.tuple #[]) ∧ ∃ G7, (G1.touch i m.slot).Handle i m.slot (G1.at_ i m.slot) m G7 ∧ GGo S6 w6 g G7 w' := by
        intro a6 S6 w6 q6 hi6 hx6 hn6
        have := accept_any m (G1.at_ i m.slot) i m.slot q6 hi6 hx6
        rw [hK] at this
        refine this.mono ?_
        rintro e w' ⟨h1, h2⟩
        exact ⟨h1, _, by unfold Gr.Handle; simp [hK], h2⟩
      have hcl := hid hcl0
      clear hcl0
      have hidx : ∀ w' : World, (Instr.index 86 (.agg #[.nilFunc, .func (Fn.func 56) #[.pointer (some ⟨g, 0, none⟩)] #[], .func (Fn.func 57) #[.pointer (some ⟨g, 0, none⟩)] #[], .func (Fn.func 58) #[.pointer (some ⟨g, 0, none⟩)] #[], .func (Fn.func 59) #[.pointer (some ⟨g, 0, none⟩)] #[], .func (Fn.func 60) #[.pointer (some ⟨g, 0, none⟩)] #[], .func (Fn.func 61) #[.pointer (some ⟨g, 0, none⟩)] #[]]) (.int .i64 3)).run Try.prog w' = .ok (.func (Fn.func 58) #[.pointer (some ⟨g, 0, none⟩)] #[]) w' := fun _ => by kernel_rfl
      have kb40 : Blk w4 w.heap.size 78 #[.int .i64 3, .int .i64 m.fr, .int .i64 m.dst, .int .i64 m.slot, .int .i64 m.bal.rd, .int .i64 m.bal.nd, .int .i64 m.had.rd, .int .i64 m.had.nd, .string m.text] := by rw [← hK]; exact kb4
      clear hK kb4
      have e0 : w4.cell? ⟨w.heap.size, 0, none⟩ = some (.int .i64 3) := kb40.cell 0
      have e1 : w4.cell? ⟨w.heap.size, 1, none⟩ = some (.int .i64 m.fr) := kb40.cell 1
      have e2 : w4.cell? ⟨w.heap.size, 2, none⟩ = some (.int .i64 m.dst) := kb40.cell 2
      have e3 : w4.cell? ⟨w.heap.size, 3, none⟩ = some (.int .i64 m.slot) := kb40.cell 3
      have e4 : w4.cell? ⟨w.heap.size, 4, none⟩ = some (.int .i64 m.bal.rd) := kb40.cell 4
      have e5 : w4.cell? ⟨w.heap.size, 5, none⟩ = some (.int .i64 m.bal.nd) := kb40.cell 5
      have e6 : w4.cell? ⟨w.heap.size, 6, none⟩ = some (.int .i64 m.had.rd) := kb40.cell 6
      have e7 : w4.cell? ⟨w.heap.size, 7, none⟩ = some (.int .i64 m.had.nd) := kb40.cell 7
      have e8 : w4.cell? ⟨w.heap.size, 8, none⟩ = some (.string m.text) := kb40.cell 8
      go_region_held3 (fun w' => w'.cell? ⟨w.heap.size, 0, none⟩ = some (.int .i64 3) ∧ w'.cell? ⟨w.heap.size, 1, none⟩ = some (.int .i64 m.fr) ∧ w'.cell? ⟨w.heap.size, 2, none⟩ = some (.int .i64 m.dst) ∧ w'.cell? ⟨w.heap.size, 3, none⟩ = some (.int .i64 m.slot) ∧ w'.cell? ⟨w.heap.size, 4, none⟩ = some (.int .i64 m.bal.rd) ∧ w'.cell? ⟨w.heap.size, 5, none⟩ = some (.int .i64 m.bal.nd) ∧ w'.cell? ⟨w.heap.size, 6, none⟩ = some (.int .i64 m.had.rd) ∧ w'.cell? ⟨w.heap.size, 7, none⟩ = some (.int .i64 m.had.nd) ∧ w'.cell? ⟨w.heap.size, 8, none⟩ = some (.string m.text)) (first | exact ⟨e0, e1, e2, e3, e4, e5, e6, e7, e8⟩ | exact ⟨f0, f1, f2, f3, f4, f5, f6, f7, f8⟩ | exact ⟨p0, p1, p2, p3, p4, p5, p6, p7, p8⟩ | exact ⟨r0, r1, r2, r3, r4, r5, r6, r7, r8⟩)
        (first
          | (go_at_call 58
             refine (hcl.out a6 S6 w6 q6 hi6 hx6 hn6).mono ?_
             rintro e7 w7 ⟨rfl, G7, hP7, S7, h7, hS7, hu7⟩
             have kb7 := kb6.upd hu7 fun h => hS6w _ h rfl
             have r0 : w7.cell? ⟨w.heap.size, 0, none⟩ = some (.int .i64 3) := kb7.cell 0
             have r1 : w7.cell? ⟨w.heap.size, 1, none⟩ = some (.int .i64 m.fr) := kb7.cell 1
             have r2 : w7.cell? ⟨w.heap.size, 2, none⟩ = some (.int .i64 m.dst) := kb7.cell 2
             have r3 : w7.cell? ⟨w.heap.size, 3, none⟩ = some (.int .i64 m.slot) := kb7.cell 3
             have r4 : w7.cell? ⟨w.heap.size, 4, none⟩ = some (.int .i64 m.bal.rd) := kb7.cell 4
             have r5 : w7.cell? ⟨w.heap.size, 5, none⟩ = some (.int .i64 m.bal.nd) := kb7.cell 5
             have r6 : w7.cell? ⟨w.heap.size, 6, none⟩ = some (.int .i64 m.had.rd) := kb7.cell 6
             have r7 : w7.cell? ⟨w.heap.size, 7, none⟩ = some (.int .i64 m.had.nd) := kb7.cell 7
             have r8 : w7.cell? ⟨w.heap.size, 8, none⟩ = some (.string m.text) := kb7.cell 8
             clear kb7)
          | (go_at_call 38
             refine (slot_any i m.slot q5 hi3).mono ?_
             rintro e6 w6 ⟨S6, a6, ⟨rfl, hS6⟩, q6, hx6, hu6⟩
             have hS6w : ∀ k, S6 k → k ≠ w.heap.size := fun k hk => by
               rcases hS6 k hk with h | h
               · have := hSlt k h; omega
               · omega
             have kb6 := kb5.upd hu6 fun h => by have := hSlt _ h; omega
             have hi6 : i < (G1.touch i m.slot).nds.length := by rw [Gr.touch_len]; exact hi3
             have hn6 : (G1.touch i m.slot).nds.length ≤ 1000 := by rw [Gr.touch_len, hlen1.out]; exact hn
             have hU6 := hU5.trans hu6 fun _ _ h => h
             have hz6 := hu6.size
             have p0 : w6.cell? ⟨w.heap.size, 0, none⟩ = some (.int .i64 3) := kb6.cell 0
             have p1 : w6.cell? ⟨w.heap.size, 1, none⟩ = some (.int .i64 m.fr) := kb6.cell 1
             have p2 : w6.cell? ⟨w.heap.size, 2, none⟩ = some (.int .i64 m.dst) := kb6.cell 2
             have p3 : w6.cell? ⟨w.heap.size, 3, none⟩ = some (.int .i64 m.slot) := kb6.cell 3
             have p4 : w6.cell? ⟨w.heap.size, 4, none⟩ = some (.int .i64 m.bal.rd) := kb6.cell 4
             have p5 : w6.cell? ⟨w.heap.size, 5, none⟩ = some (.int .i64 m.bal.nd) := kb6.cell 5
             have p6 : w6.cell? ⟨w.heap.size, 6, none⟩ = some (.int .i64 m.had.rd) := kb6.cell 6
             have p7 : w6.cell? ⟨w.heap.size, 7, none⟩ = some (.int .i64 m.had.nd) := kb6.cell 7
             have p8 : w6.cell? ⟨w.heap.size, 8, none⟩ = some (.string m.text) := kb6.cell 8
             clear hu6)
          | (go_at_call 40
             refine (kinds_any g w4.drew).mono ?_
             rintro e5 w5 ⟨rfl, hb50⟩
             have hb5 : Below w4.heap.size w4 w5 := ((Below.refl _ w4).drew).trans hb50
             have q5 := q4.below hb5
             have kb5 := kb40.below_all hb5
             have hU5 := hU4.trans (Upd.of_below' hb5 S) fun _ _ h => h
             have hz5 := hb5.size
             have f0 : w5.cell? ⟨w.heap.size, 0, none⟩ = some (.int .i64 3) := kb5.cell 0
             have f1 : w5.cell? ⟨w.heap.size, 1, none⟩ = some (.int .i64 m.fr) := kb5.cell 1
             have f2 : w5.cell? ⟨w.heap.size, 2, none⟩ = some (.int .i64 m.dst) := kb5.cell 2
             have f3 : w5.cell? ⟨w.heap.size, 3, none⟩ = some (.int .i64 m.slot) := kb5.cell 3
             have f4 : w5.cell? ⟨w.heap.size, 4, none⟩ = some (.int .i64 m.bal.rd) := kb5.cell 4
             have f5 : w5.cell? ⟨w.heap.size, 5, none⟩ = some (.int .i64 m.bal.nd) := kb5.cell 5
             have f6 : w5.cell? ⟨w.heap.size, 6, none⟩ = some (.int .i64 m.had.rd) := kb5.cell 6
             have f7 : w5.cell? ⟨w.heap.size, 7, none⟩ = some (.int .i64 m.had.nd) := kb5.cell 7
             have f8 : w5.cell? ⟨w.heap.size, 8, none⟩ = some (.string m.text) := kb5.cell 8
             clear hb5 hb50))
      all_goals
        go_wp2_with fail
        go_ret
        refine ⟨rfl, G7, hfinal.out _ hP7, GGo.then ⟨S6, fun k hk => (hS6 k hk).imp id (by omega), hU6, S7, h7, hS7, hu7⟩⟩
    · have hcl0 : ∀ (a6 : Ad) (S6 : Nat → Prop) (w6 : World), GIn S6 w6 g (some ⟨b, o, none⟩) cn (some ⟨gr, 0, none⟩) cm (G1.touch i m.slot) a6 → i < (G1.touch i m.slot).nds.length → getA m.slot ((G1.touch i m.slot).nd i).sl = some (G1.at_ i m.slot) → (G1.touch i m.slot).nds.length ≤ 1000 → Calls Try.prog 59 #[.pointer (some ⟨g, 0, none⟩), .pointer (some ⟨a6.sb i m.slot, 0, none⟩), .agg #[.int .i64 4, .int .i64 m.fr, .int .i64 m.dst, .int .i64 m.slot, .int .i64 m.bal.rd, .int .i64 m.bal.nd, .int .i64 m.had.rd, .int .i64 m.had.nd, .string m.text]] w6 fun e w' => e = .returned (.tuple #[]) ∧ ∃ G7, (G1.touch i m.slot).Handle i m.slot (G1.at_ i m.slot) m G7 ∧ GGo S6 w6 g G7 w' := by
        intro a6 S6 w6 q6 hi6 hx6 hn6
        have := acceptedOf_any m (G1.at_ i m.slot) i m.slot q6 hi6 hx6 hn6
        rw [hK] at this
        refine this.mono ?_
        rintro e w' ⟨h1, h2⟩
        exact ⟨h1, _, by unfold Gr.Handle; simp [hK], h2⟩
      have hcl := hid hcl0
      clear hcl0
      have hidx : ∀ w' : World, (Instr.index 86 (.agg #[.nilFunc, .func (Fn.func 56) #[.pointer (some ⟨g, 0, none⟩)] #[], .func (Fn.func 57) #[.pointer (some ⟨g, 0, none⟩)] #[], .func (Fn.func 58) #[.pointer (some ⟨g, 0, none⟩)] #[], .func (Fn.func 59) #[.pointer (some ⟨g, 0, none⟩)] #[], .func (Fn.func 60) #[.pointer (some ⟨g, 0, none⟩)] #[], .func (Fn.func 61) #[.pointer (some ⟨g, 0, none⟩)] #[]]) (.int .i64 4)).run Try.prog w' = .ok (.func (Fn.func 59) #[.pointer (some ⟨g, 0, none⟩)] #[]) w' := fun _ => by kernel_rfl
      have kb40 : Blk w4 w.heap.size 78 #[.int .i64 4, .int .i64 m.fr, .int .i64 m.dst, .int .i64 m.slot, .int .i64 m.bal.rd, .int .i64 m.bal.nd, .int .i64 m.had.rd, .int .i64 m.had.nd, .string m.text] := by rw [← hK]; exact kb4
      clear hK kb4
      have e0 : w4.cell? ⟨w.heap.size, 0, none⟩ = some (.int .i64 4) := kb40.cell 0
      have e1 : w4.cell? ⟨w.heap.size, 1, none⟩ = some (.int .i64 m.fr) := kb40.cell 1
      have e2 : w4.cell? ⟨w.heap.size, 2, none⟩ = some (.int .i64 m.dst) := kb40.cell 2
      have e3 : w4.cell? ⟨w.heap.size, 3, none⟩ = some (.int .i64 m.slot) := kb40.cell 3
      have e4 : w4.cell? ⟨w.heap.size, 4, none⟩ = some (.int .i64 m.bal.rd) := kb40.cell 4
      have e5 : w4.cell? ⟨w.heap.size, 5, none⟩ = some (.int .i64 m.bal.nd) := kb40.cell 5
      have e6 : w4.cell? ⟨w.heap.size, 6, none⟩ = some (.int .i64 m.had.rd) := kb40.cell 6
      have e7 : w4.cell? ⟨w.heap.size, 7, none⟩ = some (.int .i64 m.had.nd) := kb40.cell 7
      have e8 : w4.cell? ⟨w.heap.size, 8, none⟩ = some (.string m.text) := kb40.cell 8
      go_region_held3 (fun w' => w'.cell? ⟨w.heap.size, 0, none⟩ = some (.int .i64 4) ∧ w'.cell? ⟨w.heap.size, 1, none⟩ = some (.int .i64 m.fr) ∧ w'.cell? ⟨w.heap.size, 2, none⟩ = some (.int .i64 m.dst) ∧ w'.cell? ⟨w.heap.size, 3, none⟩ = some (.int .i64 m.slot) ∧ w'.cell? ⟨w.heap.size, 4, none⟩ = some (.int .i64 m.bal.rd) ∧ w'.cell? ⟨w.heap.size, 5, none⟩ = some (.int .i64 m.bal.nd) ∧ w'.cell? ⟨w.heap.size, 6, none⟩ = some (.int .i64 m.had.rd) ∧ w'.cell? ⟨w.heap.size, 7, none⟩ = some (.int .i64 m.had.nd) ∧ w'.cell? ⟨w.heap.size, 8, none⟩ = some (.string m.text)) (first | exact ⟨e0, e1, e2, e3, e4, e5, e6, e7, e8⟩ | exact ⟨f0, f1, f2, f3, f4, f5, f6, f7, f8⟩ | exact ⟨p0, p1, p2, p3, p4, p5, p6, p7, p8⟩ | exact ⟨r0, r1, r2, r3, r4, r5, r6, r7, r8⟩)
        (first
          | (go_at_call 59
             refine (hcl.out a6 S6 w6 q6 hi6 hx6 hn6).mono ?_
             rintro e7 w7 ⟨rfl, G7, hP7, S7, h7, hS7, hu7⟩
             have kb7 := kb6.upd hu7 fun h => hS6w _ h rfl
             have r0 : w7.cell? ⟨w.heap.size, 0, none⟩ = some (.int .i64 4) := kb7.cell 0
             have r1 : w7.cell? ⟨w.heap.size, 1, none⟩ = some (.int .i64 m.fr) := kb7.cell 1
             have r2 : w7.cell? ⟨w.heap.size, 2, none⟩ = some (.int .i64 m.dst) := kb7.cell 2
             have r3 : w7.cell? ⟨w.heap.size, 3, none⟩ = some (.int .i64 m.slot) := kb7.cell 3
             have r4 : w7.cell? ⟨w.heap.size, 4, none⟩ = some (.int .i64 m.bal.rd) := kb7.cell 4
             have r5 : w7.cell? ⟨w.heap.size, 5, none⟩ = some (.int .i64 m.bal.nd) := kb7.cell 5
             have r6 : w7.cell? ⟨w.heap.size, 6, none⟩ = some (.int .i64 m.had.rd) := kb7.cell 6
             have r7 : w7.cell? ⟨w.heap.size, 7, none⟩ = some (.int .i64 m.had.nd) := kb7.cell 7
             have r8 : w7.cell? ⟨w.heap.size, 8, none⟩ = some (.string m.text) := kb7.cell 8
             clear kb7)
          | (go_at_call 38
             refine (slot_any i m.slot q5 hi3).mono ?_
             rintro e6 w6 ⟨S6, a6, ⟨rfl, hS6⟩, q6, hx6, hu6⟩
             have hS6w : ∀ k, S6 k → k ≠ w.heap.size := fun k hk => by
               rcases hS6 k hk with h | h
               · have := hSlt k h; omega
               · omega
             have kb6 := kb5.upd hu6 fun h => by have := hSlt _ h; omega
             have hi6 : i < (G1.touch i m.slot).nds.length := by rw [Gr.touch_len]; exact hi3
             have hn6 : (G1.touch i m.slot).nds.length ≤ 1000 := by rw [Gr.touch_len, hlen1.out]; exact hn
             have hU6 := hU5.trans hu6 fun _ _ h => h
             have hz6 := hu6.size
             have p0 : w6.cell? ⟨w.heap.size, 0, none⟩ = some (.int .i64 4) := kb6.cell 0
             have p1 : w6.cell? ⟨w.heap.size, 1, none⟩ = some (.int .i64 m.fr) := kb6.cell 1
             have p2 : w6.cell? ⟨w.heap.size, 2, none⟩ = some (.int .i64 m.dst) := kb6.cell 2
             have p3 : w6.cell? ⟨w.heap.size, 3, none⟩ = some (.int .i64 m.slot) := kb6.cell 3
             have p4 : w6.cell? ⟨w.heap.size, 4, none⟩ = some (.int .i64 m.bal.rd) := kb6.cell 4
             have p5 : w6.cell? ⟨w.heap.size, 5, none⟩ = some (.int .i64 m.bal.nd) := kb6.cell 5
             have p6 : w6.cell? ⟨w.heap.size, 6, none⟩ = some (.int .i64 m.had.rd) := kb6.cell 6
             have p7 : w6.cell? ⟨w.heap.size, 7, none⟩ = some (.int .i64 m.had.nd) := kb6.cell 7
             have p8 : w6.cell? ⟨w.heap.size, 8, none⟩ = some (.string m.text) := kb6.cell 8
             clear hu6)
          | (go_at_call 40
             refine (kinds_any g w4.drew).mono ?_
             rintro e5 w5 ⟨rfl, hb50⟩
             have hb5 : Below w4.heap.size w4 w5 := ((Below.refl _ w4).drew).trans hb50
             have q5 := q4.below hb5
             have kb5 := kb40.below_all hb5
             have hU5 := hU4.trans (Upd.of_below' hb5 S) fun _ _ h => h
             have hz5 := hb5.size
             have f0 : w5.cell? ⟨w.heap.size, 0, none⟩ = some (.int .i64 4) := kb5.cell 0
             have f1 : w5.cell? ⟨w.heap.size, 1, none⟩ = some (.int .i64 m.fr) := kb5.cell 1
             have f2 : w5.cell? ⟨w.heap.size, 2, none⟩ = some (.int .i64 m.dst) := kb5.cell 2
             have f3 : w5.cell? ⟨w.heap.size, 3, none⟩ = some (.int .i64 m.slot) := kb5.cell 3
             have f4 : w5.cell? ⟨w.heap.size, 4, none⟩ = some (.int .i64 m.bal.rd) := kb5.cell 4
             have f5 : w5.cell? ⟨w.heap.size, 5, none⟩ = some (.int .i64 m.bal.nd) := kb5.cell 5
             have f6 : w5.cell? ⟨w.heap.size, 6, none⟩ = some (.int .i64 m.had.rd) := kb5.cell 6
             have f7 : w5.cell? ⟨w.heap.size, 7, none⟩ = some (.int .i64 m.had.nd) := kb5.cell 7
             have f8 : w5.cell? ⟨w.heap.size, 8, none⟩ = some (.string m.text) := kb5.cell 8
             clear hb5 hb50))
      all_goals
        go_wp2_with fail
        go_ret
        refine ⟨rfl, G7, hfinal.out _ hP7, GGo.then ⟨S6, fun k hk => (hS6 k hk).imp id (by omega), hU6, S7, h7, hS7, hu7⟩⟩
    · have hcl0 : ∀ (a6 : Ad) (S6 : Nat → Prop) (w6 : World), GIn S6 w6 g (some ⟨b, o, none⟩) cn (some ⟨gr, 0, none⟩) cm (G1.touch i m.slot) a6 → i < (G1.touch i m.slot).nds.length → getA m.slot ((G1.touch i m.slot).nd i).sl = some (G1.at_ i m.slot) → (G1.touch i m.slot).nds.length ≤ 1000 → Calls Try.prog 60 #[.pointer (some ⟨g, 0, none⟩), .pointer (some ⟨a6.sb i m.slot, 0, none⟩), .agg #[.int .i64 5, .int .i64 m.fr, .int .i64 m.dst, .int .i64 m.slot, .int .i64 m.bal.rd, .int .i64 m.bal.nd, .int .i64 m.had.rd, .int .i64 m.had.nd, .string m.text]] w6 fun e w' => e = .returned (.tuple #[]) ∧ ∃ G7, (G1.touch i m.slot).Handle i m.slot (G1.at_ i m.slot) m G7 ∧ GGo S6 w6 g G7 w' := by
        intro a6 S6 w6 q6 hi6 hx6 hn6
        have := learn_any m (G1.at_ i m.slot) i m.slot q6 hi6 hx6
        rw [hK] at this
        refine this.mono ?_
        rintro e w' ⟨h1, h2⟩
        exact ⟨h1, _, by unfold Gr.Handle; simp [hK], h2⟩
      have hcl := hid hcl0
      clear hcl0
      have hidx : ∀ w' : World, (Instr.index 86 (.agg #[.nilFunc, .func (Fn.func 56) #[.pointer (some ⟨g, 0, none⟩)] #[], .func (Fn.func 57) #[.pointer (some ⟨g, 0, none⟩)] #[], .func (Fn.func 58) #[.pointer (some ⟨g, 0, none⟩)] #[], .func (Fn.func 59) #[.pointer (some ⟨g, 0, none⟩)] #[], .func (Fn.func 60) #[.pointer (some ⟨g, 0, none⟩)] #[], .func (Fn.func 61) #[.pointer (some ⟨g, 0, none⟩)] #[]]) (.int .i64 5)).run Try.prog w' = .ok (.func (Fn.func 60) #[.pointer (some ⟨g, 0, none⟩)] #[]) w' := fun _ => by kernel_rfl
      have kb40 : Blk w4 w.heap.size 78 #[.int .i64 5, .int .i64 m.fr, .int .i64 m.dst, .int .i64 m.slot, .int .i64 m.bal.rd, .int .i64 m.bal.nd, .int .i64 m.had.rd, .int .i64 m.had.nd, .string m.text] := by rw [← hK]; exact kb4
      clear hK kb4
      have e0 : w4.cell? ⟨w.heap.size, 0, none⟩ = some (.int .i64 5) := kb40.cell 0
      have e1 : w4.cell? ⟨w.heap.size, 1, none⟩ = some (.int .i64 m.fr) := kb40.cell 1
      have e2 : w4.cell? ⟨w.heap.size, 2, none⟩ = some (.int .i64 m.dst) := kb40.cell 2
      have e3 : w4.cell? ⟨w.heap.size, 3, none⟩ = some (.int .i64 m.slot) := kb40.cell 3
      have e4 : w4.cell? ⟨w.heap.size, 4, none⟩ = some (.int .i64 m.bal.rd) := kb40.cell 4
      have e5 : w4.cell? ⟨w.heap.size, 5, none⟩ = some (.int .i64 m.bal.nd) := kb40.cell 5
      have e6 : w4.cell? ⟨w.heap.size, 6, none⟩ = some (.int .i64 m.had.rd) := kb40.cell 6
      have e7 : w4.cell? ⟨w.heap.size, 7, none⟩ = some (.int .i64 m.had.nd) := kb40.cell 7
      have e8 : w4.cell? ⟨w.heap.size, 8, none⟩ = some (.string m.text) := kb40.cell 8
      go_region_held3 (fun w' => w'.cell? ⟨w.heap.size, 0, none⟩ = some (.int .i64 5) ∧ w'.cell? ⟨w.heap.size, 1, none⟩ = some (.int .i64 m.fr) ∧ w'.cell? ⟨w.heap.size, 2, none⟩ = some (.int .i64 m.dst) ∧ w'.cell? ⟨w.heap.size, 3, none⟩ = some (.int .i64 m.slot) ∧ w'.cell? ⟨w.heap.size, 4, none⟩ = some (.int .i64 m.bal.rd) ∧ w'.cell? ⟨w.heap.size, 5, none⟩ = some (.int .i64 m.bal.nd) ∧ w'.cell? ⟨w.heap.size, 6, none⟩ = some (.int .i64 m.had.rd) ∧ w'.cell? ⟨w.heap.size, 7, none⟩ = some (.int .i64 m.had.nd) ∧ w'.cell? ⟨w.heap.size, 8, none⟩ = some (.string m.text)) (first | exact ⟨e0, e1, e2, e3, e4, e5, e6, e7, e8⟩ | exact ⟨f0, f1, f2, f3, f4, f5, f6, f7, f8⟩ | exact ⟨p0, p1, p2, p3, p4, p5, p6, p7, p8⟩ | exact ⟨r0, r1, r2, r3, r4, r5, r6, r7, r8⟩)
        (first
          | (go_at_call 60
             refine (hcl.out a6 S6 w6 q6 hi6 hx6 hn6).mono ?_
             rintro e7 w7 ⟨rfl, G7, hP7, S7, h7, hS7, hu7⟩
             have kb7 := kb6.upd hu7 fun h => hS6w _ h rfl
             have r0 : w7.cell? ⟨w.heap.size, 0, none⟩ = some (.int .i64 5) := kb7.cell 0
             have r1 : w7.cell? ⟨w.heap.size, 1, none⟩ = some (.int .i64 m.fr) := kb7.cell 1
             have r2 : w7.cell? ⟨w.heap.size, 2, none⟩ = some (.int .i64 m.dst) := kb7.cell 2
             have r3 : w7.cell? ⟨w.heap.size, 3, none⟩ = some (.int .i64 m.slot) := kb7.cell 3
             have r4 : w7.cell? ⟨w.heap.size, 4, none⟩ = some (.int .i64 m.bal.rd) := kb7.cell 4
             have r5 : w7.cell? ⟨w.heap.size, 5, none⟩ = some (.int .i64 m.bal.nd) := kb7.cell 5
             have r6 : w7.cell? ⟨w.heap.size, 6, none⟩ = some (.int .i64 m.had.rd) := kb7.cell 6
             have r7 : w7.cell? ⟨w.heap.size, 7, none⟩ = some (.int .i64 m.had.nd) := kb7.cell 7
             have r8 : w7.cell? ⟨w.heap.size, 8, none⟩ = some (.string m.text) := kb7.cell 8
             clear kb7)
          | (go_at_call 38
             refine (slot_any i m.slot q5 hi3).mono ?_
             rintro e6 w6 ⟨S6, a6, ⟨rfl, hS6⟩, q6, hx6, hu6⟩
             have hS6w : ∀ k, S6 k → k ≠ w.heap.size := fun k hk => by
               rcases hS6 k hk with h | h
               · have := hSlt k h; omega
               · omega
             have kb6 := kb5.upd hu6 fun h => by have := hSlt _ h; omega
             have hi6 : i < (G1.touch i m.slot).nds.length := by rw [Gr.touch_len]; exact hi3
             have hn6 : (G1.touch i m.slot).nds.length ≤ 1000 := by rw [Gr.touch_len, hlen1.out]; exact hn
             have hU6 := hU5.trans hu6 fun _ _ h => h
             have hz6 := hu6.size
             have p0 : w6.cell? ⟨w.heap.size, 0, none⟩ = some (.int .i64 5) := kb6.cell 0
             have p1 : w6.cell? ⟨w.heap.size, 1, none⟩ = some (.int .i64 m.fr) := kb6.cell 1
             have p2 : w6.cell? ⟨w.heap.size, 2, none⟩ = some (.int .i64 m.dst) := kb6.cell 2
             have p3 : w6.cell? ⟨w.heap.size, 3, none⟩ = some (.int .i64 m.slot) := kb6.cell 3
             have p4 : w6.cell? ⟨w.heap.size, 4, none⟩ = some (.int .i64 m.bal.rd) := kb6.cell 4
             have p5 : w6.cell? ⟨w.heap.size, 5, none⟩ = some (.int .i64 m.bal.nd) := kb6.cell 5
             have p6 : w6.cell? ⟨w.heap.size, 6, none⟩ = some (.int .i64 m.had.rd) := kb6.cell 6
             have p7 : w6.cell? ⟨w.heap.size, 7, none⟩ = some (.int .i64 m.had.nd) := kb6.cell 7
             have p8 : w6.cell? ⟨w.heap.size, 8, none⟩ = some (.string m.text) := kb6.cell 8
             clear hu6)
          | (go_at_call 40
             refine (kinds_any g w4.drew).mono ?_
             rintro e5 w5 ⟨rfl, hb50⟩
             have hb5 : Below w4.heap.size w4 w5 := ((Below.refl _ w4).drew).trans hb50
             have q5 := q4.below hb5
             have kb5 := kb40.below_all hb5
             have hU5 := hU4.trans (Upd.of_below' hb5 S) fun _ _ h => h
             have hz5 := hb5.size
             have f0 : w5.cell? ⟨w.heap.size, 0, none⟩ = some (.int .i64 5) := kb5.cell 0
             have f1 : w5.cell? ⟨w.heap.size, 1, none⟩ = some (.int .i64 m.fr) := kb5.cell 1
             have f2 : w5.cell? ⟨w.heap.size, 2, none⟩ = some (.int .i64 m.dst) := kb5.cell 2
             have f3 : w5.cell? ⟨w.heap.size, 3, none⟩ = some (.int .i64 m.slot) := kb5.cell 3
             have f4 : w5.cell? ⟨w.heap.size, 4, none⟩ = some (.int .i64 m.bal.rd) := kb5.cell 4
             have f5 : w5.cell? ⟨w.heap.size, 5, none⟩ = some (.int .i64 m.bal.nd) := kb5.cell 5
             have f6 : w5.cell? ⟨w.heap.size, 6, none⟩ = some (.int .i64 m.had.rd) := kb5.cell 6
             have f7 : w5.cell? ⟨w.heap.size, 7, none⟩ = some (.int .i64 m.had.nd) := kb5.cell 7
             have f8 : w5.cell? ⟨w.heap.size, 8, none⟩ = some (.string m.text) := kb5.cell 8
             clear hb5 hb50))
      all_goals
        go_wp2_with fail
        go_ret
        refine ⟨rfl, G7, hfinal.out _ hP7, GGo.then ⟨S6, fun k hk => (hS6 k hk).imp id (by omega), hU6, S7, h7, hS7, hu7⟩⟩
    · have hcl0 : ∀ (a6 : Ad) (S6 : Nat → Prop) (w6 : World), GIn S6 w6 g (some ⟨b, o, none⟩) cn (some ⟨gr, 0, none⟩) cm (G1.touch i m.slot) a6 → i < (G1.touch i m.slot).nds.length → getA m.slot ((G1.touch i m.slot).nd i).sl = some (G1.at_ i m.slot) → (G1.touch i m.slot).nds.length ≤ 1000 → Calls Try.prog 61 #[.pointer (some ⟨g, 0, none⟩), .pointer (some ⟨a6.sb i m.slot, 0, none⟩), .agg #[.int .i64 6, .int .i64 m.fr, .int .i64 m.dst, .int .i64 m.slot, .int .i64 m.bal.rd, .int .i64 m.bal.nd, .int .i64 m.had.rd, .int .i64 m.had.nd, .string m.text]] w6 fun e w' => e = .returned (.tuple #[]) ∧ ∃ G7, (G1.touch i m.slot).Handle i m.slot (G1.at_ i m.slot) m G7 ∧ GGo S6 w6 g G7 w' := by
        intro a6 S6 w6 q6 hi6 hx6 hn6
        have := ask_any m (some ⟨a6.sb i m.slot, 0, none⟩) ⟨_, _, _, _, _, q6⟩ hs
        rw [hK] at this
        refine this.mono ?_
        rintro e w' ⟨h1, h2⟩
        exact ⟨h1, _, by unfold Gr.Handle; simp [hK], h2⟩
      have hcl := hid hcl0
      clear hcl0
      have hidx : ∀ w' : World, (Instr.index 86 (.agg #[.nilFunc, .func (Fn.func 56) #[.pointer (some ⟨g, 0, none⟩)] #[], .func (Fn.func 57) #[.pointer (some ⟨g, 0, none⟩)] #[], .func (Fn.func 58) #[.pointer (some ⟨g, 0, none⟩)] #[], .func (Fn.func 59) #[.pointer (some ⟨g, 0, none⟩)] #[], .func (Fn.func 60) #[.pointer (some ⟨g, 0, none⟩)] #[], .func (Fn.func 61) #[.pointer (some ⟨g, 0, none⟩)] #[]]) (.int .i64 6)).run Try.prog w' = .ok (.func (Fn.func 61) #[.pointer (some ⟨g, 0, none⟩)] #[]) w' := fun _ => by kernel_rfl
      have kb40 : Blk w4 w.heap.size 78 #[.int .i64 6, .int .i64 m.fr, .int .i64 m.dst, .int .i64 m.slot, .int .i64 m.bal.rd, .int .i64 m.bal.nd, .int .i64 m.had.rd, .int .i64 m.had.nd, .string m.text] := by rw [← hK]; exact kb4
      clear hK kb4
      have e0 : w4.cell? ⟨w.heap.size, 0, none⟩ = some (.int .i64 6) := kb40.cell 0
      have e1 : w4.cell? ⟨w.heap.size, 1, none⟩ = some (.int .i64 m.fr) := kb40.cell 1
      have e2 : w4.cell? ⟨w.heap.size, 2, none⟩ = some (.int .i64 m.dst) := kb40.cell 2
      have e3 : w4.cell? ⟨w.heap.size, 3, none⟩ = some (.int .i64 m.slot) := kb40.cell 3
      have e4 : w4.cell? ⟨w.heap.size, 4, none⟩ = some (.int .i64 m.bal.rd) := kb40.cell 4
      have e5 : w4.cell? ⟨w.heap.size, 5, none⟩ = some (.int .i64 m.bal.nd) := kb40.cell 5
      have e6 : w4.cell? ⟨w.heap.size, 6, none⟩ = some (.int .i64 m.had.rd) := kb40.cell 6
      have e7 : w4.cell? ⟨w.heap.size, 7, none⟩ = some (.int .i64 m.had.nd) := kb40.cell 7
      have e8 : w4.cell? ⟨w.heap.size, 8, none⟩ = some (.string m.text) := kb40.cell 8
      go_region_held3 (fun w' => w'.cell? ⟨w.heap.size, 0, none⟩ = some (.int .i64 6) ∧ w'.cell? ⟨w.heap.size, 1, none⟩ = some (.int .i64 m.fr) ∧ w'.cell? ⟨w.heap.size, 2, none⟩ = some (.int .i64 m.dst) ∧ w'.cell? ⟨w.heap.size, 3, none⟩ = some (.int .i64 m.slot) ∧ w'.cell? ⟨w.heap.size, 4, none⟩ = some (.int .i64 m.bal.rd) ∧ w'.cell? ⟨w.heap.size, 5, none⟩ = some (.int .i64 m.bal.nd) ∧ w'.cell? ⟨w.heap.size, 6, none⟩ = some (.int .i64 m.had.rd) ∧ w'.cell? ⟨w.heap.size, 7, none⟩ = some (.int .i64 m.had.nd) ∧ w'.cell? ⟨w.heap.size, 8, none⟩ = some (.string m.text)) (first | exact ⟨e0, e1, e2, e3, e4, e5, e6, e7, e8⟩ | exact ⟨f0, f1, f2, f3, f4, f5, f6, f7, f8⟩ | exact ⟨p0, p1, p2, p3, p4, p5, p6, p7, p8⟩ | exact ⟨r0, r1, r2, r3, r4, r5, r6, r7, r8⟩)
        (first
          | (go_at_call 61
             refine (hcl.out a6 S6 w6 q6 hi6 hx6 hn6).mono ?_
             rintro e7 w7 ⟨rfl, G7, hP7, S7, h7, hS7, hu7⟩
             have kb7 := kb6.upd hu7 fun h => hS6w _ h rfl
             have r0 : w7.cell? ⟨w.heap.size, 0, none⟩ = some (.int .i64 6) := kb7.cell 0
             have r1 : w7.cell? ⟨w.heap.size, 1, none⟩ = some (.int .i64 m.fr) := kb7.cell 1
             have r2 : w7.cell? ⟨w.heap.size, 2, none⟩ = some (.int .i64 m.dst) := kb7.cell 2
             have r3 : w7.cell? ⟨w.heap.size, 3, none⟩ = some (.int .i64 m.slot) := kb7.cell 3
             have r4 : w7.cell? ⟨w.heap.size, 4, none⟩ = some (.int .i64 m.bal.rd) := kb7.cell 4
             have r5 : w7.cell? ⟨w.heap.size, 5, none⟩ = some (.int .i64 m.bal.nd) := kb7.cell 5
             have r6 : w7.cell? ⟨w.heap.size, 6, none⟩ = some (.int .i64 m.had.rd) := kb7.cell 6
             have r7 : w7.cell? ⟨w.heap.size, 7, none⟩ = some (.int .i64 m.had.nd) := kb7.cell 7
             have r8 : w7.cell? ⟨w.heap.size, 8, none⟩ = some (.string m.text) := kb7.cell 8
             clear kb7)
          | (go_at_call 38
             refine (slot_any i m.slot q5 hi3).mono ?_
             rintro e6 w6 ⟨S6, a6, ⟨rfl, hS6⟩, q6, hx6, hu6⟩
             have hS6w : ∀ k, S6 k → k ≠ w.heap.size := fun k hk => by
               rcases hS6 k hk with h | h
               · have := hSlt k h; omega
               · omega
             have kb6 := kb5.upd hu6 fun h => by have := hSlt _ h; omega
             have hi6 : i < (G1.touch i m.slot).nds.length := by rw [Gr.touch_len]; exact hi3
             have hn6 : (G1.touch i m.slot).nds.length ≤ 1000 := by rw [Gr.touch_len, hlen1.out]; exact hn
             have hU6 := hU5.trans hu6 fun _ _ h => h
             have hz6 := hu6.size
             have p0 : w6.cell? ⟨w.heap.size, 0, none⟩ = some (.int .i64 6) := kb6.cell 0
             have p1 : w6.cell? ⟨w.heap.size, 1, none⟩ = some (.int .i64 m.fr) := kb6.cell 1
             have p2 : w6.cell? ⟨w.heap.size, 2, none⟩ = some (.int .i64 m.dst) := kb6.cell 2
             have p3 : w6.cell? ⟨w.heap.size, 3, none⟩ = some (.int .i64 m.slot) := kb6.cell 3
             have p4 : w6.cell? ⟨w.heap.size, 4, none⟩ = some (.int .i64 m.bal.rd) := kb6.cell 4
             have p5 : w6.cell? ⟨w.heap.size, 5, none⟩ = some (.int .i64 m.bal.nd) := kb6.cell 5
             have p6 : w6.cell? ⟨w.heap.size, 6, none⟩ = some (.int .i64 m.had.rd) := kb6.cell 6
             have p7 : w6.cell? ⟨w.heap.size, 7, none⟩ = some (.int .i64 m.had.nd) := kb6.cell 7
             have p8 : w6.cell? ⟨w.heap.size, 8, none⟩ = some (.string m.text) := kb6.cell 8
             clear hu6)
          | (go_at_call 40
             refine (kinds_any g w4.drew).mono ?_
             rintro e5 w5 ⟨rfl, hb50⟩
             have hb5 : Below w4.heap.size w4 w5 := ((Below.refl _ w4).drew).trans hb50
             have q5 := q4.below hb5
             have kb5 := kb40.below_all hb5
             have hU5 := hU4.trans (Upd.of_below' hb5 S) fun _ _ h => h
             have hz5 := hb5.size
             have f0 : w5.cell? ⟨w.heap.size, 0, none⟩ = some (.int .i64 6) := kb5.cell 0
             have f1 : w5.cell? ⟨w.heap.size, 1, none⟩ = some (.int .i64 m.fr) := kb5.cell 1
             have f2 : w5.cell? ⟨w.heap.size, 2, none⟩ = some (.int .i64 m.dst) := kb5.cell 2
             have f3 : w5.cell? ⟨w.heap.size, 3, none⟩ = some (.int .i64 m.slot) := kb5.cell 3
             have f4 : w5.cell? ⟨w.heap.size, 4, none⟩ = some (.int .i64 m.bal.rd) := kb5.cell 4
             have f5 : w5.cell? ⟨w.heap.size, 5, none⟩ = some (.int .i64 m.bal.nd) := kb5.cell 5
             have f6 : w5.cell? ⟨w.heap.size, 6, none⟩ = some (.int .i64 m.had.rd) := kb5.cell 6
             have f7 : w5.cell? ⟨w.heap.size, 7, none⟩ = some (.int .i64 m.had.nd) := kb5.cell 7
             have f8 : w5.cell? ⟨w.heap.size, 8, none⟩ = some (.string m.text) := kb5.cell 8
             clear hb5 hb50))
      all_goals
        go_wp2_with fail
        go_ret
        refine ⟨rfl, G7, hfinal.out _ hP7, GGo.then ⟨S6, fun k hk => (hS6 k hk).imp id (by omega), hU6, S7, h7, hS7, hu7⟩⟩
end

end Go.Proofs.Ytbgopicpdpkccaa

