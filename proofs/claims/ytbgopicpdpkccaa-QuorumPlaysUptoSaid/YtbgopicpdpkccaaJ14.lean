/- Texts of the proof, joined: GRLog, GRun, GEnds, GEnds2, GEnds3. -/
import Derived.Test.YtbgopicpdpkccaaJ13
import Derived.Test.YtbgopicpdpkccaaJ11
import Derived.Test.YtbgopicpdpkccaaJ04
namespace Go.Proofs.Ytbgopicpdpkccaa
open Go.RowKit
set_option linter.unusedVariables false
set_option linter.unusedSimpArgs false

theorem rfd5 (k : Int) (x : Sl) (z : Rj) (w : World) : (Instr.field 103 (rval k x z) 5).run Try.prog w = .ok (.bool x.is) w := by kernel_rfl
theorem rfd6 (k : Int) (x : Sl) (z : Rj) (w : World) : (Instr.field 103 (rval k x z) 6).run Try.prog w = .ok (.string x.text) w := by kernel_rfl
theorem info_strR : (Try.prog.info? 9).map (fun i => (i.zero, i.size, i.bytes)) = some (some (.string ⟨#[]⟩), 1, 16) := by kernel_rfl
/-- slots out of range are as new -/
def SRange (G : Gr) : Prop := ∀ n s, ¬ (0 ≤ s ∧ s < 256) → G.st n s = sl0
def SFew (G : Gr) : Prop := ∀ i, (G.nd i).sl.length ≤ 1000
section
variable {S : Nat → Prop} {w w' : World} {r : Nat} {G : Gr}
set_option maxRecDepth 100000 in
set_option maxHeartbeats 4000000 in
theorem rlog_any (n : Int) (h : RAt S w r G) (hr : SRange G) (hl : SFew G) : Calls Try.prog 54 #[.pointer (some ⟨r, 0, none⟩), .int .i64 n] w fun e w' => ∃ v, e = .returned v ∧ Cloned 9 1 ((G.log n).map Value.string) (G.log n).length w v w' := by
  have hof0 := fun (s : Int) (w1 : World) (hb : Below w.heap.size w w1) => rof_any n s (h.below hb) (hr n s) hl
  have hof := hid hof0
  clear h hr hl hof0
  have f5 := rfd5
  have f6 := rfd6
  obtain ⟨i0, hi0, hz0, hz1, hz2⟩ := info_parts info_strR
  have hlogE : Hid (G.log n = logOf fun s => G.st n s) := hid rfl
  generalize hG : (fun s => G.st n s) = st at *
  have hst : ∀ s, G.st n s = st s := fun s => by rw [← hG]
  simp only [hst] at hof
  clear hst hG
  go_enter Try.func54, Try.ntmps54
  go_wp2_with fail
  go_loopw [5, 6] (fun l v wr => ∃ (k : Nat) (A : Option Addr) (c : Nat), v = .int .i64 k ∧ l = .slice A k c ∧ k ≤ 256 ∧ (∀ j : Nat, j < k → (st (j : Int)).is = true) ∧ wr.ownsRow w.heap.size 9 1 (.slice A k c) k ((List.range k).map fun (j : Nat) => .string (st (j : Int)).text) ∧ Below w.heap.size w wr) (fun _ v _ => 256 - (intOf v).toNat)
  case atStart => exact ⟨0, none, 0, rfl, rfl, by omega, fun j hj => by omega, World.ownsRow_nil _ _ _ _, Below.refl _ _⟩
  case round =>
    obtain ⟨k, A, c, rfl, rfl, hk, hall0, hrow0, hB0⟩ := hrel
    have hall := hid hall0; have hrow := hid hrow0; have hB := hid hB0
    clear hall0 hrow0 hB0
    by_cases hlt : k < 256
    · have i1 : (k : Int) < 256 := by omega
      go_wp2_with fail
      refine (hof.out k wr hB.out).mono ?_
      rintro e w1 ⟨⟨k1, z1, rfl⟩, hb10⟩
      have hb1 := hid (hB.out.trans (hb10.mono hB.out.size))
      have hown1 := hid (own_below hrow.out hb10)
      clear hb10
      cases his0 : (st k).is with
      | false =>
        have his := hid his0
        have f5k : ∀ w, (Instr.field 103 (rval k1 (st k) z1) 5).run Try.prog w = .ok (.bool false) w := fun w => by rw [f5, his0]
        clear his0
        clear f5
        go_wp2_with fail
        go_ret
        have hlog : logOf st = (List.range k).map fun (j : Nat) => (st (j : Int)).text := by
          unfold logOf
          rw [takeWhile_range hk hall.out (.inr his.out)]
        refine ⟨_, rfl, ?_, hb1.out⟩
        rw [hlogE.out, hlog]
        have := hown1.out
        simpa [Function.comp_def] using this
      | true =>
        have his := hid his0
        have f5k : ∀ w, (Instr.field 103 (rval k1 (st k) z1) 5).run Try.prog w = .ok (.bool true) w := fun w => by rw [f5, his0]
        clear his0
        clear f5
        go_wp2_with fail
        refine (hof.out k w1 hb1.out).mono ?_
        rintro e w2 ⟨⟨k2, z2, rfl⟩, hb20⟩
        have hb2 := hid (hb1.out.trans (hb20.mono hb1.out.size))
        have hown2 := hid (own_below hown1.out hb20)
        clear hb20
        go_wp2_with (
          at_builtin
          refine wpList_append_rd _ rfl (.tmp 18) (.tmp 24) 46 rfl w.heap.size 9 i0 _ 1 16 Try.underlying46 hi0 hz0 hz1 hz2 rfl (by omega) (.slice A k c) k ((List.range k).map fun (j : Nat) => .string (st (j : Int)).text) rfl (hown2.out.alloc _) (fun b => b = w2.heap.size) (some ⟨w2.heap.size, 0, none⟩) 1 1 [.string (st (k : Int)).text] rfl (Rd.new _ _ 1 1 #[.string (st (k : Int)).text] _ rfl rfl) (by simp [Value.oneCell']) (by simp only [maxLen]; omega) (by omega) (by have h1 := hb2.out.size; simp; omega) ?_
          intro v3 w3 hown3 hg3 hat3
          obtain ⟨A3, c3, rfl, hc3, _⟩ := own_form hown3)
        go_roundw
        case rel =>
          refine ⟨k + 1, A3, c3, by go_num, rfl, by omega, fun j hj => ?_, ?_, ?_⟩
          · rcases Nat.lt_succ_iff_lt_or_eq.1 hj with h | rfl
            · exact hall.out j h
            · exact his.out
          · rw [List.range_succ, List.map_append]
            exact hown3
          · have h0 : Below w.heap.size w (w2.alloc (.cells #[.string (st (k : Int)).text] 9)) := hb2.out.alloc hb2.out.size _
            refine h0.grown hg3 (by have h1 := hb2.out.size; simp; omega) fun q hq => ?_
            exact (hown2.out.lt q hq).1
        case measure => simp [intOf]; omega
    · obtain rfl : k = 256 := by omega
      go_wp2_with fail
      go_ret
      have hlog : logOf st = (List.range 256).map fun (j : Nat) => (st (j : Int)).text := by
        unfold logOf
        rw [takeWhile_range (Nat.le_refl _) hall.out (.inl rfl)]
      refine ⟨_, rfl, ?_, hB.out⟩
      rw [hlogE.out, hlog]
      have := hrow.out
      simpa [Function.comp_def] using this
end

end Go.Proofs.Ytbgopicpdpkccaa

namespace Go.Proofs.Ytbgopicpdpkccaa
open Go.RowKit
set_option linter.unusedVariables false
set_option linter.unusedSimpArgs false

structure EffX (i : Nat) (s : Int) (x' : Sl) (L : List Ml) (G G' : Gr) : Prop where
  at_ : ∀ j t, G'.at_ j t = if j = i ∧ t = s then x' else G.at_ j t
  len : G'.nds.length = G.nds.length
  up : ∀ j, (G'.nd j).up = (G.nd j).up
  mail : G.mail.length + L.length ≤ 4096 → G'.mail = G.mail ++ L
theorem send_mail {G : Gr} {m : Ml} (h : G.mail.length < 4096) : (G.send m).mail = G.mail ++ [m] := by
  unfold Gr.send; rw [if_pos h]; rfl
theorem sendTo_mail {G : Gr} {m : Ml} (k : Nat) (h : G.mail.length + k ≤ 4096) : (G.sendTo m k).mail = G.mail ++ (List.range k).map fun (j : Nat) => { m with dst := (j : Int) } := by
  induction k with
  | zero => simp [Gr.sendTo]
  | succ k ih =>
    rw [Gr.sendTo_succ, send_mail (by rw [ih (by omega)]; simp; omega), ih (by omega), List.range_succ, List.map_append, List.append_assoc]
    rfl
section
variable {G G' G'' : Gr} {i : Nat} {s : Int} {x : Sl} {L : List Ml} {m : Ml}
theorem EffX.refl (i : Nat) (s : Int) (G : Gr) : EffX i s (G.at_ i s) [] G G := by
  have h := Eff.refl i s G
  exact ⟨h.at_, rfl, fun _ => rfl, fun _ => by simp⟩
theorem EffX.set (h : EffX i s x L G G') (hi : i < G.nds.length) (y : Sl) : EffX i s y L G (G'.setSl i s y) := by
  have hi' : i < G'.nds.length := by rw [h.len]; exact hi
  refine ⟨fun j t => ?_, ?_, fun j => (Gr.up_setSl _ _ _ _ _ hi').trans (h.up j), fun hr => h.mail hr⟩
  · rw [Gr.at_setSl _ _ _ _ _ _ hi', h.at_]
    by_cases e : j = i ∧ t = s
    · rw [if_pos e, if_pos e]
    · rw [if_neg e, if_neg e, if_neg e]
  · unfold Gr.setSl; rw [Gr.len_set, h.len]
theorem EffX.send (h : EffX i s x L G G') (m0 : Ml) : EffX i s x (L ++ [m0]) G (G'.send m0) := by
  refine ⟨fun j t => (Gr.at_nds (Gr.send_nds _ _) j t).trans (h.at_ j t), by rw [Gr.send_nds, h.len], fun j => by rw [Gr.up_nds (Gr.send_nds _ _)]; exact h.up j, fun hr => ?_⟩
  rw [List.length_append, List.length_singleton] at hr
  rw [send_mail (by rw [h.mail (by omega), List.length_append]; omega), h.mail (by omega), List.append_assoc]
theorem EffX.sendAll (h : EffX i s x [] G G') (m0 : Ml) : EffX i s x ((List.range G.nds.length).map fun (j : Nat) => { m0 with dst := (j : Int) }) G (G'.sendAll m0) := by
  have hnd : (G'.sendAll m0).nds = G'.nds := Gr.sendTo_nds _ _ _
  refine ⟨fun j t => (Gr.at_nds hnd j t).trans (h.at_ j t), by rw [hnd, h.len], fun j => by rw [Gr.up_nds hnd]; exact h.up j, fun hr => ?_⟩
  rw [List.length_map, List.length_range] at hr
  have hm : G'.mail = G.mail := by have := h.mail (by simp; omega); simpa using this
  unfold Gr.sendAll
  rw [sendTo_mail _ (by rw [hm, h.len]; exact hr), hm, h.len]
theorem EffX.after (h1 : EffX i s (G.at_ i s) [] G G') (h2 : EffX i s x L G' G'') : EffX i s x L G G'' := by
  have hat : ∀ j t, G'.at_ j t = G.at_ j t := fun j t => by
    rw [h1.at_]
    by_cases e : j = i ∧ t = s
    · rw [if_pos e, e.1, e.2]
    · rw [if_neg e]
  refine ⟨fun j t => by rw [h2.at_, hat], by rw [h2.len, h1.len], fun j => by rw [h2.up, h1.up], fun hr => ?_⟩
  have hm : G'.mail = G.mail := by have := h1.mail (by simp; omega); simpa using this
  rw [h2.mail (by rw [hm]; exact hr), hm]
theorem EffX.touch (h : i < G.nds.length) : EffX i s (G.at_ i s) [] G (G.touch i s) := by
  have he := Eff.touch (s := s) h
  exact ⟨he.at_, he.len, he.up, fun _ => by rw [Gr.mail_touch]; simp⟩
end
/-- just what a message does; an ask's answers are told by Gr.told -/
def Gr.told (G : Gr) (m : Ml) : List Ml := ((List.range 8).takeWhile fun (j : Nat) => (G.st m.dst (m.slot + (j : Int))).is).map fun (j : Nat) => ⟨5, m.dst, m.fr, m.slot + (j : Int), bal0, bal0, (G.st m.dst (m.slot + (j : Int))).text⟩
inductive HX (G : Gr) (x : Sl) (m : Ml) : Sl → List Ml → Prop
  | late : m.kind = 1 ∨ m.kind = 3 → ¬ 0 ≤ cmpB m.bal x.prom → HX G x m { x with rd := maxI x.rd m.bal.rd } []
  | prep : m.kind = 1 → 0 ≤ cmpB m.bal x.prom → HX G x m { x with rd := maxI x.rd m.bal.rd, prom := m.bal } [⟨2, m.dst, m.bal.nd, m.slot, m.bal, x.accd.bal, x.accd.text⟩]
  | acc : m.kind = 3 → 0 ≤ cmpB m.bal x.prom → HX G x m { x with rd := maxI x.rd m.bal.rd, prom := m.bal, accd := ⟨m.bal, m.text⟩ } [⟨4, m.dst, m.bal.nd, m.slot, m.bal, bal0, ⟨#[]⟩⟩]
  | no2 : m.kind = 2 → x.cnts m false = none → HX G x m x []
  | ans1 (d2 : Bd) : m.kind = 2 → x.cnts m false = some d2 → d2.ans.length ≠ G.nds.length / 2 + 1 → HX G x m { x with bid := some d2 } []
  | won (d2 : Bd) (best : Vt) : m.kind = 2 → x.cnts m false = some d2 → d2.ans.length = G.nds.length / 2 + 1 → IsBest d2.ans d2.text best → HX G x m { x with bid := some ⟨d2.bal, best.text, true, []⟩ } ((List.range G.nds.length).map fun (j : Nat) => ⟨3, m.dst, (j : Int), m.slot, d2.bal, bal0, best.text⟩)
  | no4 : m.kind = 4 → x.cnts m true = none → HX G x m x []
  | ans2 (d2 : Bd) : m.kind = 4 → x.cnts m true = some d2 → d2.ans.length ≠ G.nds.length / 2 + 1 → HX G x m { x with bid := some d2 } []
  | done (d2 : Bd) : m.kind = 4 → x.cnts m true = some d2 → d2.ans.length = G.nds.length / 2 + 1 → HX G x m { x with bid := none } ((List.range G.nds.length).map fun (j : Nat) => ⟨5, m.dst, (j : Int), m.slot, m.bal, bal0, d2.text⟩)
  | known : m.kind = 5 → x.is = true → HX G x m x []
  | learn : m.kind = 5 → x.is = false → HX G x m { x with is := true, text := m.text } []
  | told : ¬ (1 ≤ m.kind ∧ m.kind ≤ 5) → HX G x m x (G.told m)
theorem takeWhile_shift {p : Nat → Bool} (f : Nat) : (List.range (f + 1)).takeWhile p = if p 0 then 0 :: (((List.range f).takeWhile fun j => p (j + 1)).map (· + 1)) else [] := by
  rw [List.range_succ_eq_map, List.takeWhile_cons]
  split
  · rw [List.takeWhile_map]; rfl
  · rfl
theorem tellX (G0 : Gr) (m : Ml) {i : Nat} {s : Int} {x : Sl} : ∀ (f : Nat) (t : Int) (L : List Ml) (G G' : Gr), EffX i s x L G G' → EffX i s x (L ++ (((List.range f).takeWhile fun (j : Nat) => (G0.st m.dst (t + (j : Int))).is).map fun (j : Nat) => (⟨5, m.dst, m.fr, t + (j : Int), bal0, bal0, (G0.st m.dst (t + (j : Int))).text⟩ : Ml))) G (G0.tell m f t G') := by
  intro f
  induction f with
  | zero => intro t L G G' h; simpa [Gr.tell] using h
  | succ f ih =>
    intro t L G G' h
    unfold Gr.tell
    rw [takeWhile_shift]
    simp only [Int.natCast_zero, Int.add_zero]
    split
    · rename_i his
      have h2 := ih (t + 1) _ _ _ (h.send ⟨5, m.dst, m.fr, t, bal0, bal0, (G0.st m.dst t).text⟩)
      have e : ∀ j : Nat, t + 1 + (j : Int) = t + ((j + 1 : Nat) : Int) := fun j => by omega
      simp only [e] at h2
      rw [List.append_assoc] at h2
      simpa [List.map_map, Function.comp_def] using h2
    · simpa using h
theorem HandleX {G G' : Gr} {i : Nat} {m : Ml} (hi : i < G.nds.length) (h : G.Handle i m.slot (G.at_ i m.slot) m G') : ∃ x' L, HX G (G.at_ i m.slot) m x' L ∧ EffX i m.slot x' L G G' := by
  have hr := EffX.refl i m.slot G
  unfold Gr.Handle at h
  by_cases h1 : m.kind = 1
  · rw [if_pos h1] at h
    subst h
    unfold Gr.prepare
    by_cases hc : 0 ≤ cmpB m.bal (G.at_ i m.slot).prom
    · rw [if_pos hc]
      exact ⟨_, _, .prep h1 hc, (hr.set hi _).send _⟩
    · rw [if_neg hc]
      exact ⟨_, _, .late (.inl h1) hc, hr.set hi _⟩
  rw [if_neg h1] at h
  by_cases h2 : m.kind = 2
  · rw [if_pos h2] at h
    unfold Gr.Promise at h
    cases hc : (G.at_ i m.slot).cnts m false with
    | none =>
      rw [hc] at h
      subst h
      exact ⟨_, _, .no2 h2 hc, hr⟩
    | some d2 =>
      rw [hc] at h
      simp only at h
      by_cases hl : d2.ans.length = G.nds.length / 2 + 1
      · rw [if_pos hl] at h
        obtain ⟨best, hb, rfl⟩ := h
        exact ⟨_, _, .won d2 best h2 hc hl hb, (hr.set hi { G.at_ i m.slot with bid := some ⟨d2.bal, best.text, true, []⟩ }).sendAll ⟨3, m.dst, 0, m.slot, d2.bal, bal0, best.text⟩⟩
      · rw [if_neg hl] at h
        subst h
        exact ⟨_, _, .ans1 d2 h2 hc hl, hr.set hi _⟩
  rw [if_neg h2] at h
  by_cases h3 : m.kind = 3
  · rw [if_pos h3] at h
    subst h
    unfold Gr.accept
    by_cases hc : 0 ≤ cmpB m.bal (G.at_ i m.slot).prom
    · rw [if_pos hc]
      exact ⟨_, _, .acc h3 hc, (hr.set hi _).send _⟩
    · rw [if_neg hc]
      exact ⟨_, _, .late (.inr h3) hc, hr.set hi _⟩
  rw [if_neg h3] at h
  by_cases h4 : m.kind = 4
  · rw [if_pos h4] at h
    subst h
    unfold Gr.acceptedOf
    cases hc : (G.at_ i m.slot).cnts m true with
    | none => exact ⟨_, _, .no4 h4 hc, hr⟩
    | some d2 =>
      simp only
      by_cases hl : d2.ans.length = G.nds.length / 2 + 1
      · rw [if_pos hl]
        exact ⟨_, _, .done d2 h4 hc hl, (hr.set hi { G.at_ i m.slot with bid := none }).sendAll ⟨5, m.dst, 0, m.slot, m.bal, bal0, d2.text⟩⟩
      · rw [if_neg hl]
        exact ⟨_, _, .ans2 d2 h4 hc hl, hr.set hi _⟩
  rw [if_neg h4] at h
  by_cases h5 : m.kind = 5
  · rw [if_pos h5] at h
    subst h
    unfold Gr.learn
    cases hc : (G.at_ i m.slot).is with
    | true => exact ⟨_, _, .known h5 hc, by rw [if_pos rfl]; exact hr⟩
    | false => exact ⟨_, _, .learn h5 hc, by rw [if_neg (by simp)]; exact hr.set hi _⟩
  rw [if_neg h5] at h
  subst h
  refine ⟨_, _, .told (by omega), ?_⟩
  unfold Gr.ask
  have := tellX G m 8 m.slot [] G G ⟨hr.at_, hr.len, hr.up, hr.mail⟩
  simpa [Gr.told] using this
theorem HX.of_eq {G G' : Gr} {x x' : Sl} {m : Ml} {L : List Ml} (hl : G'.nds.length = G.nds.length) (hs : ∀ t, G'.st m.dst t = G.st m.dst t) (h : HX G' x m x' L) : HX G x m x' L := by
  cases h with
  | late h1 h2 => exact .late h1 h2
  | prep h1 h2 => exact .prep h1 h2
  | acc h1 h2 => exact .acc h1 h2
  | no2 h1 h2 => exact .no2 h1 h2
  | ans1 d2 h1 h2 h3 => exact .ans1 d2 h1 h2 (hl ▸ h3)
  | won d2 best h1 h2 h3 h4 => rw [hl]; exact .won d2 best h1 h2 (hl ▸ h3) h4
  | no4 h1 h2 => exact .no4 h1 h2
  | ans2 d2 h1 h2 h3 => exact .ans2 d2 h1 h2 (hl ▸ h3)
  | done d2 h1 h2 h3 => rw [hl]; exact .done d2 h1 h2 (hl ▸ h3)
  | known h1 h2 => exact .known h1 h2
  | learn h1 h2 => exact .learn h1 h2
  | told h1 =>
    have e : G'.told m = G.told m := by unfold Gr.told; simp only [hs]
    rw [e]
    exact .told h1
/-- the first message is delivered -/
structure FirstX (G : Gr) (m : Ml) (rest : List Ml) (x' : Sl) (L : List Ml) (G' : Gr) : Prop where
  at_ : ∀ j t, G'.at_ j t = if j = m.dst.toNat ∧ t = m.slot then x' else G.at_ j t
  len : G'.nds.length = G.nds.length
  up : ∀ j, (G'.nd j).up = (G.nd j).up
  mail : rest.length + L.length ≤ 4096 → G'.mail = rest ++ L
  what : ((G.nd m.dst.toNat).up = true ∧ HX G (G.at_ m.dst.toNat m.slot) m x' L) ∨ ((G.nd m.dst.toNat).up = false ∧ x' = G.at_ m.dst.toNat m.slot ∧ L = [])
theorem deliver_first_x {G G' : Gr} {m : Ml} {rest : List Ml} (hm : G.mail = m :: rest) (hd : 0 ≤ m.dst ∧ m.dst < G.nds.length) (h : G.DeliverR 0 G') : ∃ x' L, FirstX G m rest x' L G' := by
  rcases h with ⟨h0, _⟩ | ⟨m2, _, h2, h3⟩
  · exact absurd ⟨Int.le_refl _, by rw [hm]; simp⟩ h0
  · rw [hm] at h2
    simp only [Int.toNat_zero, List.getElem?_cons_zero, Option.some.injEq] at h2
    subst h2
    have hi : m.dst.toNat < G.nds.length := by omega
    have hg : (G.gone 0).mail = rest := by
      show G.mail.take 0 ++ G.mail.drop 1 = rest
      rw [hm]; rfl
    simp only [Int.toNat_zero] at h3
    unfold Gr.Deliver at h3
    cases hu : (G.nd m.dst.toNat).up with
    | true =>
      rw [if_pos hu] at h3
      have ht : EffX m.dst.toNat m.slot ((G.gone 0).at_ m.dst.toNat m.slot) [] (G.gone 0) ((G.gone 0).touch m.dst.toNat m.slot) := EffX.touch hi
      have hlen : ((G.gone 0).touch m.dst.toNat m.slot).nds.length = G.nds.length := Gr.touch_len _ _ _
      have hat : ∀ j t, ((G.gone 0).touch m.dst.toNat m.slot).at_ j t = G.at_ j t := fun j t => Gr.at_touch (G.gone 0) _ j _ t hi
      have h' : ((G.gone 0).touch m.dst.toNat m.slot).Handle m.dst.toNat m.slot (((G.gone 0).touch m.dst.toNat m.slot).at_ m.dst.toNat m.slot) m G' := by
        rw [Gr.at_touch (G.gone 0) _ _ _ _ hi]; exact h3
      obtain ⟨x', L, hr, he⟩ := HandleX (by rw [hlen]; exact hi) h'
      rw [hat] at hr
      have hr' := hr.of_eq hlen fun t => by unfold Gr.st; rw [hlen, hat]
      have he' := ht.after he
      exact ⟨x', L, he'.at_, he'.len, he'.up, fun hr => by have := he'.mail (by rw [hg]; exact hr); rwa [hg] at this, .inl ⟨hu, hr'⟩⟩
    | false =>
      rw [if_neg (by rw [hu]; decide)] at h3
      subst h3
      refine ⟨G.at_ m.dst.toNat m.slot, [], fun j t => ?_, rfl, fun _ => rfl, fun _ => by rw [hg]; simp, .inr ⟨hu, rfl, rfl⟩⟩
      by_cases e : j = m.dst.toNat ∧ t = m.slot
      · rw [if_pos e, e.1, e.2]; rfl
      · rw [if_neg e]; rfl

end Go.Proofs.Ytbgopicpdpkccaa

namespace Go.Proofs.Ytbgopicpdpkccaa
open Go.RowKit
set_option linter.unusedVariables false
set_option linter.unusedSimpArgs false

def wt (m : Ml) : Nat := if m.kind = 1 ∨ m.kind = 3 then 2 else 1
def wts (l : List Ml) : Nat := (l.map wt).sum
theorem wts_cons (m : Ml) (l : List Ml) : wts (m :: l) = wt m + wts l := by unfold wts; rw [List.map_cons, List.sum_cons]
theorem wts_app (l l' : List Ml) : wts (l ++ l') = wts l + wts l' := by unfold wts; rw [List.map_append, List.sum_append]
theorem wt_pos (m : Ml) : 1 ≤ wt m := by unfold wt; split <;> omega
theorem len_wts (l : List Ml) : l.length ≤ wts l := by
  induction l with
  | nil => simp [wts]
  | cons m l ih => rw [wts_cons, List.length_cons]; have := wt_pos m; omega
theorem wts_range (n : Nat) (f : Nat → Ml) (k : Nat) (h : ∀ j, wt (f j) = k) : wts ((List.range n).map f) = n * k := by
  unfold wts
  rw [List.map_map]
  have : (wt ∘ f) = fun _ => k := by funext j; exact h j
  rw [this]
  induction n with
  | zero => simp
  | succ n ih => rw [List.range_succ, List.map_append, List.sum_append, ih, Nat.succ_mul]; simp
theorem wts_one {m : Ml} (h : m.kind = 2 ∨ m.kind = 4 ∨ m.kind = 5) : wts [m] = 1 := by
  unfold wts wt
  rw [List.map_singleton, List.sum_singleton, if_neg (by omega)]
def bidPot (b : Bal) (N : Nat) (x : Sl) : Nat := match x.bid with
  | none => 0
  | some d => if d.bal = b then (if d.acc = true then N else 3 * N) else 0
/-- all that is under way is of one ballot -/
structure Run (b : Bal) (i : Nat) (s : Int) (N F : Nat) (G : Gr) : Prop where
  len : G.nds.length = N
  hi : i < N
  own : b.nd = i
  msg : ∀ m ∈ G.mail, m.slot = s ∧ m.bal = b ∧ 1 ≤ m.kind ∧ m.kind ≤ 5 ∧ 0 ≤ m.dst ∧ m.dst < N ∧ (m.kind = 2 ∨ m.kind = 4 → m.dst = i)
  pot : wts G.mail + bidPot b N (G.at_ i s) ≤ F
theorem bidPot_cnts {b : Bal} {N : Nat} {x : Sl} {m : Ml} {a : Bool} {d2 : Bd} (hb : m.bal = b) (h : x.cnts m a = some d2) : bidPot b N x = (if a = true then N else 3 * N) ∧ d2.bal = b ∧ d2.acc = a := by
  obtain ⟨d, h1, h2, h3, h4, rfl⟩ := Sl.cnts_some h
  unfold bidPot
  rw [h1]
  simp only
  rw [h2, hb, if_pos rfl, h3]
  exact ⟨rfl, rfl, rfl⟩
section
variable {b : Bal} {i N F : Nat} {s : Int} {G G' : Gr} {m : Ml} {rest L : List Ml} {x' : Sl}
theorem Run.step (h : Run b i s N F G) (hF : F ≤ 1000) (hN : N ≤ 9) (hm : G.mail = m :: rest) (hx : FirstX G m rest x' L G') : Run b i s N (F - 1) G' ∧ G'.mail = rest ++ L ∧ 1 ≤ F := by
  have hmm := h.msg m (by rw [hm]; exact List.mem_cons_self)
  obtain ⟨m1, m2, m3, m4, m5, m6, m7⟩ := hmm
  have hlen := h.len
  have hpot := h.pot
  rw [hm, wts_cons] at hpot
  have hrl := len_wts rest
  have hw := wt_pos m
  have hx' := hx.what
  have hLN : L.length ≤ 9 := by
    rcases hx' with ⟨_, h1⟩ | ⟨_, _, rfl⟩
    · cases h1 with
      | told h1 => exact absurd ⟨m3, m4⟩ h1
      | won _ _ _ _ _ _ => simp; omega
      | done _ _ _ _ => simp; omega
      | late _ _ => simp
      | prep _ _ => simp
      | acc _ _ => simp
      | no2 _ _ => simp
      | ans1 _ _ _ _ => simp
      | no4 _ _ => simp
      | ans2 _ _ _ _ => simp
      | known _ _ => simp
      | learn _ _ => simp
    · simp
  have hmail := hx.mail (by omega)
  refine ⟨?_, hmail, by omega⟩
  have key : ∀ (hL : ∀ m' ∈ L, m'.slot = s ∧ m'.bal = b ∧ 1 ≤ m'.kind ∧ m'.kind ≤ 5 ∧ 0 ≤ m'.dst ∧ m'.dst < N ∧ (m'.kind = 2 ∨ m'.kind = 4 → m'.dst = i)) (hp : wts L + bidPot b N (G'.at_ i s) + 1 ≤ wt m + bidPot b N (G.at_ i s)), Run b i s N (F - 1) G' := fun hL hp => by
    refine ⟨hx.len.trans hlen, h.hi, h.own, fun m' hm' => ?_, ?_⟩
    · rw [hmail] at hm'
      rcases List.mem_append.1 hm' with hm' | hm'
      · exact h.msg m' (by rw [hm]; exact List.mem_cons_of_mem _ hm')
      · exact hL m' hm'
    · rw [hmail, wts_app]; omega
  have hown := h.own
  have hhi := h.hi
  have hati : bidPot b N (G'.at_ i s) = bidPot b N (if i = m.dst.toNat then x' else G.at_ i s) := by
    rw [hx.at_]
    by_cases e : i = m.dst.toNat
    · rw [if_pos ⟨e, m1.symm⟩, if_pos e]
    · rw [if_neg fun h => e h.1, if_neg e]
  have same : x'.bid = (G.at_ m.dst.toNat m.slot).bid → bidPot b N (G'.at_ i s) = bidPot b N (G.at_ i s) := fun e => by
    rw [hati]
    by_cases ei : i = m.dst.toNat
    · rw [if_pos ei]
      unfold bidPot
      rw [e, ← ei, m1]
    · rw [if_neg ei]
  rcases hx' with ⟨hu, h1⟩ | ⟨hu, rfl, rfl⟩
  · generalize hX : G.at_ m.dst.toNat m.slot = x at *
    cases h1 with
    | late h1 h2 => exact key (fun _ h => (by cases h)) (by rw [same rfl]; simp [wts]; omega)
    | prep h1 h2 =>
      refine key (fun m' hm' => ?_) ?_
      · rw [List.mem_singleton] at hm'
        subst hm'
        exact ⟨m1, m2, by simp, by simp, by simp only; rw [m2, hown]; omega, by simp only; rw [m2, hown]; omega, fun _ => by simp only; rw [m2, hown]⟩
      · rw [same rfl]
        have e1 : wt m = 2 := by unfold wt; rw [if_pos (.inl h1)]
        rw [e1, wts_one (.inl rfl)]
        omega
    | acc h1 h2 =>
      refine key (fun m' hm' => ?_) ?_
      · rw [List.mem_singleton] at hm'
        subst hm'
        exact ⟨m1, m2, by simp, by simp, by simp only; rw [m2, hown]; omega, by simp only; rw [m2, hown]; omega, fun _ => by simp only; rw [m2, hown]⟩
      · rw [same rfl]
        have e1 : wt m = 2 := by unfold wt; rw [if_pos (.inr h1)]
        rw [e1, wts_one (.inr (.inl rfl))]
        omega
    | no2 h1 h2 => exact key (fun _ h => (by cases h)) (by rw [same rfl]; simp [wts]; omega)
    | no4 h1 h2 => exact key (fun _ h => (by cases h)) (by rw [same rfl]; simp [wts]; omega)
    | known h1 h2 => exact key (fun _ h => (by cases h)) (by rw [same rfl]; simp [wts]; omega)
    | learn h1 h2 => exact key (fun _ h => (by cases h)) (by rw [same rfl]; simp [wts]; omega)
    | told h1 => exact absurd ⟨m3, m4⟩ h1
    | ans1 d2 h1 h2 h3 =>
      have ei : i = m.dst.toNat := by have := m7 (.inl h1); omega
      obtain ⟨p1, p2, p3⟩ := bidPot_cnts (N := N) m2 h2
      refine key (fun _ h => (by cases h)) ?_
      rw [hati, if_pos ei, ei, ← m1, hX, p1]
      unfold bidPot
      simp only [p2, p3, if_pos]
      simp [wts]; omega
    | ans2 d2 h1 h2 h3 =>
      have ei : i = m.dst.toNat := by have := m7 (.inr h1); omega
      obtain ⟨p1, p2, p3⟩ := bidPot_cnts (N := N) m2 h2
      refine key (fun _ h => (by cases h)) ?_
      rw [hati, if_pos ei, ei, ← m1, hX, p1]
      unfold bidPot
      simp only [p2, p3, if_pos]
      simp [wts]; omega
    | won d2 best h1 h2 h3 h4 =>
      have ei : i = m.dst.toNat := by have := m7 (.inl h1); omega
      obtain ⟨p1, p2, p3⟩ := bidPot_cnts (N := N) m2 h2
      refine key (fun m' hm' => ?_) ?_
      · obtain ⟨j, hj, rfl⟩ := List.mem_map.1 hm'
        have := List.mem_range.1 hj
        exact ⟨m1, p2, by simp, by simp, by simp only; omega, by simp only; omega, fun h => by simp at h⟩
      · rw [hati, if_pos ei, ei, ← m1, hX, p1, wts_range _ _ 2 (fun j => rfl), hlen]
        unfold bidPot
        simp only [p2, if_pos]
        simp
        omega
    | done d2 h1 h2 h3 =>
      have ei : i = m.dst.toNat := by have := m7 (.inr h1); omega
      obtain ⟨p1, p2, p3⟩ := bidPot_cnts (N := N) m2 h2
      refine key (fun m' hm' => ?_) ?_
      · obtain ⟨j, hj, rfl⟩ := List.mem_map.1 hm'
        have := List.mem_range.1 hj
        exact ⟨m1, m2, by simp, by simp, by simp only; omega, by simp only; omega, fun h => by simp at h⟩
      · rw [hati, if_pos ei, ei, ← m1, hX, p1, wts_range _ _ 1 (fun j => rfl), hlen]
        unfold bidPot
        simp
        omega
  · exact key (fun _ h => (by cases h)) (by rw [same rfl]; simp [wts]; omega)
end

end Go.Proofs.Ytbgopicpdpkccaa

namespace Go.Proofs.Ytbgopicpdpkccaa
open Go.RowKit
set_option linter.unusedVariables false
set_option linter.unusedSimpArgs false

theorem le_cmp {a b : Bal} (h : Bal.le b a) : 0 ≤ cmpB a b := by
  unfold cmpB orI
  unfold Bal.le at h
  rcases c3_cases a.rd b.rd with ⟨h1, h2⟩ | ⟨h1, h2⟩ | ⟨h1, h2⟩ <;> rw [h2] <;> simp
  · omega
  · rcases c3_cases a.nd b.nd with ⟨h3, h4⟩ | ⟨h3, h4⟩ | ⟨h3, h4⟩ <;> rw [h4] <;> omega
theorem nodup_sub {l : List Int} : ∀ {l' : List Int}, l.Nodup → (∀ x ∈ l, x ∈ l') → l.length ≤ l'.length := by
  induction l with
  | nil => intro l' _ _; simp
  | cons a l ih =>
    intro l' h hs
    rw [List.nodup_cons] at h
    have h1 := ih (l' := l'.erase a) h.2 fun x hx => (List.mem_erase_of_ne fun (e : x = a) => h.1 (e ▸ hx)).2 (hs x (List.mem_cons_of_mem _ hx))
    have ha := hs a List.mem_cons_self
    rw [List.length_erase_of_mem ha] at h1
    have : 0 < l'.length := List.length_pos_of_mem ha
    rw [List.length_cons]
    omega
def Ask1 (G : Gr) (kd : Int) (j : Nat) : Prop := ∃ m ∈ G.mail, m.kind = kd ∧ m.dst = (j : Int)
def From1 (G : Gr) (kd : Int) (j : Nat) : Prop := ∃ m ∈ G.mail, m.kind = kd ∧ m.fr = (j : Int)
def kAsk (a : Bool) : Int := if a = true then 3 else 1
def kAns (a : Bool) : Int := if a = true then 4 else 2
def Stg (a : Bool) (b : Bal) (i : Nat) (s : Int) (N : Nat) (G : Gr) : Prop := ∃ d, (G.at_ i s).bid = some d ∧ d.bal = b ∧ d.acc = a ∧ d.ans.length ≤ N / 2 ∧ ∀ j, j < N → (G.nd j).up = true → Ask1 G (kAsk a) j ∨ From1 G (kAns a) j ∨ (getA (j : Int) d.ans).isSome = true
def Stg3 (i : Nat) (s : Int) (N : Nat) (G : Gr) : Prop := (G.at_ i s).bid = none ∧ ∀ j, j < N → (G.nd j).up = true → Ask1 G 5 j ∨ (G.at_ j s).is = true
structure Prog (b : Bal) (i : Nat) (s : Int) (N : Nat) (G : Gr) : Prop where
  up : (G.nd i).up = true
  pr : ∀ j, j < N → Bal.le (G.at_ j s).prom b
  st : (∃ a, Stg a b i s N G) ∨ Stg3 i s N G
section
variable {b : Bal} {i N F : Nat} {s : Int} {G G' : Gr} {m : Ml} {rest L : List Ml} {x' : Sl}
theorem Ask1.carry {kd : Int} {j : Nat} (hm : G.mail = m :: rest) (hm' : G'.mail = rest ++ L) (h : Ask1 G kd j) : (m.kind = kd ∧ m.dst = (j : Int)) ∨ Ask1 G' kd j := by
  obtain ⟨m2, h1, h2⟩ := h
  rw [hm] at h1
  rcases List.mem_cons.1 h1 with rfl | h1
  · exact .inl h2
  · exact .inr ⟨m2, by rw [hm']; exact List.mem_append_left _ h1, h2⟩
theorem From1.carry {kd : Int} {j : Nat} (hm : G.mail = m :: rest) (hm' : G'.mail = rest ++ L) (h : From1 G kd j) : (m.kind = kd ∧ m.fr = (j : Int)) ∨ From1 G' kd j := by
  obtain ⟨m2, h1, h2⟩ := h
  rw [hm] at h1
  rcases List.mem_cons.1 h1 with rfl | h1
  · exact .inl h2
  · exact .inr ⟨m2, by rw [hm']; exact List.mem_append_left _ h1, h2⟩
theorem Prog.step (hp : Prog b i s N G) (h : Run b i s N F G) (hm : G.mail = m :: rest) (hx : FirstX G m rest x' L G') (hmail : G'.mail = rest ++ L) : Prog b i s N G' := by
  have hmm := h.msg m (by rw [hm]; exact List.mem_cons_self)
  obtain ⟨m1, m2, m3, m4, m5, m6, m7⟩ := hmm
  have hlen := h.len
  have hx' := hx.what
  have hJ : m.dst.toNat < N := by omega
  have hat : ∀ j, G'.at_ j s = if j = m.dst.toNat then x' else G.at_ j s := fun j => by
    rw [hx.at_]
    by_cases e : j = m.dst.toNat
    · rw [if_pos ⟨e, m1.symm⟩, if_pos e]
    · rw [if_neg fun h => e h.1, if_neg e]
  have hprJ := hp.pr m.dst.toNat hJ
  -- what was promised
  have hpr : ∀ j, j < N → Bal.le (G'.at_ j s).prom b := fun j hj => by
    rw [hat]
    by_cases e : j = m.dst.toNat
    · rw [if_pos e]
      rcases hx' with ⟨_, h1⟩ | ⟨_, rfl, _⟩
      · rw [m1] at h1
        generalize G.at_ m.dst.toNat s = x at *
        cases h1 with
        | prep _ _ => rw [m2]; exact Bal.refl _
        | acc _ _ => rw [m2]; exact Bal.refl _
        | late _ _ => exact hprJ
        | no2 _ _ => exact hprJ
        | ans1 _ _ _ _ => exact hprJ
        | won _ _ _ _ _ _ => exact hprJ
        | no4 _ _ => exact hprJ
        | ans2 _ _ _ _ => exact hprJ
        | done _ _ _ _ => exact hprJ
        | known _ _ => exact hprJ
        | learn _ _ => exact hprJ
        | told _ => exact hprJ
      · rw [m1]; exact hprJ
    · rw [if_neg e]; exact hp.pr j hj
  refine ⟨(hx.up i).trans hp.up, hpr, ?_⟩
  have hup : ∀ j, (G'.nd j).up = true → (G.nd j).up = true := fun j h => by rwa [hx.up] at h
  -- the bid is as it was
  have stay : ∀ (hb : x'.bid = (G.at_ m.dst.toNat s).bid) (hi : ∀ j, j < N → (G.at_ j s).is = true → (G'.at_ j s).is = true)
      (hA : ∀ a d, (G.at_ i s).bid = some d → d.bal = b → d.acc = a → (m.kind = kAsk a → ∀ j : Nat, m.dst = (j : Int) → (G.nd j).up = true → From1 G' (kAns a) j) ∧ (m.kind = kAns a → ∀ j : Nat, m.fr = (j : Int) → (getA (j : Int) d.ans).isSome = true))
      (h5 : m.kind = 5 → ∀ j : Nat, m.dst = (j : Int) → (G.nd j).up = true → (G'.at_ j s).is = true), (∃ a, Stg a b i s N G') ∨ Stg3 i s N G' := fun hb hi hA h5 => by
    have hbid : (G'.at_ i s).bid = (G.at_ i s).bid := by
      rw [hat]
      by_cases e : i = m.dst.toNat
      · rw [if_pos e, hb, ← e]
      · rw [if_neg e]
    rcases hp.st with ⟨a, d, d1, d2, d3, d4, d5⟩ | ⟨d1, d5⟩
    · refine .inl ⟨a, d, hbid.trans d1, d2, d3, d4, fun j hj hu => ?_⟩
      have hu := hup j hu
      obtain ⟨hA1, hA2⟩ := hA a d d1 d2 d3
      rcases d5 j hj hu with h1 | h1 | h1
      · rcases h1.carry hm hmail with ⟨e1, e2⟩ | h2
        · exact .inr (.inl (hA1 e1 j e2 hu))
        · exact .inl h2
      · rcases h1.carry hm hmail with ⟨e1, e2⟩ | h2
        · exact .inr (.inr (hA2 e1 j e2))
        · exact .inr (.inl h2)
      · exact .inr (.inr h1)
    · refine .inr ⟨hbid.trans d1, fun j hj hu => ?_⟩
      have hu := hup j hu
      rcases d5 j hj hu with h1 | h1
      · rcases h1.carry hm hmail with ⟨e1, e2⟩ | h2
        · exact .inr (h5 e1 j e2 hu)
        · exact .inl h2
      · exact .inr (hi j hj h1)
  have isk : x'.is = (G.at_ m.dst.toNat s).is → ∀ j, j < N → (G.at_ j s).is = true → (G'.at_ j s).is = true := fun e j _ h => by
    rw [hat]
    by_cases ej : j = m.dst.toNat
    · rw [if_pos ej, e, ← ej]; exact h
    · rw [if_neg ej]; exact h
  have kA : ∀ a, kAsk a = 1 ∨ kAsk a = 3 := fun a => by cases a <;> decide
  have kN : ∀ a, kAns a = 2 ∨ kAns a = 4 := fun a => by cases a <;> decide
  rcases hx' with ⟨hu, h1⟩ | ⟨hu, rfl, rfl⟩
  · rw [m1] at h1
    have hxd : ∀ j : Nat, m.dst = (j : Int) → j = m.dst.toNat := fun j e => by omega
    generalize hX : G.at_ m.dst.toNat s = x at *
    cases h1 with
    | late h1 h2 => exact absurd (le_cmp (by rw [m2]; exact hprJ)) h2
    | prep h1 h2 =>
      refine stay rfl (isk rfl) (fun a d _ _ _ => ⟨fun hk j hj _ => ?_, fun hk => ?_⟩) (fun hk => by omega)
      · cases a with
        | true => exact absurd (hk.symm.trans h1) (by decide)
        | false => exact ⟨_, by rw [hmail]; exact List.mem_append_right _ (List.mem_singleton.2 rfl), rfl, hj⟩
      · rcases kN a with e | e <;> omega
    | acc h1 h2 =>
      refine stay rfl (isk rfl) (fun a d _ _ _ => ⟨fun hk j hj _ => ?_, fun hk => ?_⟩) (fun hk => by omega)
      · cases a with
        | false => exact absurd (hk.symm.trans h1) (by decide)
        | true => exact ⟨_, by rw [hmail]; exact List.mem_append_right _ (List.mem_singleton.2 rfl), rfl, hj⟩
      · rcases kN a with e | e <;> omega
    | no2 h1 h2 =>
      have ei : i = m.dst.toNat := by have := m7 (.inl h1); omega
      refine stay rfl (isk rfl) (fun a d hd hb ha => ⟨fun hk => ?_, fun hk j hj => ?_⟩) (fun hk => by omega)
      · rcases kA a with e | e <;> omega
      · cases a with
        | true => exact absurd (hk.symm.trans h1) (by decide)
        | false =>
          rw [ei, hX] at hd
          rw [← hj]
          exact Sl.cnts_none h2 d hd (hb.trans m2.symm) ha
    | no4 h1 h2 =>
      have ei : i = m.dst.toNat := by have := m7 (.inr h1); omega
      refine stay rfl (isk rfl) (fun a d hd hb ha => ⟨fun hk => ?_, fun hk j hj => ?_⟩) (fun hk => by omega)
      · rcases kA a with e | e <;> omega
      · cases a with
        | false => exact absurd (hk.symm.trans h1) (by decide)
        | true =>
          rw [ei, hX] at hd
          rw [← hj]
          exact Sl.cnts_none h2 d hd (hb.trans m2.symm) ha
    | known h1 h2 =>
      refine stay rfl (isk rfl) (fun a d _ _ _ => ⟨fun hk => ?_, fun hk => ?_⟩) (fun hk j hj _ => ?_)
      · rcases kA a with e | e <;> omega
      · rcases kN a with e | e <;> omega
      · rw [hat, if_pos (hxd j hj)]; exact h2
    | learn h1 h2 =>
      refine stay rfl (fun j hj h => ?_) (fun a d _ _ _ => ⟨fun hk => ?_, fun hk => ?_⟩) (fun hk j hj _ => ?_)
      · rw [hat]
        by_cases ej : j = m.dst.toNat
        · rw [if_pos ej]
        · rw [if_neg ej]; exact h
      · rcases kA a with e | e <;> omega
      · rcases kN a with e | e <;> omega
      · rw [hat, if_pos (hxd j hj)]
    | told h1 => exact absurd ⟨m3, m4⟩ h1
    | ans1 d2 h1 h2 h3 =>
      have ei : i = m.dst.toNat := by have := m7 (.inl h1); omega
      obtain ⟨d, c1, c2, c3, c4, rfl⟩ := Sl.cnts_some h2
      rcases hp.st with ⟨a, d', e1, e2, e3, e4, e5⟩ | ⟨e1, _⟩
      · rw [ei, hX, c1] at e1
        injection e1 with e1
        subst e1
        rw [c3] at e3
        subst e3
        refine .inl ⟨false, { d with ans := setA m.fr ⟨m.had, m.text⟩ d.ans }, by rw [hat, if_pos ei], e2, c3, ?_, fun j hj hu => ?_⟩
        · have := setA_len (v := ⟨m.had, m.text⟩) c4
          simp only at h3 ⊢
          omega
        · have hu := hup j hu
          rcases e5 j hj hu with h1' | h1' | h1'
          · rcases h1'.carry hm hmail with ⟨f1, f2⟩ | h2'
            · rw [h1] at f1; exact absurd f1 (by decide)
            · exact .inl h2'
          · rcases h1'.carry hm hmail with ⟨f1, f2⟩ | h2'
            · refine .inr (.inr ?_)
              simp only
              rw [getA_set, if_pos f2.symm]; rfl
            · exact .inr (.inl h2')
          · refine .inr (.inr ?_)
            simp only
            rw [getA_set]
            split
            · rfl
            · exact h1'
      · rw [ei, hX, c1] at e1; cases e1
    | ans2 d2 h1 h2 h3 =>
      have ei : i = m.dst.toNat := by have := m7 (.inr h1); omega
      obtain ⟨d, c1, c2, c3, c4, rfl⟩ := Sl.cnts_some h2
      rcases hp.st with ⟨a, d', e1, e2, e3, e4, e5⟩ | ⟨e1, _⟩
      · rw [ei, hX, c1] at e1
        injection e1 with e1
        subst e1
        rw [c3] at e3
        subst e3
        refine .inl ⟨true, { d with ans := setA m.fr ⟨m.had, m.text⟩ d.ans }, by rw [hat, if_pos ei], e2, c3, ?_, fun j hj hu => ?_⟩
        · have := setA_len (v := ⟨m.had, m.text⟩) c4
          simp only at h3 ⊢
          omega
        · have hu := hup j hu
          rcases e5 j hj hu with h1' | h1' | h1'
          · rcases h1'.carry hm hmail with ⟨f1, f2⟩ | h2'
            · rw [h1] at f1; exact absurd f1 (by decide)
            · exact .inl h2'
          · rcases h1'.carry hm hmail with ⟨f1, f2⟩ | h2'
            · refine .inr (.inr ?_)
              simp only
              rw [getA_set, if_pos f2.symm]; rfl
            · exact .inr (.inl h2')
          · refine .inr (.inr ?_)
            simp only
            rw [getA_set]
            split
            · rfl
            · exact h1'
      · rw [ei, hX, c1] at e1; cases e1
    | won d2 best h1 h2 h3 h4 =>
      have ei : i = m.dst.toNat := by have := m7 (.inl h1); omega
      obtain ⟨p1, p2, p3⟩ := bidPot_cnts (N := N) m2 h2
      refine .inl ⟨true, ⟨d2.bal, best.text, true, []⟩, by rw [hat, if_pos ei], p2, rfl, by simp, fun j hj _ => .inl ⟨_, by rw [hmail]; exact List.mem_append_right _ (List.mem_map.2 ⟨j, List.mem_range.2 (by omega), rfl⟩), rfl, rfl⟩⟩
    | done d2 h1 h2 h3 =>
      have ei : i = m.dst.toNat := by have := m7 (.inr h1); omega
      refine .inr ⟨by rw [hat, if_pos ei], fun j hj _ => .inl ⟨_, by rw [hmail]; exact List.mem_append_right _ (List.mem_map.2 ⟨j, List.mem_range.2 (by omega), rfl⟩), rfl, rfl⟩⟩
  · rw [m1] at stay isk
    have hne : ∀ j : Nat, m.dst = (j : Int) → (G.nd j).up = true → False := fun j hj hj2 => by
      have : j = m.dst.toNat := by omega
      rw [this, hu] at hj2
      cases hj2
    refine stay rfl (isk rfl) (fun a d _ _ _ => ⟨fun hk j hj hj2 => (hne j hj hj2).elim, fun hk => ?_⟩) fun hk j hj hj2 => (hne j hj hj2).elim
    have := m7 (by rcases kN a with e | e <;> omega)
    exact (hne i this hp.up).elim
/-- at the end all that are up have learned -/
theorem Prog.end (hp : Prog b i s N G) (hm : G.mail = []) (hu : N / 2 + 1 ≤ ((List.range N).filter fun j => (G.nd j).up).length) : ∀ j, j < N → (G.nd j).up = true → (G.at_ j s).is = true := by
  have noA : ∀ kd j, ¬ Ask1 G kd j := fun kd j ⟨m, h, _⟩ => by rw [hm] at h; cases h
  have noF : ∀ kd j, ¬ From1 G kd j := fun kd j ⟨m, h, _⟩ => by rw [hm] at h; cases h
  rcases hp.st with ⟨a, d, d1, d2, d3, d4, d5⟩ | ⟨_, d5⟩
  · exfalso
    have hnd : (((List.range N).filter fun j => (G.nd j).up).map fun (j : Nat) => (j : Int)).Nodup := by
      unfold List.Nodup
      rw [List.pairwise_map]
      exact (List.Pairwise.filter _ List.nodup_range).imp fun h e => h (by omega)
    have := nodup_sub (l' := d.ans.map (·.1)) hnd fun x hx => by
      obtain ⟨j, hj, rfl⟩ := List.mem_map.1 hx
      obtain ⟨h1, h2⟩ := List.mem_filter.1 hj
      rcases d5 j (List.mem_range.1 h1) h2 with h | h | h
      · exact (noA _ _ h).elim
      · exact (noF _ _ h).elim
      · obtain ⟨v, hv⟩ := Option.isSome_iff_exists.1 h
        exact List.mem_map.2 ⟨_, getA_mem hv, rfl⟩
    rw [List.length_map, List.length_map] at this
    omega
  · intro j hj h
    rcases d5 j hj h with h | h
    · exact (noA _ _ h).elim
    · exact h
end

end Go.Proofs.Ytbgopicpdpkccaa

namespace Go.Proofs.Ytbgopicpdpkccaa
open Go.RowKit
set_option linter.unusedVariables false
set_option linter.unusedSimpArgs false

section
variable {b : Bal} {i N F : Nat} {s : Int} {K : Int} {G G' G0 : Gr} {M : Int} {c : Prop} {q : Nat}
theorem bidX (hi : i < G.nds.length) (t : ByteArray) : EffX i s { G.at_ i s with rd := (G.at_ i s).rd + 1, bid := some ⟨⟨(G.at_ i s).rd + 1, i⟩, t, false, []⟩ } ((List.range G.nds.length).map fun (j : Nat) => ⟨1, i, (j : Int), s, ⟨(G.at_ i s).rd + 1, i⟩, bal0, ⟨#[]⟩⟩) G (G.bid i s t) :=
  ((EffX.touch hi).set hi _).sendAll ⟨1, i, 0, s, ⟨(G.at_ i s).rd + 1, i⟩, bal0, ⟨#[]⟩⟩
structure Round (G0 : Gr) (b : Bal) (i : Nat) (s : Int) (N : Nat) (M : Int) (c : Prop) (q : Nat) (G : Gr) : Prop where
  ph : ∃ F, Run b i s N F G ∧ F ≤ 1000 ∧ (G.mail = [] ∨ F + q ≤ 5 * N)
  pb : ∀ j, j < N → (G.at_ j s).prom.rd ≤ M
  bm : b.rd ≤ M
  rd : b.rd ≤ (G.at_ i s).rd
  up : ∀ j, (G.nd j).up = (G0.nd j).up
  pg : c → Prog b i s N G
theorem maxI_ge (a b : Int) : a ≤ maxI a b := maxI_le a b
theorem Round.step (h : Round G0 b i s N M c q G) (hN : N ≤ 9) (hd : G.DeliverR 0 G') : Round G0 b i s N M c (q + 1) G' := by
  obtain ⟨F, hr, hF, hq⟩ := h.ph
  cases hm : G.mail with
  | nil =>
    rcases hd with ⟨_, rfl⟩ | ⟨m, _, h2, _⟩
    · exact { h with ph := ⟨F, hr, hF, .inl hm⟩ }
    · rw [hm] at h2; simp at h2
  | cons m rest =>
    have hq : F + q ≤ 5 * N := by
      rcases hq with e | e
      · rw [hm] at e; cases e
      · exact e
    have hlen := hr.len
    obtain ⟨m1, m2, m3, m4, m5, m6, m7⟩ := hr.msg m (by rw [hm]; exact List.mem_cons_self)
    obtain ⟨x', L, hx⟩ := deliver_first_x hm (by omega) hd
    obtain ⟨hr', hmail, hF1⟩ := hr.step hF hN hm hx
    have hat : ∀ j, G'.at_ j s = if j = m.dst.toNat then x' else G.at_ j s := fun j => by
      rw [hx.at_]
      by_cases e : j = m.dst.toNat
      · rw [if_pos ⟨e, m1.symm⟩, if_pos e]
      · rw [if_neg fun h => e h.1, if_neg e]
    have hJ : m.dst.toNat < N := by omega
    have hx2 : x'.prom.rd ≤ M ∧ (G.at_ m.dst.toNat s).rd ≤ x'.rd := by
      have hp := h.pb _ hJ
      rcases hx.what with ⟨_, h1⟩ | ⟨_, rfl, _⟩
      · rw [m1] at h1
        generalize G.at_ m.dst.toNat s = x at *
        cases h1 with
        | prep _ _ => exact ⟨by rw [m2]; exact h.bm, maxI_ge _ _⟩
        | acc _ _ => exact ⟨by rw [m2]; exact h.bm, maxI_ge _ _⟩
        | late _ _ => exact ⟨hp, maxI_ge _ _⟩
        | no2 _ _ => exact ⟨hp, Int.le_refl _⟩
        | ans1 _ _ _ _ => exact ⟨hp, Int.le_refl _⟩
        | won _ _ _ _ _ _ => exact ⟨hp, Int.le_refl _⟩
        | no4 _ _ => exact ⟨hp, Int.le_refl _⟩
        | ans2 _ _ _ _ => exact ⟨hp, Int.le_refl _⟩
        | done _ _ _ _ => exact ⟨hp, Int.le_refl _⟩
        | known _ _ => exact ⟨hp, Int.le_refl _⟩
        | learn _ _ => exact ⟨hp, Int.le_refl _⟩
        | told _ => exact ⟨hp, Int.le_refl _⟩
      · rw [m1]; exact ⟨hp, Int.le_refl _⟩
    refine ⟨⟨F - 1, hr', by omega, .inr (by omega)⟩, fun j hj => ?_, h.bm, ?_, fun j => (hx.up j).trans (h.up j), fun hc => (h.pg hc).step hr hm hx hmail⟩
    · rw [hat]
      split
      · exact hx2.1
      · exact h.pb j hj
    · rw [hat]
      have := h.rd
      split
      · rename_i e; rw [e] at this; omega
      · exact this
theorem Round.empty (h : Round G0 b i s N M c q G) (hq : 5 * N ≤ q) : G.mail = [] := by
  obtain ⟨F, hr, hF, e | e⟩ := h.ph
  · exact e
  · have h1 := hr.pot
    have h2 := len_wts G.mail
    exact List.length_eq_zero_iff.1 (by omega)
/-- ahead of a bid -/
structure Ready (G0 : Gr) (i : Nat) (s : Int) (N : Nat) (most : Int) (k : Nat) (G : Gr) : Prop where
  mail : G.mail = []
  len : G.nds.length = N
  hi : i < N
  iu : (G.nd i).up = true
  up : ∀ j, (G.nd j).up = (G0.nd j).up
  rd : (k : Int) ≤ (G.at_ i s).rd
  pb : ∀ j, j < N → (G.at_ j s).prom.rd ≤ most ∨ (G.at_ j s).prom.rd ≤ (G.at_ i s).rd
  lr : most + 2 ≤ k → ∀ j, j < N → (G.nd j).up = true → (G.at_ j s).is = true
theorem Ready.code {most : Int} {k : Nat} {t : ByteArray} (h : Ready G0 i s N most k G) (hs : 0 ≤ s ∧ s < 256) (ht : t.size ≤ 4096) (hN : N ≤ 9) : G.code i s t = 0 := by
  unfold Gr.code
  have hl := h.len
  have hi := h.hi
  rw [if_neg (by rw [Int.toNat_natCast, Decidable.not_not]; exact ⟨by omega, by omega, h.iu⟩), if_neg (by omega), if_neg (by omega), if_neg (by rw [h.mail]; simp; omega)]
theorem Ready.start {most : Int} {k : Nat} {t : ByteArray} (h : Ready G0 i s N most k G) (hN : N ≤ 9) : Round G0 ⟨(G.at_ i s).rd + 1, i⟩ i s N (if most ≤ (G.at_ i s).rd + 1 then (G.at_ i s).rd + 1 else most) (most ≤ (G.at_ i s).rd) 0 (G.bid i s t) := by
  have hl := h.len
  have hi : i < G.nds.length := by have := h.hi; omega
  have he := bidX (s := s) hi t
  have hmail := he.mail (by rw [h.mail, List.length_map, List.length_range]; simp; omega)
  rw [h.mail, List.nil_append] at hmail
  have hati := he.at_ i s
  rw [if_pos ⟨rfl, rfl⟩] at hati
  have hprom : ∀ j, ((G.bid i s t).at_ j s).prom = (G.at_ j s).prom := fun j => by
    rw [he.at_]
    by_cases e : j = i ∧ s = s
    · rw [if_pos e, e.1]
    · rw [if_neg e]
  have hpb := h.pb
  have hup : ∀ j, ((G.bid i s t).nd j).up = (G0.nd j).up := fun j => (he.up j).trans (h.up j)
  refine ⟨⟨5 * N, ⟨he.len.trans hl, h.hi, rfl, fun m hm => ?_, ?_⟩, by omega, .inr (by omega)⟩, fun j hj => ?_, ?_, ?_, hup, fun hc => ⟨(he.up i).trans h.iu, fun j hj => ?_, .inl ⟨false, ?_⟩⟩⟩
  · rw [hmail] at hm
    obtain ⟨j, hj, rfl⟩ := List.mem_map.1 hm
    have := List.mem_range.1 hj
    exact ⟨rfl, rfl, by simp, by simp, by simp only; omega, by simp only; omega, fun h => by simp at h⟩
  · rw [hmail, hati, wts_range _ _ 2 (fun j => rfl), hl]
    unfold bidPot
    simp
    omega
  · rw [hprom]
    rcases hpb j hj with e | e
    · split <;> omega
    · split <;> omega
  · simp only; split <;> omega
  · rw [hati]; exact Int.le_refl _
  · rw [hprom]
    refine .inl ?_
    simp only
    rcases hpb j hj with e | e <;> omega
  · refine ⟨_, by rw [hati], rfl, rfl, by simp, fun j hj _ => .inl ⟨_, by rw [hmail]; exact List.mem_map.2 ⟨j, List.mem_range.2 (by omega), rfl⟩, rfl, rfl⟩⟩
theorem Ready.next {most : Int} {k : Nat} {t : ByteArray} (h : Ready G0 i s N most k G) (hN : N ≤ 9) (hu : N / 2 + 1 ≤ ((List.range N).filter fun j => (G0.nd j).up).length)
    (hr : Round G0 ⟨(G.at_ i s).rd + 1, i⟩ i s N (if most ≤ (G.at_ i s).rd + 1 then (G.at_ i s).rd + 1 else most) (most ≤ (G.at_ i s).rd) q G') (hq : 5 * N ≤ q) : Ready G0 i s N most (k + 1) G' := by
  have hm := hr.empty hq
  obtain ⟨F, hrun, _⟩ := hr.ph
  have hrd := hr.rd
  have hk := h.rd
  simp only at hrd
  have hui : (G0.nd i).up = true := (h.up i).symm.trans h.iu
  refine ⟨hm, hrun.len, h.hi, (hr.up i).trans hui, hr.up, by push_cast; omega, fun j hj => ?_, fun hmk => ?_⟩
  · have := hr.pb j hj
    split at this
    · exact .inr (by omega)
    · exact .inl this
  · have hp := hr.pg (by push_cast at hmk; omega)
    exact hp.end hm (by
      have e : (List.range N).filter (fun j => (G'.nd j).up) = (List.range N).filter fun j => (G0.nd j).up := by
        congr 1; funext j; exact hr.up j
      rw [e]; exact hu)
/-- what was promised, within bounds -/
def PFit (N : Nat) (K : Int) (G : Gr) : Prop := ∀ j, j < N → ∀ t, 0 ≤ (G.at_ j t).prom.rd ∧ (G.at_ j t).prom.rd ≤ K
theorem PFit.new (k : Nat) (hK : 0 ≤ K) : PFit k K (grN k) := fun j _ t => by rw [grN_at]; exact ⟨Int.le_refl _, hK⟩
theorem PFit.act (h : PFit N K G) (hf : Fit N K G) (hK : 0 ≤ K) {a : GA} (ha : G.Act a G') : PFit N (K + 1) G' := by
  intro j hj t
  have hx := h j hj t
  have same : G'.at_ j t = G.at_ j t ∨ G'.at_ j t = (G.at_ j t).calm → 0 ≤ (G'.at_ j t).prom.rd ∧ (G'.at_ j t).prom.rd ≤ K + 1 := fun e => by
    rcases e with e | e
    · rw [e]; omega
    · rw [e]; exact ⟨hx.1, by show (G.at_ j t).prom.rd ≤ K + 1; omega⟩
  unfold Gr.Act at ha
  split at ha
  · subst ha
    unfold Gr.propose
    split
    · rename_i hc
      obtain ⟨h1, h2, _⟩ := code_ok hc
      rw [(bid_eff (by omega) a.text).at_]
      split
      · rename_i e
        simp only
        rw [← e.1, ← e.2]; omega
      · omega
    · omega
  split at ha
  · rcases ha with ⟨_, rfl⟩ | ⟨m, h1, h2, h3⟩
    · omega
    · have hm := List.mem_of_getElem? h2
      have hl := hf.len
      have hfm := hf.mail m hm
      have hdst := hfm.dst
      have hb := hfm.rd
      obtain ⟨x', new, hr, he⟩ := Deliver_eff (by omega) h3
      rw [he.at_]
      split
      · rename_i e
        have hx : 0 ≤ (G.at_ m.dst.toNat m.slot).prom.rd ∧ (G.at_ m.dst.toNat m.slot).prom.rd ≤ K := by rw [← e.1, ← e.2]; exact hx
        generalize G.at_ m.dst.toNat m.slot = x at *
        cases hr with
        | prep _ _ => simp only; omega
        | acc _ _ => simp only; omega
        | stay => omega
        | late _ => simp only; omega
        | ans1 _ _ _ _ => simp only; omega
        | won _ _ _ _ _ _ => simp only; omega
        | ans2 _ _ _ _ => simp only; omega
        | done _ _ _ _ => simp only; omega
        | learn _ _ => simp only; omega
        | told => omega
      · omega
  split at ha
  · subst ha; exact same (.inl (Gr.at_nds (drop_nds _) j t))
  split at ha
  · subst ha; exact same (.inl (Gr.at_nds (double_nds _) j t))
  split at ha
  · subst ha; exact same (crash_at _ j t)
  split at ha
  · subst ha; exact same (.inl (restart_at _ j t))
  split at ha
  · subst ha; exact same (.inl (Gr.at_nds (catch_nds _) j t))
  · subst ha; exact same (.inl rfl)
/-- one text a slot -/
def One (s : Int) (G : Gr) : Prop := ∃ pr g, Safe s pr G g fun _ => False
theorem One.new (k : Nat) (s : Int) : One s (grN k) := ⟨_, _, Safe.new k s⟩
theorem One.act (h : One s G) (hf : Fit N K G) {a : GA} (ha : G.Act a G') : One s G' := by
  obtain ⟨pr, g, h⟩ := h
  obtain ⟨g', h'⟩ := h.act hf ha
  exact ⟨_, g', h'⟩
theorem One.deliver (h : One s G) (hf : Fit N K G) {k : Int} (hd : G.DeliverR k G') : One s G' := by
  obtain ⟨pr, g, h⟩ := h
  obtain ⟨g', h'⟩ := h.deliver hf hd
  exact ⟨_, g', h'⟩
theorem One.propose (h : One s G) (n s' : Int) (t : ByteArray) : One s (G.propose n s' t) := by
  obtain ⟨pr, g, h⟩ := h
  exact ⟨_, g, h.propose n s' t⟩
theorem One.drop (h : One s G) (k : Int) : One s (G.drop k) := by
  obtain ⟨pr, g, h⟩ := h
  exact ⟨_, g, h.still (by rw [drop_nds]) (fun j => .inl (Gr.at_nds (drop_nds _) j s)) fun m hm => .inl (drop_mem hm)⟩
theorem One.one (h : One s G) {j k : Nat} (hj : j < G.nds.length) (hk : k < G.nds.length) (h1 : (G.at_ j s).is = true) (h2 : (G.at_ k s).is = true) : (G.at_ j s).text = (G.at_ k s).text := by
  obtain ⟨pr, g, h⟩ := h
  exact h.one ((h.node j hj).lrnd h1) ((h.node k hk).lrnd h2)
/-- the mail after k times Drop(0) -/
theorem drop_len (G : Gr) : (G.drop 0).mail.length = G.mail.length - 1 := by
  unfold Gr.drop
  split
  · show (G.mail.take 0 ++ G.mail.drop 1).length = _
    simp
  · omega
end

end Go.Proofs.Ytbgopicpdpkccaa

