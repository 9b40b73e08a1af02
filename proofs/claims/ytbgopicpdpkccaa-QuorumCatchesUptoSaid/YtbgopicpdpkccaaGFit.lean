/- quorum: what is always within bounds: the plain law; every act. -/
import Derived.Test.YtbgopicpdpkccaaGSafe2
import Derived.Test.YtbgopicpdpkccaaGClr
namespace Go.Proofs.Ytbgopicpdpkccaa
open Go.RowKit
set_option linter.unusedVariables false
set_option linter.unusedSimpArgs false

structure MFit (N : Nat) (K : Int) (m : Ml) : Prop where
  kind : 1 ≤ m.kind ∧ m.kind ≤ 6
  dst : 0 ≤ m.dst ∧ m.dst < N
  fr : 0 ≤ m.fr ∧ m.fr < N
  slot : 0 ≤ m.slot ∧ m.slot < 256
  nd : 0 ≤ m.bal.nd ∧ m.bal.nd < N
  rd : 0 ≤ m.bal.rd ∧ m.bal.rd ≤ K
structure SFit (K : Int) (s : Int) (x : Sl) : Prop where
  rd : 0 ≤ x.rd ∧ x.rd ≤ K
  is : x.is = true → 0 ≤ s ∧ s < 256
structure Fit (N : Nat) (K : Int) (G : Gr) : Prop where
  len : G.nds.length = N
  room : G.mail.length ≤ 4096
  mail : ∀ m ∈ G.mail, MFit N K m
  node : ∀ i, i < N → ∀ s, SFit K s (G.at_ i s)
theorem MFit.mono {N : Nat} {K K' : Int} {m : Ml} (h : MFit N K m) (hk : K ≤ K') : MFit N K' m := { h with rd := ⟨h.rd.1, Int.le_trans h.rd.2 hk⟩ }
theorem SFit.mono {K K' s : Int} {x : Sl} (h : SFit K s x) (hk : K ≤ K') : SFit K' s x := { h with rd := ⟨h.rd.1, Int.le_trans h.rd.2 hk⟩ }
theorem Fit.mono {N : Nat} {K K' : Int} {G : Gr} (h : Fit N K G) (hk : K ≤ K') : Fit N K' G := ⟨h.len, h.room, fun m hm => (h.mail m hm).mono hk, fun i hi s => (h.node i hi s).mono hk⟩
section
variable {N : Nat} {K : Int} {G G' : Gr} {i : Nat} {s : Int} {m : Ml} {x x' : Sl} {new : Ml → Prop}
theorem Fit.eff (h : Fit N K G) {K' : Int} (hk : K ≤ K') (he : Eff i s x' new G G') (hx : SFit K' s x') (hn : ∀ m, new m → MFit N K' m) : Fit N K' G' := by
  refine ⟨he.len.trans h.len, he.room h.room, fun m hm => ?_, fun j hj t => ?_⟩
  · rcases he.mail m hm with hm | hm
    · exact (h.mail m hm).mono hk
    · exact hn m hm
  · rw [he.at_]
    by_cases e : j = i ∧ t = s
    · rw [if_pos e, e.2]; exact hx
    · rw [if_neg e]; exact (h.node j hj t).mono hk
theorem maxI_le2 {a b K : Int} (h1 : 0 ≤ a ∧ a ≤ K) (h2 : 0 ≤ b ∧ b ≤ K) : 0 ≤ maxI a b ∧ maxI a b ≤ K := by unfold maxI; split <;> assumption
theorem Fit.handle (h : Fit N K G) (hm : m ∈ G.mail) (hr : HRel G m.dst.toNat (G.at_ m.dst.toNat m.slot) m x' new) (he : Eff m.dst.toNat m.slot x' new G G') : Fit N K G' := by
  have hf := h.mail m hm
  obtain ⟨k1, k2, k3, k4, k5, k6⟩ := hf
  have hx := h.node m.dst.toNat (by omega) m.slot
  obtain ⟨x1, x2⟩ := hx
  generalize G.at_ m.dst.toNat m.slot = x at *
  refine h.eff (Int.le_refl _) he ?_ ?_
  · cases hr with
    | stay => exact ⟨x1, x2⟩
    | late _ => exact ⟨maxI_le2 x1 k6, x2⟩
    | prep _ _ => exact ⟨maxI_le2 x1 k6, x2⟩
    | acc _ _ => exact ⟨maxI_le2 x1 k6, x2⟩
    | ans1 _ _ _ _ => exact ⟨x1, x2⟩
    | won _ _ _ _ _ _ => exact ⟨x1, x2⟩
    | ans2 _ _ _ _ => exact ⟨x1, x2⟩
    | done _ _ _ _ => exact ⟨x1, x2⟩
    | learn _ _ => exact ⟨x1, fun _ => k4⟩
    | told => exact ⟨x1, x2⟩
  · intro m' hn
    cases hr with
    | stay => exact hn.elim
    | late _ => exact hn.elim
    | prep _ _ => rcases hn with hn | rfl; exact hn.elim; exact ⟨by simp, k5, k2, k4, k5, k6⟩
    | acc _ _ => rcases hn with hn | rfl; exact hn.elim; exact ⟨by simp, k5, k2, k4, k5, k6⟩
    | ans1 _ _ _ _ => exact hn.elim
    | won d2 _ _ hc _ _ =>
      obtain ⟨d, _, hb, _, _, rfl⟩ := Sl.cnts_some hc
      obtain ⟨j, hj, rfl⟩ := hn
      have hl := h.len
      refine ⟨by simp, ⟨by simp, by simp only; omega⟩, k2, k4, ?_, ?_⟩
      · simp only; rw [hb]; exact k5
      · simp only; rw [hb]; exact k6
    | ans2 _ _ _ _ => exact hn.elim
    | done d2 _ _ _ =>
      obtain ⟨j, hj, rfl⟩ := hn
      have hl := h.len
      exact ⟨by simp, ⟨by simp, by simp only; omega⟩, k2, k4, k5, k6⟩
    | learn _ _ => exact hn.elim
    | told =>
      obtain ⟨t, _, h2, rfl⟩ := hn
      unfold Gr.st at h2
      split at h2
      · have := (h.node m.dst.toNat (by omega) t).is h2
        exact ⟨by simp, k3, k2, this, ⟨by simp [bal0], by simp [bal0]; omega⟩, ⟨by simp [bal0], by simp [bal0]; omega⟩⟩
      · cases h2
theorem bid_eff (hi : i < G.nds.length) (t : ByteArray) : Eff i s { G.at_ i s with rd := (G.at_ i s).rd + 1, bid := some ⟨⟨(G.at_ i s).rd + 1, i⟩, t, false, []⟩ } (fun m => ∃ j : Nat, j < G.nds.length ∧ m = ⟨1, i, (j : Int), s, ⟨(G.at_ i s).rd + 1, i⟩, bal0, ⟨#[]⟩⟩) G (G.bid i s t) :=
  ((Eff.touch hi).set hi _).sendAll ⟨1, i, 0, s, ⟨(G.at_ i s).rd + 1, i⟩, bal0, ⟨#[]⟩⟩
theorem code_ok {n : Int} {t : ByteArray} (h : G.code n s t = 0) : 0 ≤ n ∧ n < G.nds.length ∧ (G.nd n.toNat).up = true ∧ 0 ≤ s ∧ s < 256 ∧ t.size ≤ 4096 := by
  unfold Gr.code at h
  split at h
  · cases h
  · rename_i h1
    split at h
    · cases h
    · split at h
      · cases h
      · simp only [Decidable.not_not] at h1
        exact ⟨h1.1, h1.2.1, h1.2.2, by omega, by omega, by omega⟩
theorem Fit.propose (h : Fit N K G) (n s : Int) (t : ByteArray) : Fit N (K + 1) (G.propose n s t) := by
  unfold Gr.propose
  split
  · rename_i hc
    obtain ⟨h1, h2, h3, h4, h5, h6⟩ := code_ok hc
    have hl := h.len
    have hi : n.toNat < G.nds.length := by omega
    have hx := h.node n.toNat (by omega) s
    refine h.eff (by omega) (bid_eff hi t) ⟨by simp only; have := hx.rd; omega, hx.is⟩ fun m hm => ?_
    obtain ⟨j, hj, rfl⟩ := hm
    have := hx.rd
    exact ⟨by simp, by simp only; omega, by simp only; omega, ⟨h4, h5⟩, by simp only; omega, by simp only; omega⟩
  · exact h.mono (by omega)
/-- nothing but the mail, and calmer -/
theorem Fit.calm (h : Fit N K G) (hl : G'.nds.length = G.nds.length) (hat : ∀ j t, G'.at_ j t = G.at_ j t ∨ G'.at_ j t = (G.at_ j t).calm) (hr : G'.mail.length ≤ 4096) (hm : ∀ m ∈ G'.mail, m ∈ G.mail ∨ MFit N K m) : Fit N K G' :=
  ⟨hl.trans h.len, hr, fun m hm' => (hm m hm').elim (h.mail m) id, fun j hj t => by
    have hx := h.node j hj t
    rcases hat j t with e | e
    · rw [e]; exact hx
    · rw [e]; exact ⟨hx.rd, hx.is⟩⟩
theorem clr_at (hi : i < G.nds.length) (d : Int → Bool) (j : Nat) (t : Int) : (G.clr i d).at_ j t = if j = i ∧ d t = true then (G.at_ j t).calm else G.at_ j t := by
  unfold Gr.at_
  by_cases e : j = i
  · subst e
    rw [clr_get hi]
    cases getA t (G.nd j).sl with
    | none => cases d t <;> simp [Sl.calm, sl0]
    | some x => cases d t <;> simp
  · rw [if_neg fun h => e h.1]
    unfold Gr.clr
    rw [Gr.nd_set _ _ _ _ hi, if_neg e]
theorem crash_at (n : Int) (j : Nat) (t : Int) : (G.crash n).at_ j t = G.at_ j t ∨ (G.crash n).at_ j t = (G.at_ j t).calm := by
  unfold Gr.crash
  split
  · rw [clr_at (by omega)]
    split
    · exact .inr rfl
    · exact .inl rfl
  · exact .inl rfl
theorem Fit.crash (h : Fit N K G) (n : Int) : Fit N K (G.crash n) := by
  refine h.calm ?_ (crash_at n) ?_ ?_
  · unfold Gr.crash; split
    · exact clr_len _ _ _
    · rfl
  · unfold Gr.crash; split
    · exact h.room
    · exact h.room
  · intro m hm
    unfold Gr.crash at hm
    split at hm
    · exact .inl hm
    · exact .inl hm
theorem restart_at (n : Int) (j : Nat) (t : Int) : (G.restart n).at_ j t = G.at_ j t := by
  unfold Gr.restart
  split
  · unfold Gr.at_
    rw [Gr.nd_set _ _ _ _ (by omega)]
    split
    · rename_i e; rw [e]
    · rfl
  · rfl
theorem restart_mail (n : Int) : (G.restart n).mail = G.mail := by unfold Gr.restart; split <;> rfl
theorem restart_len (n : Int) : (G.restart n).nds.length = G.nds.length := by
  unfold Gr.restart; split
  · exact Gr.len_set _ _ _
  · rfl
theorem Fit.restart (h : Fit N K G) (n : Int) : Fit N K (G.restart n) :=
  h.calm (restart_len n) (fun j t => .inl (restart_at n j t)) (by rw [restart_mail]; exact h.room) fun m hm => .inl (by rwa [restart_mail] at hm)
theorem drop_nds (k : Int) : (G.drop k).nds = G.nds := by unfold Gr.drop; split <;> rfl
theorem double_nds (k : Int) : (G.double k).nds = G.nds := by unfold Gr.double; split <;> rfl
theorem drop_mem {k : Int} (h : m ∈ (G.drop k).mail) : m ∈ G.mail := by
  unfold Gr.drop at h; split at h
  · exact Gr.gone_mem h
  · exact h
theorem double_mem {k : Int} (h : m ∈ (G.double k).mail) : m ∈ G.mail := by
  unfold Gr.double at h; split at h
  · rcases List.mem_append.1 h with h | h
    · exact h
    · exact List.mem_of_getElem? (by simpa using h)
  · exact h
theorem Fit.drop (h : Fit N K G) (k : Int) : Fit N K (G.drop k) :=
  h.calm (by rw [drop_nds]) (fun j t => .inl (Gr.at_nds (drop_nds k) j t)) (by
    unfold Gr.drop; split
    · exact Nat.le_trans (Gr.gone_len _ _) h.room
    · exact h.room) fun m hm => .inl (drop_mem hm)
theorem Fit.double (h : Fit N K G) (k : Int) : Fit N K (G.double k) :=
  h.calm (by rw [double_nds]) (fun j t => .inl (Gr.at_nds (double_nds k) j t)) (by
    unfold Gr.double; split
    · rename_i hc
      show (G.mail ++ _).length ≤ 4096
      rw [List.length_append]
      have : (G.mail[k.toNat]?).toList.length ≤ 1 := by cases G.mail[k.toNat]? <;> simp
      omega
    · exact h.room) fun m hm => .inl (double_mem hm)
end
/-- the first slot of which a node knows nothing -/
def Gr.lacks (G : Gr) (n : Int) : Option Nat := (List.range 256).find? fun (k : Nat) => !(G.st n (k : Int)).is
/-- the others are asked -/
def Gr.askTo (G : Gr) (n s : Int) : Nat → Gr
  | 0 => G
  | j + 1 => if (j : Int) = n then G.askTo n s j else (G.askTo n s j).send ⟨6, n, (j : Int), s, bal0, bal0, ⟨#[]⟩⟩
def Gr.catch (G : Gr) (n : Int) : Gr :=
  if 0 ≤ n ∧ n < G.nds.length ∧ (G.nd n.toNat).up = true ∧ G.mail.length + G.nds.length ≤ 4097 then
    match G.lacks n with
    | none => G
    | some k => G.askTo n k G.nds.length
  else G
section
variable {N : Nat} {K : Int} {G G' : Gr} {m : Ml}
theorem askTo_nds (n s : Int) (j : Nat) : (G.askTo n s j).nds = G.nds := by
  induction j with
  | zero => rfl
  | succ j ih =>
    unfold Gr.askTo
    split
    · exact ih
    · rw [Gr.send_nds, ih]
theorem askTo_mem {n s : Int} {j : Nat} (h : m ∈ (G.askTo n s j).mail) : m ∈ G.mail ∨ ∃ k : Nat, k < j ∧ (k : Int) ≠ n ∧ m = ⟨6, n, (k : Int), s, bal0, bal0, ⟨#[]⟩⟩ := by
  induction j with
  | zero => exact .inl h
  | succ j ih =>
    unfold Gr.askTo at h
    split at h
    · exact (ih h).imp id fun ⟨k, h1, h2⟩ => ⟨k, by omega, h2⟩
    · rename_i hne
      rcases Gr.mem_send h with h | h
      · exact (ih h).imp id fun ⟨k, h1, h2⟩ => ⟨k, by omega, h2⟩
      · exact .inr ⟨j, by omega, hne, h⟩
theorem askTo_room {n s : Int} (h : G.mail.length ≤ 4096) (j : Nat) : (G.askTo n s j).mail.length ≤ 4096 := by
  induction j with
  | zero => exact h
  | succ j ih =>
    unfold Gr.askTo
    split
    · exact ih
    · exact Gr.room_send ih
theorem catch_nds (n : Int) : (G.catch n).nds = G.nds := by
  unfold Gr.catch
  split
  · split
    · rfl
    · exact askTo_nds _ _ _
  · rfl
theorem catch_mem {n : Int} (h : m ∈ (G.catch n).mail) : m ∈ G.mail ∨ ∃ k s : Nat, (k : Int) < G.nds.length ∧ s < 256 ∧ (0 ≤ n ∧ n < G.nds.length) ∧ m = ⟨6, n, (k : Int), (s : Int), bal0, bal0, ⟨#[]⟩⟩ := by
  unfold Gr.catch at h
  split at h
  · rename_i hc
    split at h
    · exact .inl h
    · rename_i k hk
      rcases askTo_mem h with h | ⟨j, h1, h2, h3⟩
      · exact .inl h
      · refine .inr ⟨j, k, by omega, ?_, ⟨hc.1, hc.2.1⟩, h3⟩
        exact List.mem_range.1 (List.mem_of_find?_eq_some hk)
  · exact .inl h
theorem Fit.catch (h : Fit N K G) (hK : 0 ≤ K) (n : Int) : Fit N K (G.catch n) := by
  have hl := h.len
  refine h.calm (by rw [catch_nds]) (fun j t => .inl (Gr.at_nds (catch_nds n) j t)) ?_ fun m hm => ?_
  · unfold Gr.catch
    split
    · split
      · exact h.room
      · exact askTo_room h.room _
    · exact h.room
  · rcases catch_mem hm with hm | ⟨k, s, h1, h2, h3, rfl⟩
    · exact .inl hm
    · exact .inr ⟨by simp, by simp only; omega, by simp only; omega, by simp only; omega, by simp [bal0]; omega, by simp [bal0]; omega⟩
end

end Go.Proofs.Ytbgopicpdpkccaa
