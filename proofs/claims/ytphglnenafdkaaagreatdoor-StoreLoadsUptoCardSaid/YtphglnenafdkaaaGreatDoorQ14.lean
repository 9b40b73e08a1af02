/- Texts of the proof, joined: SRLoad, SPlR, SVR, SPlC, SRDump, SEq. -/
import Derived.Test.YtphglnenafdkaaaGreatDoorQ12
import Derived.Test.YtphglnenafdkaaaGreatDoorQ10
import Derived.Test.YtphglnenafdkaaaGreatDoorQ11
import Derived.Test.YtphglnenafdkaaaGreatDoorQ09
import Derived.Test.YtphglnenafdkaaaGreatDoorQ06
namespace Go.Proofs.YtphglnenafdkaaaGreatDoor
open Go.RowKit
set_option linter.unusedVariables false
set_option linter.unusedSimpArgs false

theorem itemD_some {l : List UInt8} {x : Kv} (h : itemD l = some x) : validK x.1 = true ∧ x.2.ok = true ∧ x.2.rng := by
  unfold itemD at h
  cases hi : itemP l with
  | none => rw [hi] at h; cases h
  | some y =>
    rw [hi] at h
    simp only at h
    split at h
    · rename_i hv
      injection h with h
      subst h
      exact ⟨hv, itemP_ok hi⟩
    · cases h
set_option maxRecDepth 100000 in
set_option maxHeartbeats 16000000 in
theorem rload_any (s : ByteArray) (w : World) (hs : s.size ≤ 140737488351232) (he : Env w) : Calls Tryz.prog 33 #[.string s] w (loadR w (loadL s.data.toList)) := by
  have hs8 := hid hs
  have hE := hid he
  have hn1 := hid (rnumH_any s w hs he)
  generalize hR : loadL s.data.toList = R
  have hR := hid hR
  obtain ⟨ip, hip, hp0, hp1, hp2⟩ := info_parts info_item
  clear hs he
  go_enter Tryz.func33, Tryz.ntmps33
  go_wp2_with fail
  refine hn1.out.mono ?_
  rintro e w2 ⟨he2, hb20⟩
  have hb2 := hid hb20
  clear hb20 hn1
  cases h1 : numH s.data.toList with
  | none =>
    have hfin : Hid (R = none) := hid (by rw [← hR.out]; unfold loadL; rw [h1])
    rw [h1] at he2
    unfold rnumV at he2
    subst he2
    clear h1
    go_wp2_with fail
    refine bodyPost_ret (v := .tuple #[.pointer none, .int .i64 42]) (by simp [results, Tryz.results33, go_sem]) rfl ?_
    rw [hfin.out]
    exact ⟨rfl, hb2.out⟩
  | some x =>
  obtain ⟨p, r⟩ := x
  obtain ⟨hp1r, hp4, hrl⟩ := numH_rng h1
  have hpr := hid (And.intro hp1r hp4)
  have hR2 : Hid (R = match numH r with
    | none => none
    | some (q, rest) => if p ≤ 64 then (docL p q [] rest).map fun L => ⟨p, q, L⟩ else none) := hid (by rw [← hR.out]; unfold loadL; rw [h1]; rfl)
  rw [h1] at he2
  unfold rnumV at he2
  subst he2
  have hrb : (⟨r.toArray⟩ : ByteArray).data.toList = r := by simp
  have hrs : (⟨r.toArray⟩ : ByteArray).size ≤ 140737488351232 := by have := size_list (⟨r.toArray⟩ : ByteArray); rw [hrb] at this; have h5 := size_list s; have := hs8.out; omega
  have hn2 := hid (rnumH_any ⟨r.toArray⟩ w2 hrs (hE.out.below hb2.out))
  rw [hrb] at hn2
  dsimp only
  generalize (⟨r.toArray⟩ : ByteArray) = rb at *
  have hrb := hid hrb
  have hrs := hid hrs
  clear h1 hrl hp1r hp4
  go_wp2_with fail
  refine hn2.out.mono ?_
  rintro e w3 ⟨he3, hb30⟩
  have hb3 := hid (hb2.out.trans (hb30.mono hb2.out.size))
  clear hb30 hn2 hb2
  cases h1 : numH r with
  | none =>
    have hfin : Hid (R = none) := hid (by rw [hR2.out, h1])
    rw [h1] at he3
    unfold rnumV at he3
    subst he3
    clear h1
    go_wp2_with fail
    refine bodyPost_ret (v := .tuple #[.pointer none, .int .i64 42]) (by simp [results, Tryz.results33, go_sem]) rfl ?_
    rw [hfin.out]
    exact ⟨rfl, hb3.out⟩
  | some x =>
  obtain ⟨q, rest⟩ := x
  obtain ⟨hq1r, hq4, hrl⟩ := numH_rng h1
  have hqr := hid (And.intro hq1r hq4)
  have hR3 : Hid (R = if p ≤ 64 then (docL p q [] rest).map fun L => ⟨p, q, L⟩ else none) := hid (by rw [hR2.out, h1])
  rw [h1] at he3
  unfold rnumV at he3
  subst he3
  have hsb0 : (⟨rest.toArray⟩ : ByteArray).data.toList = rest := by simp
  have hss0 : (⟨rest.toArray⟩ : ByteArray).size ≤ 140737488351232 := by have := size_list (⟨rest.toArray⟩ : ByteArray); rw [hsb0] at this; have h5 := size_list rb; rw [hrb.out] at h5; have := hrs.out; omega
  dsimp only
  generalize (⟨rest.toArray⟩ : ByteArray) = sb at *
  have hsb := hid hsb0
  have hss := hid hss0
  clear h1 hrl hq1r hq4 hR2 hsb0 hss0
  by_cases h64 : p ≤ 64
  · have hP : Hid (1 ≤ p ∧ p ≤ 64) := hid ⟨hpr.out.1, h64⟩
    have hR4 : Hid (R = (docL p q [] sb.data.toList).map fun L => ⟨p, q, L⟩) := hid (by rw [hR3.out, if_pos h64, hsb.out])
    clear h64 hR3 hsb hR
    have hnw := hid (rnew_blk p q w3 hP.out hqr.out)
    go_wp2_with fail
    refine hnw.out.mono ?_
    rintro e w4 ⟨rfl, hw4⟩
    have kg := Blk.new w3 94 #[.int .i64 p, .int .i64 q, .slice none 0 0]
    have hB4 := hb3.out.alloc hb3.out.size (.cells #[.int .i64 p, .int .i64 q, .slice none 0 0] 94)
    rw [← hw4] at kg hB4
    have hsz : w3.heap.size < w4.heap.size := kg.lt
    have hwg : w.heap.size ≤ w3.heap.size := hb3.out.size
    clear hnw hw4
    generalize w3.heap.size = g at *
    have hmk := make_parts p hP.out.2 w4
    go_upto_region 11 with fail
    have hm0 := IArr.new w4 p
    have kg5 := kg.alloc (.cells (madeCells #[.int .i64 0] p) 3)
    have hB5 := hB4.alloc hB4.size (.cells (madeCells #[.int .i64 0] p) 3)
    have L0 : Hid (RLd w (w4.alloc (.cells (madeCells #[.int .i64 0] p) 3)) g w4.heap.size p q [] none 0) := hid ⟨kg5, World.ownsRow_nil _ _ _ _, hm0.congr fun j hj => by simp [cntP], goodly_nil p q, fun x hx => (by cases hx), ⟨hwg, hB4.size, by omega⟩, hB5⟩
    generalize w4.alloc (.cells (madeCells #[.int .i64 0] p) 3) = w5 at *
    generalize w4.heap.size = nb at *
    clear hmk hm0 kg5 hB5 kg hB4 hsz hwg hb3
    go_loopw [5] (fun v wr => ∃ (rb : ByteArray) (acc : List Kv) (A : Option Addr) (c : Nat), v = .string rb ∧ rb.size ≤ 140737488351232 ∧ RLd w wr g nb p q acc A c ∧ R = (docL p q acc rb.data.toList).map fun L => ⟨p, q, L⟩) (fun v _ => strLen v)
    case atStart => exact ⟨sb, [], none, 0, rfl, hss.out, L0.out, hR4.out⟩
    case round =>
      clear L0 hR4 hss
      obtain ⟨tb, acc, A, c, rfl, hts0, hL0, hRr0⟩ := hrel
      have hts := hid hts0
      have hL := hid hL0
      have hRr := hid hRr0
      clear hts0 hL0 hRr0
      by_cases h0 : tb.size = 0
      · have e0 := size0 h0
        have t0 : tb.toList.isEmpty = true := by rw [e0, ByteArray.toList_eq]; rfl
        have hfin : Hid (R = some ⟨p, q, acc⟩) := hid (by rw [hRr.out, e0]; rfl)
        clear h0 e0
        go_wp2_with fail
        refine bodyPost_ret (v := .tuple #[.pointer (some ⟨g, 0, none⟩), .int .i64 0]) (by simp [results, Tryz.results33, go_sem]) rfl ?_
        rw [hfin.out]
        exact ⟨_, g, rfl, hL.out.rat hP.out hqr.out, fun j hj => hj.1, hL.out.bel⟩
      · have t0 : tb.toList.isEmpty = false := by rw [ByteArray.toList_eq]; cases e : tb.data.toList with
          | nil => exact absurd (by rw [← size_list, e]; rfl) h0
          | cons a r => rfl
        have hne : tb.data.toList ≠ [] := fun e => h0 (by rw [← size_list, e]; rfl)
        have hln := hid (rline_any tb wr hts.out)
        go_wp2_with fail
        refine hln.out.mono ?_
        rintro e w6 ⟨he6, hb6⟩
        have hL6 := hid (hL.out.below hb6)
        clear hb6 hln hL
        cases hl : lnL tb.data.toList with
        | none =>
          have hfin : Hid (R = none) := hid (by rw [hRr.out, docL_none hl hne]; rfl)
          rw [hl] at he6
          unfold lineV at he6
          subst he6
          clear hl hne h0 t0
          go_wp2_with fail
          refine bodyPost_ret (v := .tuple #[.pointer none, .int .i64 42]) (by simp [results, Tryz.results33, go_sem]) rfl ?_
          rw [hfin.out]
          exact ⟨rfl, hL6.out.bel⟩
        | some x =>
        obtain ⟨a, more⟩ := x
        have hlen := lnL_len hl
        have hstep := docL_step (p := p) (q := q) (acc := acc) hl
        rw [hl] at he6
        unfold lineV at he6
        subst he6
        have hab : (⟨a.toArray⟩ : ByteArray).data.toList = a := by simp
        have hmb : (⟨more.toArray⟩ : ByteArray).data.toList = more := by simp
        have hz1 := size_list (⟨a.toArray⟩ : ByteArray)
        have hz2 := size_list (⟨more.toArray⟩ : ByteArray)
        rw [hab] at hz1
        rw [hmb] at hz2
        rw [size_list] at hlen
        rw [← hab, ← hmb] at hstep
        dsimp only
        generalize (⟨a.toArray⟩ : ByteArray) = ab at *
        generalize (⟨more.toArray⟩ : ByteArray) = mb at *
        have hms := hid (show mb.size ≤ 140737488351232 by have := hts.out; omega)
        have hmsl := hid (show strLen (.string mb) < strLen (.string tb) from show mb.size < tb.size by omega)
        have hRm : Hid (R = (match itemD ab.data.toList with
          | none => none
          | some x => if stepD p q acc x = true then docL p q (acc ++ [x]) mb.data.toList else none).map fun L => ⟨p, q, L⟩) := hid (by rw [hRr.out, hstep]; rfl)
        have hit := hid (ritem_any ab w6 (by have := hts.out; omega) (hE.out.below hL6.out.bel))
        have hal := hid (show acc.length ≤ 262144 from (goodly_ok hP.out hqr.out hL6.out.good hL6.out.vals).len)
        clear hl hlen hstep hab hmb hz1 hz2 hne h0 t0 hRr
        go_wp2_with fail
        refine hit.out.mono ?_
        rintro e w7 ⟨⟨kx, v, rfl, hx⟩, hb7⟩
        obtain ⟨x, rfl, rfl⟩ : ∃ x : Kv, kx = x.1 ∧ v = x.2 := ⟨(kx, v), rfl, rfl⟩
        have hL7 := hL6.out.below hb7
        have ki0 := Blk.new w7 70 #[.string x.1, .int .i64 x.2.k, .int .i64 x.2.n, .string x.2.s]
        have hL8 := hid (hL7.below ((Below.refl w7.heap.size w7).alloc (Nat.le_refl _) (.cells #[.string x.1, .int .i64 x.2.k, .int .i64 x.2.n, .string x.2.s] 70)))
        have hni := hid (fun q (hq : (Value.slice A acc.length c).ownBlock = some q) => (show q ≠ w7.heap.size by have := (hL7.own.lt q hq).2; omega))
        have hgi : Hid (g ≠ w7.heap.size ∧ nb ≠ w7.heap.size) := hid ⟨by have := hL7.blk.lt; omega, by have := hL7.arr.lt; omega⟩
        have ki := hid ki0
        clear hb7 hit hL6 hL7 ki0
        go_upto_region 16 with fail
        generalize w7.alloc (.cells #[.string x.1, .int .i64 x.2.k, .int .i64 x.2.n, .string x.2.s] 70) = w8 at *
        generalize w7.heap.size = n14 at *
        have hX0 : Hid (∀ w', Below w8.heap.size w8 w' → w'.cell? ⟨g, 2, none⟩ = some (.slice A acc.length c) ∧ w'.cell? ⟨n14, 0, none⟩ = some (.string x.1)) := hid fun w' h => ⟨(hL8.out.blk.below_all h).cell 2, (ki.out.below_all h).cell 0⟩
        cases hi : itemD ab.data.toList with
        | none =>
          as_aux_lemma =>
          have hfin : Hid (R = none) := hid (by rw [hRm.out, hi]; rfl)
          have hi2 : (none : Option Kv).isSome = false := rfl
          rw [hi2]
          clear hi hx hi2 hRm
          have hX := hX0
          refine wp_region_held_drew (S := fun w'' => Below w8.heap.size w8 w'') (by kernel_rfl) ?_ (fun hHeld => ?_)
          · exact (Below.refl _ _).drew
          have hbd := hid ((Below.refl w8.heap.size w8).drew)
          generalize World.drew w8 = wd at *
          refine wpAnyH_take (i := 0) (v := ?v24) rfl (by kernel_rfl) (by kernel_rfl) (by kernel_rfl) (fun _ _ _ h => h) (Or.inl ⟨by rfl, ?hy24⟩) (by assumption) ?rest24
          case hy24 => intro w' hSw; (try dsimp only at hSw); go_simp; try with_reducible rfl
          (try simp only [Act.put, List.setIfInBounds_toArray, List.set_cons_zero, List.set_cons_succ, List.getElem_toArray, List.getElem_cons_zero, List.getElem_cons_succ])
          refine wpAnyH_take (i := 1) (v := ?v25) rfl (by kernel_rfl) (by kernel_rfl) (by kernel_rfl) (fun _ _ _ h => h) (Or.inl ⟨by rfl, ?hy25⟩) (by assumption) ?rest25
          case hy25 => intro w' hSw; (try dsimp only at hSw); go_simp; try with_reducible rfl
          (try simp only [Act.put, List.setIfInBounds_toArray, List.set_cons_zero, List.set_cons_succ, List.getElem_toArray, List.getElem_cons_zero, List.getElem_cons_succ])
          refine wpAnyH_take (i := 2) (v := ?v26) rfl (by kernel_rfl) (by kernel_rfl) (by kernel_rfl) (fun _ _ _ h => h) (Or.inl ⟨by rfl, ?hy26⟩) (by assumption) ?rest26
          case hy26 => intro w' hSw; (try dsimp only at hSw); go_simp; try with_reducible rfl
          (try simp only [Act.put, List.setIfInBounds_toArray, List.set_cons_zero, List.set_cons_succ, List.getElem_toArray, List.getElem_cons_zero, List.getElem_cons_succ])
          refine wpAnyH_take (i := 3) (v := undef) rfl (by kernel_rfl) (by kernel_rfl) (by kernel_rfl) (fun _ _ _ h => h) (Or.inr ⟨by rfl, rfl⟩) (by assumption) ?_
          (try simp only [Act.put, List.setIfInBounds_toArray, List.set_cons_zero, List.set_cons_succ, List.getElem_toArray, List.getElem_cons_zero, List.getElem_cons_succ])
          refine wpAnyH_take (i := 4) (v := undef) rfl (by kernel_rfl) (by kernel_rfl) (by kernel_rfl) (fun _ _ _ h => h) (Or.inr ⟨by rfl, rfl⟩) (by assumption) ?_
          (try simp only [Act.put, List.setIfInBounds_toArray, List.set_cons_zero, List.set_cons_succ, List.getElem_toArray, List.getElem_cons_zero, List.getElem_cons_succ])
          refine wpAnyH_take (i := 5) (v := undef) rfl (by kernel_rfl) (by kernel_rfl) (by kernel_rfl) (fun _ _ _ h => h) (Or.inr ⟨by rfl, rfl⟩) (by assumption) ?_
          (try simp only [Act.put, List.setIfInBounds_toArray, List.set_cons_zero, List.set_cons_succ, List.getElem_toArray, List.getElem_cons_zero, List.getElem_cons_succ])
          refine wpAnyH_take (i := 6) (v := undef) rfl (by kernel_rfl) (by kernel_rfl) (by kernel_rfl) (fun _ _ _ h => h) (Or.inr ⟨by rfl, rfl⟩) (by assumption) ?_
          (try simp only [Act.put, List.setIfInBounds_toArray, List.set_cons_zero, List.set_cons_succ, List.getElem_toArray, List.getElem_cons_zero, List.getElem_cons_succ])
          refine wpAnyH_take (i := 7) (v := undef) rfl (by kernel_rfl) (by kernel_rfl) (by kernel_rfl) (fun _ _ _ h => h) (Or.inr ⟨by rfl, rfl⟩) (by assumption) ?_
          (try simp only [Act.put, List.setIfInBounds_toArray, List.set_cons_zero, List.set_cons_succ, List.getElem_toArray, List.getElem_cons_zero, List.getElem_cons_succ])
          refine wpAnyH_take (i := 8) (v := undef) rfl (by kernel_rfl) (by kernel_rfl) (by kernel_rfl) (fun _ _ _ h => h) (Or.inr ⟨by rfl, rfl⟩) (by assumption) ?_
          (try simp only [Act.put, List.setIfInBounds_toArray, List.set_cons_zero, List.set_cons_succ, List.getElem_toArray, List.getElem_cons_zero, List.getElem_cons_succ])
          refine wpAnyH_take (i := 9) (v := undef) rfl (by kernel_rfl) (by kernel_rfl) (by kernel_rfl) (fun _ _ _ h => h) (Or.inr ⟨by rfl, rfl⟩) (by assumption) ?_
          (try simp only [Act.put, List.setIfInBounds_toArray, List.set_cons_zero, List.set_cons_succ, List.getElem_toArray, List.getElem_cons_zero, List.getElem_cons_succ])
          refine wpAnyH_take (i := 10) (v := undef) rfl (by kernel_rfl) (by kernel_rfl) (by kernel_rfl) (fun _ _ _ h => h) (Or.inr ⟨by rfl, rfl⟩) (by assumption) ?_
          (try simp only [Act.put, List.setIfInBounds_toArray, List.set_cons_zero, List.set_cons_succ, List.getElem_toArray, List.getElem_cons_zero, List.getElem_cons_succ])
          refine wpAnyH_take (i := 11) (v := undef) rfl (by kernel_rfl) (by kernel_rfl) (by kernel_rfl) (fun _ _ _ h => h) (Or.inr ⟨by rfl, rfl⟩) (by assumption) ?_
          (try simp only [Act.put, List.setIfInBounds_toArray, List.set_cons_zero, List.set_cons_succ, List.getElem_toArray, List.getElem_cons_zero, List.getElem_cons_succ])
          refine wpAnyH_take (i := 12) (v := undef) rfl (by kernel_rfl) (by kernel_rfl) (by kernel_rfl) (fun _ _ _ h => h) (Or.inr ⟨by rfl, rfl⟩) (by assumption) ?_
          (try simp only [Act.put, List.setIfInBounds_toArray, List.set_cons_zero, List.set_cons_succ, List.getElem_toArray, List.getElem_cons_zero, List.getElem_cons_succ])
          refine wpAnyH_take (i := 13) (v := undef) rfl (by kernel_rfl) (by kernel_rfl) (by kernel_rfl) (fun _ _ _ h => h) (Or.inr ⟨by rfl, rfl⟩) (by assumption) ?_
          (try simp only [Act.put, List.setIfInBounds_toArray, List.set_cons_zero, List.set_cons_succ, List.getElem_toArray, List.getElem_cons_zero, List.getElem_cons_succ])
          refine wpAnyH_take (i := 14) (v := undef) rfl (by kernel_rfl) (by kernel_rfl) (by kernel_rfl) (fun _ _ _ h => h) (Or.inr ⟨by rfl, rfl⟩) (by assumption) ?_
          (try simp only [Act.put, List.setIfInBounds_toArray, List.set_cons_zero, List.set_cons_succ, List.getElem_toArray, List.getElem_cons_zero, List.getElem_cons_succ])
          refine wpAnyH_take (i := 15) (v := undef) rfl (by kernel_rfl) (by kernel_rfl) (by kernel_rfl) (fun _ _ _ h => h) (Or.inr ⟨by rfl, rfl⟩) (by assumption) ?_
          (try simp only [Act.put, List.setIfInBounds_toArray, List.set_cons_zero, List.set_cons_succ, List.getElem_toArray, List.getElem_cons_zero, List.getElem_cons_succ])
          refine wpAnyH_take (i := 16) (v := undef) rfl (by kernel_rfl) (by kernel_rfl) (by kernel_rfl) (fun _ _ _ h => h) (Or.inr ⟨by rfl, rfl⟩) (by assumption) ?_
          (try simp only [Act.put, List.setIfInBounds_toArray, List.set_cons_zero, List.set_cons_succ, List.getElem_toArray, List.getElem_cons_zero, List.getElem_cons_succ])
          refine wpAnyH_take (i := 17) (v := undef) rfl (by kernel_rfl) (by kernel_rfl) (by kernel_rfl) (fun _ _ _ h => h) (Or.inr ⟨by rfl, rfl⟩) (by assumption) ?_
          (try simp only [Act.put, List.setIfInBounds_toArray, List.set_cons_zero, List.set_cons_succ, List.getElem_toArray, List.getElem_cons_zero, List.getElem_cons_succ])
          refine wpAnyH_take (i := 18) (v := undef) rfl (by kernel_rfl) (by kernel_rfl) (by kernel_rfl) (fun _ _ _ h => h) (Or.inr ⟨by rfl, rfl⟩) (by assumption) ?_
          (try simp only [Act.put, List.setIfInBounds_toArray, List.set_cons_zero, List.set_cons_succ, List.getElem_toArray, List.getElem_cons_zero, List.getElem_cons_succ])
          refine wpAnyH_take (i := 19) (v := undef) rfl (by kernel_rfl) (by kernel_rfl) (by kernel_rfl) (fun _ _ _ h => h) (Or.inr ⟨by rfl, rfl⟩) (by assumption) ?_
          (try simp only [Act.put, List.setIfInBounds_toArray, List.set_cons_zero, List.set_cons_succ, List.getElem_toArray, List.getElem_cons_zero, List.getElem_cons_succ])
          refine wpAnyH_take (i := 20) (v := undef) rfl (by kernel_rfl) (by kernel_rfl) (by kernel_rfl) (fun _ _ _ h => h) (Or.inr ⟨by rfl, rfl⟩) (by assumption) ?_
          (try simp only [Act.put, List.setIfInBounds_toArray, List.set_cons_zero, List.set_cons_succ, List.getElem_toArray, List.getElem_cons_zero, List.getElem_cons_succ])
          refine wpAnyH_take (i := 21) (v := undef) rfl (by kernel_rfl) (by kernel_rfl) (by kernel_rfl) (fun _ _ _ h => h) (Or.inr ⟨by rfl, rfl⟩) (by assumption) ?_
          (try simp only [Act.put, List.setIfInBounds_toArray, List.set_cons_zero, List.set_cons_succ, List.getElem_toArray, List.getElem_cons_zero, List.getElem_cons_succ])
          refine wpAnyH_take (i := 22) (v := undef) rfl (by kernel_rfl) (by kernel_rfl) (by kernel_rfl) (fun _ _ _ h => h) (Or.inr ⟨by rfl, rfl⟩) (by assumption) ?_
          (try simp only [Act.put, List.setIfInBounds_toArray, List.set_cons_zero, List.set_cons_succ, List.getElem_toArray, List.getElem_cons_zero, List.getElem_cons_succ])
          refine wpAnyH_take (i := 23) (v := undef) rfl (by kernel_rfl) (by kernel_rfl) (by kernel_rfl) (fun _ _ _ h => h) (Or.inr ⟨by rfl, rfl⟩) (by assumption) ?_
          (try simp only [Act.put, List.setIfInBounds_toArray, List.set_cons_zero, List.set_cons_succ, List.getElem_toArray, List.getElem_cons_zero, List.getElem_cons_succ])
          refine wpAnyH_take (i := 24) (v := undef) rfl (by kernel_rfl) (by kernel_rfl) (by kernel_rfl) (fun _ _ _ h => h) (Or.inr ⟨by rfl, rfl⟩) (by assumption) ?_
          (try simp only [Act.put, List.setIfInBounds_toArray, List.set_cons_zero, List.set_cons_succ, List.getElem_toArray, List.getElem_cons_zero, List.getElem_cons_succ])
          refine wpAnyH_take (i := 25) (v := undef) rfl (by kernel_rfl) (by kernel_rfl) (by kernel_rfl) (fun _ _ _ h => h) (Or.inr ⟨by rfl, rfl⟩) (by assumption) ?_
          (try simp only [Act.put, List.setIfInBounds_toArray, List.set_cons_zero, List.set_cons_succ, List.getElem_toArray, List.getElem_cons_zero, List.getElem_cons_succ])
          refine wpAnyH_take (i := 26) (v := undef) rfl (by kernel_rfl) (by kernel_rfl) (by kernel_rfl) (fun _ _ _ h => h) (Or.inr ⟨by rfl, rfl⟩) (by assumption) ?_
          (try simp only [Act.put, List.setIfInBounds_toArray, List.set_cons_zero, List.set_cons_succ, List.getElem_toArray, List.getElem_cons_zero, List.getElem_cons_succ])
          refine wpAnyH_take (i := 27) (v := ?v27) rfl (by kernel_rfl) (by kernel_rfl) (by kernel_rfl) (fun _ _ _ h => h) (Or.inl ⟨by rfl, ?hy27⟩) (by assumption) ?rest27
          case hy27 => intro w' hSw; (try dsimp only at hSw); go_simp; try with_reducible rfl
          (try simp only [Act.put, List.setIfInBounds_toArray, List.set_cons_zero, List.set_cons_succ, List.getElem_toArray, List.getElem_cons_zero, List.getElem_cons_succ])
          refine wpAnyH_done (by kernel_rfl) ?_ _
          go_wp2_with fail
          refine bodyPost_ret (v := .tuple #[.pointer none, .int .i64 42]) (by simp [results, Tryz.results33, go_sem]) rfl ?_
          rw [hfin.out]
          exact ⟨rfl, hL8.out.bel.trans (hbd.out.mono hL8.out.bel.size)⟩
          | some y =>
        obtain rfl : x = y := by
          rcases hx with h9 | h9
          · rw [hi] at h9; cases h9
          · rw [hi] at h9; injection h9 with h9; exact h9.symm
        have hD := itemD_some hi
        have hxk := hid hD.1
        have hxv := hid hD.2
        have hRs : Hid (R = (if stepD p q acc x = true then docL p q (acc ++ [x]) mb.data.toList else none).map fun L => ⟨p, q, L⟩) := hid (by rw [hRm.out, hi])
        have hi2 : (some x).isSome = true := rfl
        rw [hi2]
        clear hi hx hi2 hD hRm
        by_cases hok : lastLt acc x = true
        · go_cut [85] (fun v wx => v = .bool false ∧ Below w8.heap.size w8 wx)
          case first =>
            as_aux_lemma =>
            rcases List.eq_nil_or_concat acc with rfl | ⟨m, z, hm⟩
            · have hX := hX0
              have tl : decide ((0 : Int) < (([] : List Kv).length : Int)) = false := by simp
              clear hok hX0
              refine wp_region_held_drew (S := fun w'' => Below w8.heap.size w8 w'') (by kernel_rfl) ?_ (fun hHeld => ?_)
              · exact (Below.refl _ _).drew
              have hbd := hid ((Below.refl w8.heap.size w8).drew)
              generalize World.drew w8 = wd at *
              refine wpAnyH_take (i := 0) (v := ?v28) rfl (by kernel_rfl) (by kernel_rfl) (by kernel_rfl) (fun _ _ _ h => h) (Or.inl ⟨by rfl, ?hy28⟩) (by assumption) ?rest28
              case hy28 => intro w' hSw; (try dsimp only at hSw); go_simp; try with_reducible rfl
              (try simp only [Act.put, List.setIfInBounds_toArray, List.set_cons_zero, List.set_cons_succ, List.getElem_toArray, List.getElem_cons_zero, List.getElem_cons_succ])
              refine wpAnyH_take (i := 1) (v := ?v29) rfl (by kernel_rfl) (by kernel_rfl) (by kernel_rfl) (fun _ _ _ h => h) (Or.inl ⟨by rfl, ?hy29⟩) (by assumption) ?rest29
              case hy29 => intro w' hSw; (try dsimp only at hSw); go_simp; try with_reducible rfl
              (try simp only [Act.put, List.setIfInBounds_toArray, List.set_cons_zero, List.set_cons_succ, List.getElem_toArray, List.getElem_cons_zero, List.getElem_cons_succ])
              refine wpAnyH_take (i := 2) (v := ?v30) rfl (by kernel_rfl) (by kernel_rfl) (by kernel_rfl) (fun _ _ _ h => h) (Or.inl ⟨by rfl, ?hy30⟩) (by assumption) ?rest30
              case hy30 => intro w' hSw; (try dsimp only at hSw); go_simp; try with_reducible rfl
              (try simp only [Act.put, List.setIfInBounds_toArray, List.set_cons_zero, List.set_cons_succ, List.getElem_toArray, List.getElem_cons_zero, List.getElem_cons_succ])
              refine wpAnyH_take (i := 3) (v := ?v31) rfl (by kernel_rfl) (by kernel_rfl) (by kernel_rfl) (fun _ _ _ h => h) (Or.inl ⟨by rfl, ?hy31⟩) (by assumption) ?rest31
              case hy31 => intro w' hSw; (try dsimp only at hSw); go_simp; try with_reducible rfl
              (try simp only [Act.put, List.setIfInBounds_toArray, List.set_cons_zero, List.set_cons_succ, List.getElem_toArray, List.getElem_cons_zero, List.getElem_cons_succ])
              refine wpAnyH_take (i := 4) (v := ?v32) rfl (by kernel_rfl) (by kernel_rfl) (by kernel_rfl) (fun _ _ _ h => h) (Or.inl ⟨by rfl, ?hy32⟩) (by assumption) ?rest32
              case hy32 => intro w' hSw; obtain ⟨q2, u0⟩ := hX.out w' hSw; (try dsimp only at hSw); go_simp; try with_reducible rfl
              (try simp only [Act.put, List.setIfInBounds_toArray, List.set_cons_zero, List.set_cons_succ, List.getElem_toArray, List.getElem_cons_zero, List.getElem_cons_succ])
              refine wpAnyH_take (i := 5) (v := ?v33) rfl (by kernel_rfl) (by kernel_rfl) (by kernel_rfl) (fun _ _ _ h => h) (Or.inl ⟨by rfl, ?hy33⟩) (by assumption) ?rest33
              case hy33 => intro w' hSw; obtain ⟨q2, u0⟩ := hX.out w' hSw; (try dsimp only at hSw); go_simp; try with_reducible rfl
              (try simp only [Act.put, List.setIfInBounds_toArray, List.set_cons_zero, List.set_cons_succ, List.getElem_toArray, List.getElem_cons_zero, List.getElem_cons_succ])
              refine wpAnyH_take (i := 6) (v := ?v34) rfl (by kernel_rfl) (by kernel_rfl) (by kernel_rfl) (fun _ _ _ h => h) (Or.inl ⟨by rfl, ?hy34⟩) (by assumption) ?rest34
              case hy34 => intro w' hSw; obtain ⟨q2, u0⟩ := hX.out w' hSw; (try dsimp only at hSw); go_simp; try with_reducible rfl
              (try simp only [Act.put, List.setIfInBounds_toArray, List.set_cons_zero, List.set_cons_succ, List.getElem_toArray, List.getElem_cons_zero, List.getElem_cons_succ])
              refine wpAnyH_take (i := 7) (v := ?v35) rfl (by kernel_rfl) (by kernel_rfl) (by kernel_rfl) (fun _ _ _ h => h) (Or.inl ⟨by rfl, ?hy35⟩) (by assumption) ?rest35
              case hy35 => intro w' hSw; (try dsimp only at hSw); go_simp; try with_reducible rfl
              (try simp only [Act.put, List.setIfInBounds_toArray, List.set_cons_zero, List.set_cons_succ, List.getElem_toArray, List.getElem_cons_zero, List.getElem_cons_succ])
              refine wpAnyH_take (i := 8) (v := ?v36) rfl (by kernel_rfl) (by kernel_rfl) (by kernel_rfl) (fun _ _ _ h => h) (Or.inl ⟨by rfl, ?hy36⟩) (by assumption) ?rest36
              case hy36 => intro w' hSw; (try dsimp only at hSw); go_simp; try with_reducible rfl
              (try simp only [Act.put, List.setIfInBounds_toArray, List.set_cons_zero, List.set_cons_succ, List.getElem_toArray, List.getElem_cons_zero, List.getElem_cons_succ])
              refine wpAnyH_take (i := 9) (v := ?v37) rfl (by kernel_rfl) (by kernel_rfl) (by kernel_rfl) (fun _ _ _ h => h) (Or.inl ⟨by rfl, ?hy37⟩) (by assumption) ?rest37
              case hy37 => intro w' hSw; (try dsimp only at hSw); go_simp; try with_reducible rfl
              (try simp only [Act.put, List.setIfInBounds_toArray, List.set_cons_zero, List.set_cons_succ, List.getElem_toArray, List.getElem_cons_zero, List.getElem_cons_succ])
              refine wpAnyH_take (i := 10) (v := undef) rfl (by kernel_rfl) (by kernel_rfl) (by kernel_rfl) (fun _ _ _ h => h) (Or.inr ⟨by rfl, rfl⟩) (by assumption) ?_
              (try simp only [Act.put, List.setIfInBounds_toArray, List.set_cons_zero, List.set_cons_succ, List.getElem_toArray, List.getElem_cons_zero, List.getElem_cons_succ])
              refine wpAnyH_take (i := 11) (v := undef) rfl (by kernel_rfl) (by kernel_rfl) (by kernel_rfl) (fun _ _ _ h => h) (Or.inr ⟨by rfl, rfl⟩) (by assumption) ?_
              (try simp only [Act.put, List.setIfInBounds_toArray, List.set_cons_zero, List.set_cons_succ, List.getElem_toArray, List.getElem_cons_zero, List.getElem_cons_succ])
              refine wpAnyH_take (i := 12) (v := undef) rfl (by kernel_rfl) (by kernel_rfl) (by kernel_rfl) (fun _ _ _ h => h) (Or.inr ⟨by rfl, rfl⟩) (by assumption) ?_
              (try simp only [Act.put, List.setIfInBounds_toArray, List.set_cons_zero, List.set_cons_succ, List.getElem_toArray, List.getElem_cons_zero, List.getElem_cons_succ])
              refine wpAnyH_take (i := 13) (v := undef) rfl (by kernel_rfl) (by kernel_rfl) (by kernel_rfl) (fun _ _ _ h => h) (Or.inr ⟨by rfl, rfl⟩) (by assumption) ?_
              (try simp only [Act.put, List.setIfInBounds_toArray, List.set_cons_zero, List.set_cons_succ, List.getElem_toArray, List.getElem_cons_zero, List.getElem_cons_succ])
              refine wpAnyH_take (i := 14) (v := undef) rfl (by kernel_rfl) (by kernel_rfl) (by kernel_rfl) (fun _ _ _ h => h) (Or.inr ⟨by rfl, rfl⟩) (by assumption) ?_
              (try simp only [Act.put, List.setIfInBounds_toArray, List.set_cons_zero, List.set_cons_succ, List.getElem_toArray, List.getElem_cons_zero, List.getElem_cons_succ])
              refine wpAnyH_take (i := 15) (v := undef) rfl (by kernel_rfl) (by kernel_rfl) (by kernel_rfl) (fun _ _ _ h => h) (Or.inr ⟨by rfl, rfl⟩) (by assumption) ?_
              (try simp only [Act.put, List.setIfInBounds_toArray, List.set_cons_zero, List.set_cons_succ, List.getElem_toArray, List.getElem_cons_zero, List.getElem_cons_succ])
              refine wpAnyH_take (i := 16) (v := undef) rfl (by kernel_rfl) (by kernel_rfl) (by kernel_rfl) (fun _ _ _ h => h) (Or.inr ⟨by rfl, rfl⟩) (by assumption) ?_
              (try simp only [Act.put, List.setIfInBounds_toArray, List.set_cons_zero, List.set_cons_succ, List.getElem_toArray, List.getElem_cons_zero, List.getElem_cons_succ])
              refine wpAnyH_take (i := 17) (v := undef) rfl (by kernel_rfl) (by kernel_rfl) (by kernel_rfl) (fun _ _ _ h => h) (Or.inr ⟨by rfl, rfl⟩) (by assumption) ?_
              (try simp only [Act.put, List.setIfInBounds_toArray, List.set_cons_zero, List.set_cons_succ, List.getElem_toArray, List.getElem_cons_zero, List.getElem_cons_succ])
              refine wpAnyH_take (i := 18) (v := undef) rfl (by kernel_rfl) (by kernel_rfl) (by kernel_rfl) (fun _ _ _ h => h) (Or.inr ⟨by rfl, rfl⟩) (by assumption) ?_
              (try simp only [Act.put, List.setIfInBounds_toArray, List.set_cons_zero, List.set_cons_succ, List.getElem_toArray, List.getElem_cons_zero, List.getElem_cons_succ])
              refine wpAnyH_take (i := 19) (v := undef) rfl (by kernel_rfl) (by kernel_rfl) (by kernel_rfl) (fun _ _ _ h => h) (Or.inr ⟨by rfl, rfl⟩) (by assumption) ?_
              (try simp only [Act.put, List.setIfInBounds_toArray, List.set_cons_zero, List.set_cons_succ, List.getElem_toArray, List.getElem_cons_zero, List.getElem_cons_succ])
              refine wpAnyH_take (i := 20) (v := undef) rfl (by kernel_rfl) (by kernel_rfl) (by kernel_rfl) (fun _ _ _ h => h) (Or.inr ⟨by rfl, rfl⟩) (by assumption) ?_
              (try simp only [Act.put, List.setIfInBounds_toArray, List.set_cons_zero, List.set_cons_succ, List.getElem_toArray, List.getElem_cons_zero, List.getElem_cons_succ])
              refine wpAnyH_take (i := 21) (v := undef) rfl (by kernel_rfl) (by kernel_rfl) (by kernel_rfl) (fun _ _ _ h => h) (Or.inr ⟨by rfl, rfl⟩) (by assumption) ?_
              (try simp only [Act.put, List.setIfInBounds_toArray, List.set_cons_zero, List.set_cons_succ, List.getElem_toArray, List.getElem_cons_zero, List.getElem_cons_succ])
              refine wpAnyH_take (i := 22) (v := undef) rfl (by kernel_rfl) (by kernel_rfl) (by kernel_rfl) (fun _ _ _ h => h) (Or.inr ⟨by rfl, rfl⟩) (by assumption) ?_
              (try simp only [Act.put, List.setIfInBounds_toArray, List.set_cons_zero, List.set_cons_succ, List.getElem_toArray, List.getElem_cons_zero, List.getElem_cons_succ])
              refine wpAnyH_take (i := 23) (v := undef) rfl (by kernel_rfl) (by kernel_rfl) (by kernel_rfl) (fun _ _ _ h => h) (Or.inr ⟨by rfl, rfl⟩) (by assumption) ?_
              (try simp only [Act.put, List.setIfInBounds_toArray, List.set_cons_zero, List.set_cons_succ, List.getElem_toArray, List.getElem_cons_zero, List.getElem_cons_succ])
              refine wpAnyH_take (i := 24) (v := undef) rfl (by kernel_rfl) (by kernel_rfl) (by kernel_rfl) (fun _ _ _ h => h) (Or.inr ⟨by rfl, rfl⟩) (by assumption) ?_
              (try simp only [Act.put, List.setIfInBounds_toArray, List.set_cons_zero, List.set_cons_succ, List.getElem_toArray, List.getElem_cons_zero, List.getElem_cons_succ])
              refine wpAnyH_take (i := 25) (v := undef) rfl (by kernel_rfl) (by kernel_rfl) (by kernel_rfl) (fun _ _ _ h => h) (Or.inr ⟨by rfl, rfl⟩) (by assumption) ?_
              (try simp only [Act.put, List.setIfInBounds_toArray, List.set_cons_zero, List.set_cons_succ, List.getElem_toArray, List.getElem_cons_zero, List.getElem_cons_succ])
              refine wpAnyH_take (i := 26) (v := ?v38) rfl (by kernel_rfl) (by kernel_rfl) (by kernel_rfl) (fun _ _ _ h => h) (Or.inl ⟨by rfl, ?hy38⟩) (by assumption) ?rest38
              case hy38 => intro w' hSw; (try dsimp only at hSw); go_simp; try with_reducible rfl
              (try simp only [Act.put, List.setIfInBounds_toArray, List.set_cons_zero, List.set_cons_succ, List.getElem_toArray, List.getElem_cons_zero, List.getElem_cons_succ])
              refine wpAnyH_take (i := 27) (v := ?v39) rfl (by kernel_rfl) (by kernel_rfl) (by kernel_rfl) (fun _ _ _ h => h) (Or.inl ⟨by rfl, ?hy39⟩) (by assumption) ?rest39
              case hy39 => intro w' hSw; (try dsimp only at hSw); go_simp; try with_reducible rfl
              (try simp only [Act.put, List.setIfInBounds_toArray, List.set_cons_zero, List.set_cons_succ, List.getElem_toArray, List.getElem_cons_zero, List.getElem_cons_succ])
              refine wpAnyH_done (by kernel_rfl) ?_ _
              go_wp2_with fail
              go_meet
              exact ⟨rfl, hbd.out⟩
            · rw [List.concat_eq_append] at hm
              have hlm : acc.length = m.length + 1 := by rw [hm]; simp
              have hzl : ltB z.1 x.1 = true := by
                unfold lastLt at hok
                rw [hm, List.getLast?_concat] at hok
                simpa using hok
              have hlt8 : Op.bytesLess z.1.toList x.1.toList = true := hzl
              have i1 : (m.length : Int) < (acc.length : Int) := by omega
              have i2 : IntKind.i64.wrap ((acc.length : Int) - 1) = (m.length : Int) := by rw [IntKind.wrap_i64]; have := hal.out; omega
              have tl : decide ((0 : Int) < (acc.length : Int)) = true := decide_eq_true (by omega)
              have tln : decide (0 < acc.length) = true := decide_eq_true (by omega)
              have hzg : acc[m.length]? = some z := by rw [hm]; simp
              obtain ⟨b9, o9, hA9, _, hl9, w0, -⟩ := rd_kv (Rd.of_own hL8.out.own) (i := m.length) (by omega)
              have hze : (acc[m.length]'(by omega)) = z := by
                have := List.getElem?_eq_getElem (l := acc) (i := m.length) (by omega)
                rw [hzg] at this
                injection this with this
                exact this.symm
              rw [hze] at w0
              have hX := hid (fun W (hW : Below w8.heap.size w8 W) => (show W.cell? ⟨g, 2, none⟩ = some (.slice (some ⟨b9, o9, none⟩) acc.length c) ∧ W.cell? ⟨n14, 0, none⟩ = some (.string x.1) ∧ W.cell? ⟨b9, o9 + m.length * 4, none⟩ = some (.string z.1) from ⟨by rw [← hA9]; exact (hX0.out W hW).1, (hX0.out W hW).2, cell_bel hW hl9 w0⟩))
              clear hX0 hze hzg hm hzl hlm w0 hl9 hA9 hok
              refine wp_region_held_drew (S := fun w'' => Below w8.heap.size w8 w'') (by kernel_rfl) ?_ (fun hHeld => ?_)
              · exact (Below.refl _ _).drew
              have hbd := hid ((Below.refl w8.heap.size w8).drew)
              generalize World.drew w8 = wd at *
              refine wpAnyH_take (i := 0) (v := ?v40) rfl (by kernel_rfl) (by kernel_rfl) (by kernel_rfl) (fun _ _ _ h => h) (Or.inl ⟨by rfl, ?hy40⟩) (by assumption) ?rest40
              case hy40 => intro w' hSw; (try dsimp only at hSw); go_simp; try with_reducible rfl
              (try simp only [Act.put, List.setIfInBounds_toArray, List.set_cons_zero, List.set_cons_succ, List.getElem_toArray, List.getElem_cons_zero, List.getElem_cons_succ])
              refine wpAnyH_take (i := 1) (v := ?v41) rfl (by kernel_rfl) (by kernel_rfl) (by kernel_rfl) (fun _ _ _ h => h) (Or.inl ⟨by rfl, ?hy41⟩) (by assumption) ?rest41
              case hy41 => intro w' hSw; (try dsimp only at hSw); go_simp; try with_reducible rfl
              (try simp only [Act.put, List.setIfInBounds_toArray, List.set_cons_zero, List.set_cons_succ, List.getElem_toArray, List.getElem_cons_zero, List.getElem_cons_succ])
              refine wpAnyH_take (i := 2) (v := ?v42) rfl (by kernel_rfl) (by kernel_rfl) (by kernel_rfl) (fun _ _ _ h => h) (Or.inl ⟨by rfl, ?hy42⟩) (by assumption) ?rest42
              case hy42 => intro w' hSw; (try dsimp only at hSw); go_simp; try with_reducible rfl
              (try simp only [Act.put, List.setIfInBounds_toArray, List.set_cons_zero, List.set_cons_succ, List.getElem_toArray, List.getElem_cons_zero, List.getElem_cons_succ])
              refine wpAnyH_take (i := 3) (v := ?v43) rfl (by kernel_rfl) (by kernel_rfl) (by kernel_rfl) (fun _ _ _ h => h) (Or.inl ⟨by rfl, ?hy43⟩) (by assumption) ?rest43
              case hy43 => intro w' hSw; (try dsimp only at hSw); go_simp; try with_reducible rfl
              (try simp only [Act.put, List.setIfInBounds_toArray, List.set_cons_zero, List.set_cons_succ, List.getElem_toArray, List.getElem_cons_zero, List.getElem_cons_succ])
              refine wpAnyH_take (i := 4) (v := ?v44) rfl (by kernel_rfl) (by kernel_rfl) (by kernel_rfl) (fun _ _ _ h => h) (Or.inl ⟨by rfl, ?hy44⟩) (by assumption) ?rest44
              case hy44 => intro w' hSw; obtain ⟨q2, u0⟩ := hX.out w' hSw; (try dsimp only at hSw); go_simp; try with_reducible rfl
              (try simp only [Act.put, List.setIfInBounds_toArray, List.set_cons_zero, List.set_cons_succ, List.getElem_toArray, List.getElem_cons_zero, List.getElem_cons_succ])
              refine wpAnyH_take (i := 5) (v := ?v45) rfl (by kernel_rfl) (by kernel_rfl) (by kernel_rfl) (fun _ _ _ h => h) (Or.inl ⟨by rfl, ?hy45⟩) (by assumption) ?rest45
              case hy45 => intro w' hSw; obtain ⟨q2, u0⟩ := hX.out w' hSw; (try dsimp only at hSw); go_simp; try with_reducible rfl
              (try simp only [Act.put, List.setIfInBounds_toArray, List.set_cons_zero, List.set_cons_succ, List.getElem_toArray, List.getElem_cons_zero, List.getElem_cons_succ])
              refine wpAnyH_take (i := 6) (v := ?v46) rfl (by kernel_rfl) (by kernel_rfl) (by kernel_rfl) (fun _ _ _ h => h) (Or.inl ⟨by rfl, ?hy46⟩) (by assumption) ?rest46
              case hy46 => intro w' hSw; obtain ⟨q2, u0⟩ := hX.out w' hSw; (try dsimp only at hSw); go_simp; try with_reducible rfl
              (try simp only [Act.put, List.setIfInBounds_toArray, List.set_cons_zero, List.set_cons_succ, List.getElem_toArray, List.getElem_cons_zero, List.getElem_cons_succ])
              refine wpAnyH_take (i := 7) (v := ?v47) rfl (by kernel_rfl) (by kernel_rfl) (by kernel_rfl) (fun _ _ _ h => h) (Or.inl ⟨by rfl, ?hy47⟩) (by assumption) ?rest47
              case hy47 => intro w' hSw; (try dsimp only at hSw); go_simp; try with_reducible rfl
              (try simp only [Act.put, List.setIfInBounds_toArray, List.set_cons_zero, List.set_cons_succ, List.getElem_toArray, List.getElem_cons_zero, List.getElem_cons_succ])
              refine wpAnyH_take (i := 8) (v := ?v48) rfl (by kernel_rfl) (by kernel_rfl) (by kernel_rfl) (fun _ _ _ h => h) (Or.inl ⟨by rfl, ?hy48⟩) (by assumption) ?rest48
              case hy48 => intro w' hSw; (try dsimp only at hSw); go_simp; try with_reducible rfl
              (try simp only [Act.put, List.setIfInBounds_toArray, List.set_cons_zero, List.set_cons_succ, List.getElem_toArray, List.getElem_cons_zero, List.getElem_cons_succ])
              refine wpAnyH_take (i := 9) (v := ?v49) rfl (by kernel_rfl) (by kernel_rfl) (by kernel_rfl) (fun _ _ _ h => h) (Or.inl ⟨by rfl, ?hy49⟩) (by assumption) ?rest49
              case hy49 => intro w' hSw; (try dsimp only at hSw); go_simp; try with_reducible rfl
              (try simp only [Act.put, List.setIfInBounds_toArray, List.set_cons_zero, List.set_cons_succ, List.getElem_toArray, List.getElem_cons_zero, List.getElem_cons_succ])
              refine wpAnyH_take (i := 10) (v := ?v50) rfl (by kernel_rfl) (by kernel_rfl) (by kernel_rfl) (fun _ _ _ h => h) (Or.inl ⟨by rfl, ?hy50⟩) (by assumption) ?rest50
              case hy50 => intro w' hSw; obtain ⟨q2, u0, u1⟩ := hX.out w' hSw; (try dsimp only at hSw); go_simp; try with_reducible rfl
              (try simp only [Act.put, List.setIfInBounds_toArray, List.set_cons_zero, List.set_cons_succ, List.getElem_toArray, List.getElem_cons_zero, List.getElem_cons_succ])
              refine wpAnyH_take (i := 11) (v := ?v51) rfl (by kernel_rfl) (by kernel_rfl) (by kernel_rfl) (fun _ _ _ h => h) (Or.inl ⟨by rfl, ?hy51⟩) (by assumption) ?rest51
              case hy51 => intro w' hSw; obtain ⟨q2, u0, u1⟩ := hX.out w' hSw; (try dsimp only at hSw); go_simp; try with_reducible rfl
              (try simp only [Act.put, List.setIfInBounds_toArray, List.set_cons_zero, List.set_cons_succ, List.getElem_toArray, List.getElem_cons_zero, List.getElem_cons_succ])
              refine wpAnyH_take (i := 12) (v := ?v52) rfl (by kernel_rfl) (by kernel_rfl) (by kernel_rfl) (fun _ _ _ h => h) (Or.inl ⟨by rfl, ?hy52⟩) (by assumption) ?rest52
              case hy52 => intro w' hSw; obtain ⟨q2, u0, u1⟩ := hX.out w' hSw; (try dsimp only at hSw); go_simp; try with_reducible rfl
              (try simp only [Act.put, List.setIfInBounds_toArray, List.set_cons_zero, List.set_cons_succ, List.getElem_toArray, List.getElem_cons_zero, List.getElem_cons_succ])
              refine wpAnyH_take (i := 13) (v := ?v53) rfl (by kernel_rfl) (by kernel_rfl) (by kernel_rfl) (fun _ _ _ h => h) (Or.inl ⟨by rfl, ?hy53⟩) (by assumption) ?rest53
              case hy53 => intro w' hSw; obtain ⟨q2, u0, u1⟩ := hX.out w' hSw; (try dsimp only at hSw); go_simp; try with_reducible rfl
              (try simp only [Act.put, List.setIfInBounds_toArray, List.set_cons_zero, List.set_cons_succ, List.getElem_toArray, List.getElem_cons_zero, List.getElem_cons_succ])
              refine wpAnyH_take (i := 14) (v := ?v54) rfl (by kernel_rfl) (by kernel_rfl) (by kernel_rfl) (fun _ _ _ h => h) (Or.inl ⟨by rfl, ?hy54⟩) (by assumption) ?rest54
              case hy54 => intro w' hSw; obtain ⟨q2, u0, u1⟩ := hX.out w' hSw; (try dsimp only at hSw); go_simp; try with_reducible rfl
              (try simp only [Act.put, List.setIfInBounds_toArray, List.set_cons_zero, List.set_cons_succ, List.getElem_toArray, List.getElem_cons_zero, List.getElem_cons_succ])
              refine wpAnyH_take (i := 15) (v := ?v55) rfl (by kernel_rfl) (by kernel_rfl) (by kernel_rfl) (fun _ _ _ h => h) (Or.inl ⟨by rfl, ?hy55⟩) (by assumption) ?rest55
              case hy55 => intro w' hSw; obtain ⟨q2, u0, u1⟩ := hX.out w' hSw; (try dsimp only at hSw); go_simp; try with_reducible rfl
              (try simp only [Act.put, List.setIfInBounds_toArray, List.set_cons_zero, List.set_cons_succ, List.getElem_toArray, List.getElem_cons_zero, List.getElem_cons_succ])
              refine wpAnyH_take (i := 16) (v := ?v56) rfl (by kernel_rfl) (by kernel_rfl) (by kernel_rfl) (fun _ _ _ h => h) (Or.inl ⟨by rfl, ?hy56⟩) (by assumption) ?rest56
              case hy56 => intro w' hSw; obtain ⟨q2, u0, u1⟩ := hX.out w' hSw; (try dsimp only at hSw); go_simp; try with_reducible rfl
              (try simp only [Act.put, List.setIfInBounds_toArray, List.set_cons_zero, List.set_cons_succ, List.getElem_toArray, List.getElem_cons_zero, List.getElem_cons_succ])
              refine wpAnyH_take (i := 17) (v := ?v57) rfl (by kernel_rfl) (by kernel_rfl) (by kernel_rfl) (fun _ _ _ h => h) (Or.inl ⟨by rfl, ?hy57⟩) (by assumption) ?rest57
              case hy57 => intro w' hSw; obtain ⟨q2, u0, u1⟩ := hX.out w' hSw; (try dsimp only at hSw); go_simp; try with_reducible rfl
              (try simp only [Act.put, List.setIfInBounds_toArray, List.set_cons_zero, List.set_cons_succ, List.getElem_toArray, List.getElem_cons_zero, List.getElem_cons_succ])
              refine wpAnyH_take (i := 18) (v := ?v58) rfl (by kernel_rfl) (by kernel_rfl) (by kernel_rfl) (fun _ _ _ h => h) (Or.inl ⟨by rfl, ?hy58⟩) (by assumption) ?rest58
              case hy58 => intro w' hSw; obtain ⟨q2, u0, u1⟩ := hX.out w' hSw; (try dsimp only at hSw); go_simp; try with_reducible rfl
              (try simp only [Act.put, List.setIfInBounds_toArray, List.set_cons_zero, List.set_cons_succ, List.getElem_toArray, List.getElem_cons_zero, List.getElem_cons_succ])
              refine wpAnyH_take (i := 19) (v := ?v59) rfl (by kernel_rfl) (by kernel_rfl) (by kernel_rfl) (fun _ _ _ h => h) (Or.inl ⟨by rfl, ?hy59⟩) (by assumption) ?rest59
              case hy59 => intro w' hSw; obtain ⟨q2, u0, u1⟩ := hX.out w' hSw; (try dsimp only at hSw); go_simp; try with_reducible rfl
              (try simp only [Act.put, List.setIfInBounds_toArray, List.set_cons_zero, List.set_cons_succ, List.getElem_toArray, List.getElem_cons_zero, List.getElem_cons_succ])
              refine wpAnyH_take (i := 20) (v := ?v60) rfl (by kernel_rfl) (by kernel_rfl) (by kernel_rfl) (fun _ _ _ h => h) (Or.inl ⟨by rfl, ?hy60⟩) (by assumption) ?rest60
              case hy60 => intro w' hSw; obtain ⟨q2, u0, u1⟩ := hX.out w' hSw; (try dsimp only at hSw); go_simp; try with_reducible rfl
              (try simp only [Act.put, List.setIfInBounds_toArray, List.set_cons_zero, List.set_cons_succ, List.getElem_toArray, List.getElem_cons_zero, List.getElem_cons_succ])
              refine wpAnyH_take (i := 21) (v := ?v61) rfl (by kernel_rfl) (by kernel_rfl) (by kernel_rfl) (fun _ _ _ h => h) (Or.inl ⟨by rfl, ?hy61⟩) (by assumption) ?rest61
              case hy61 => intro w' hSw; obtain ⟨q2, u0, u1⟩ := hX.out w' hSw; (try dsimp only at hSw); go_simp; try with_reducible rfl
              (try simp only [Act.put, List.setIfInBounds_toArray, List.set_cons_zero, List.set_cons_succ, List.getElem_toArray, List.getElem_cons_zero, List.getElem_cons_succ])
              refine wpAnyH_take (i := 22) (v := ?v62) rfl (by kernel_rfl) (by kernel_rfl) (by kernel_rfl) (fun _ _ _ h => h) (Or.inl ⟨by rfl, ?hy62⟩) (by assumption) ?rest62
              case hy62 => intro w' hSw; obtain ⟨q2, u0, u1⟩ := hX.out w' hSw; (try dsimp only at hSw); go_simp; try with_reducible rfl
              (try simp only [Act.put, List.setIfInBounds_toArray, List.set_cons_zero, List.set_cons_succ, List.getElem_toArray, List.getElem_cons_zero, List.getElem_cons_succ])
              refine wpAnyH_take (i := 23) (v := ?v63) rfl (by kernel_rfl) (by kernel_rfl) (by kernel_rfl) (fun _ _ _ h => h) (Or.inl ⟨by rfl, ?hy63⟩) (by assumption) ?rest63
              case hy63 => intro w' hSw; obtain ⟨q2, u0, u1⟩ := hX.out w' hSw; (try dsimp only at hSw); go_simp; try with_reducible rfl
              (try simp only [Act.put, List.setIfInBounds_toArray, List.set_cons_zero, List.set_cons_succ, List.getElem_toArray, List.getElem_cons_zero, List.getElem_cons_succ])
              refine wpAnyH_take (i := 24) (v := ?v64) rfl (by kernel_rfl) (by kernel_rfl) (by kernel_rfl) (fun _ _ _ h => h) (Or.inl ⟨by rfl, ?hy64⟩) (by assumption) ?rest64
              case hy64 => intro w' hSw; obtain ⟨q2, u0, u1⟩ := hX.out w' hSw; (try dsimp only at hSw); go_simp; try with_reducible rfl
              (try simp only [Act.put, List.setIfInBounds_toArray, List.set_cons_zero, List.set_cons_succ, List.getElem_toArray, List.getElem_cons_zero, List.getElem_cons_succ])
              refine wpAnyH_take (i := 25) (v := ?v65) rfl (by kernel_rfl) (by kernel_rfl) (by kernel_rfl) (fun _ _ _ h => h) (Or.inl ⟨by rfl, ?hy65⟩) (by assumption) ?rest65
              case hy65 => intro w' hSw; have q := hlt8; (try dsimp only at hSw); go_simp; try with_reducible rfl
              (try simp only [Act.put, List.setIfInBounds_toArray, List.set_cons_zero, List.set_cons_succ, List.getElem_toArray, List.getElem_cons_zero, List.getElem_cons_succ])
              refine wpAnyH_take (i := 26) (v := ?v66) rfl (by kernel_rfl) (by kernel_rfl) (by kernel_rfl) (fun _ _ _ h => h) (Or.inl ⟨by rfl, ?hy66⟩) (by assumption) ?rest66
              case hy66 => intro w' hSw; (try dsimp only at hSw); go_simp; try with_reducible rfl
              (try simp only [Act.put, List.setIfInBounds_toArray, List.set_cons_zero, List.set_cons_succ, List.getElem_toArray, List.getElem_cons_zero, List.getElem_cons_succ])
              refine wpAnyH_take (i := 27) (v := ?v67) rfl (by kernel_rfl) (by kernel_rfl) (by kernel_rfl) (fun _ _ _ h => h) (Or.inl ⟨by rfl, ?hy67⟩) (by assumption) ?rest67
              case hy67 => intro w' hSw; (try dsimp only at hSw); go_simp; try with_reducible rfl
              (try simp only [Act.put, List.setIfInBounds_toArray, List.set_cons_zero, List.set_cons_succ, List.getElem_toArray, List.getElem_cons_zero, List.getElem_cons_succ])
              refine wpAnyH_done (by kernel_rfl) ?_ _
              go_wp2_with fail
              go_meet
              exact ⟨rfl, hbd.out⟩
          case rest =>
            obtain ⟨rfl, hb0⟩ := hcut
            have hL9 := hid (hL8.out.below hb0)
            have ki9 := hid (ki.out.below_all hb0)
            clear hL8 ki hX0 hb0
            rename World => w9
            have hok := hid hok
            obtain ⟨t, ht⟩ : ∃ t, t = partK p x.1 := ⟨_, rfl⟩
            have htl : t < p := by rw [ht]; exact partK_lt _ (by have := hP.out; omega)
            have hpa := hid (fun W => rpart_any x.1 p W (by have := hxk.out; unfold validK at this; simp at this; omega) hP.out.1 hP.out.2)
            rw [← ht] at hpa
            have x0 : w9.cell? ⟨n14, 0, none⟩ = some (.string x.1) := ki9.out.cell 0
            have hcn := hid (cnt_app p t acc [x])
            have hc1 : cntP p t [x] = 1 := by unfold cntP; simp [ht]
            rw [hc1] at hcn
            obtain ⟨n, hn⟩ : ∃ n, n = cntP p t acc := ⟨_, rfl⟩
            have hnl : n ≤ 4096 := by rw [hn]; have := hL9.out.good.cnt t htl; have := hqr.out; omega
            have cp : w9.cell? ⟨nb, t, none⟩ = some (.int .i64 n) := by rw [hn]; exact hL9.out.arr.cell htl
            have cf := hL9.out.arr.frozen
            have hset := hid (fun v => hL9.out.arr.set htl v)
            have i1 : (t : Int) < (p : Int) := by omega
            have i2 : IntKind.i64.wrap ((n : Int) + 1) = (n : Int) + 1 := by rw [IntKind.wrap_i64]; omega
            have htt := hid ht
            have hnn := hid hn
            have htl9 := hid htl
            clear ht hn hc1 htl hnl
            go_wp2_with fail
            refine (hpa.out _).mono ?_
            rintro e wq ⟨rfl, hwq⟩
            obtain rfl := hwq.symm
            go_upto_region 20 with fail
            have ka0 := hset.out (n + 1)
            rw [show ((n + 1 : Nat) : Int) = (n : Int) + 1 by omega] at ka0
            have hUz : Upd (fun k => k = nb) w9 (w9.setCell ⟨nb, t, none⟩ (.int .i64 ((n : Int) + 1))) := (Upd.refl (fun k => k = nb) w9).setCell (p := ⟨nb, t, none⟩) (fun _ => rfl) _
            have kbz := hid (hL9.out.blk.upd hUz hL9.out.ge.2.2)
            have kiz := hid (ki9.out.upd hUz (fun e => hgi.out.2 e.symm))
            have ho := hid (own_keepL hL9.out.own fun k hk => hUz.block k (hL9.out.own.lt k hk).2 fun e => by
              obtain ⟨cs, hcs, _⟩ := hL9.out.arr
              exact own_ne hL9.out.own hcs (by decide) k hk e)
            have kaz0 : IArr (w9.setCell ⟨nb, t, none⟩ (.int .i64 ((n : Int) + 1))) nb p (fun j => cntP p j (acc ++ [x])) := ka0.congr fun j hj => by
              rw [cnt_app]
              by_cases e : j = t
              · subst e
                rw [if_pos rfl, hnn.out]
                unfold cntP
                simp [htt.out]
              · rw [if_neg e]
                unfold cntP
                have : ¬ partK p x.1 = j := fun h => e (by rw [htt.out, h])
                simp [this]
            have kaz := hid kaz0
            have hBz := hid (hL9.out.bel.trans (hUz.below (B := w.heap.size) hL9.out.bel.size fun k hk e => by have := hL9.out.ge; omega))
            have hge := hid hL9.out.ge
            have hgd := hid hL9.out.good
            have hvl := hid hL9.out.vals
            have y1 := ka0.cell htl9.out
            rw [if_pos rfl] at y1
            clear hUz kaz0 ka0 hL9 ki9 hset cp cf x0 hpa
            generalize w9.setCell ⟨nb, t, none⟩ (.int .i64 ((n : Int) + 1)) = wz at *
            by_cases hov : (q : Int) < (n : Int) + 1
            · have tv : decide ((q : Int) < (n : Int) + 1) = true := decide_eq_true hov
              have hfin : Hid (R = none) := hid (by
                rw [hRs.out, if_neg]
                · rfl
                · unfold stepD
                  rw [Bool.and_eq_true]
                  rintro ⟨_, h9⟩
                  have h9 := of_decide_eq_true h9
                  rw [← htt.out, hcn.out, ← hnn.out] at h9
                  omega)
              clear hov
              go_wp2_with fail
              refine bodyPost_ret (v := .tuple #[.pointer none, .int .i64 42]) (by simp [results, Tryz.results33, go_sem]) rfl ?_
              rw [hfin.out]
              exact ⟨rfl, hBz.out⟩
            · have tv : decide ((q : Int) < (n : Int) + 1) = false := decide_eq_false hov
              have hsd : stepD p q acc x = true := by
                unfold stepD
                rw [hok.out, Bool.true_and]
                refine decide_eq_true ?_
                rw [← htt.out, hcn.out, ← hnn.out]
                omega
              have hRm : Hid (R = (docL p q (acc ++ [x]) mb.data.toList).map fun L => ⟨p, q, L⟩) := hid (by rw [hRs.out, if_pos hsd])
              have hgood2 : Hid (Goodly p q (acc ++ [x])) := hid ⟨fun y hy => by
                rcases List.mem_append.1 hy with hy | hy
                · exact hgd.out.key y hy
                · rw [List.mem_singleton.1 hy]; exact hxk.out, last_lt hgd.out.asc hok.out, fun j hj => by
                by_cases e : j = t
                · subst e
                  rw [hcn.out, ← hnn.out]; omega
                · rw [cnt_app]
                  have : cntP p j [x] = 0 := by unfold cntP; have : ¬ partK p x.1 = j := fun h => e (by rw [htt.out, h]); simp [this]
                  rw [this]; exact hgd.out.cnt j hj⟩
              have hvals2 : Hid (∀ y ∈ acc ++ [x], y.2.ok = true ∧ y.2.rng) := hid fun y hy => by
                rcases List.mem_append.1 hy with hy | hy
                · exact hvl.out y hy
                · rw [List.mem_singleton.1 hy]; exact hxv.out
              have hgo : Hid (¬ (Value.slice A acc.length c).ownBlock = some g) := hid fun e => own_ne ho.out kbz.out (by decide) _ e rfl
              have hgn : Hid (¬ (Value.slice A acc.length c).ownBlock = some nb) := hid fun e => by
                obtain ⟨cs, hcs, _⟩ := kaz.out
                exact own_ne ho.out hcs (by decide) _ e rfl
              have hgb := hid hge.out.2.2
              have hkeep : Hid (∀ w', Upd (fun q => (Value.slice A acc.length c).ownBlock = some q) wz w' → w'.cell? ⟨g, 2, none⟩ = some (.slice A acc.length c) ∧ w'.cell? ⟨n14, 0, none⟩ = some (.string x.1) ∧ w'.cell? ⟨n14, 1, none⟩ = some (.int .i64 x.2.k) ∧ w'.cell? ⟨n14, 2, none⟩ = some (.int .i64 x.2.n) ∧ w'.cell? ⟨n14, 3, none⟩ = some (.string x.2.s)) := hid fun w' hu => ⟨(kbz.out.upd hu hgo.out).cell 2, (kiz.out.upd hu fun e => hni.out _ e rfl).cell 0, (kiz.out.upd hu fun e => hni.out _ e rfl).cell 1, (kiz.out.upd hu fun e => hni.out _ e rfl).cell 2, (kiz.out.upd hu fun e => hni.out _ e rfl).cell 3⟩
              clear hov hsd hRs
              go_upto_region 22 with fail
              clear y1
              have hHeld : wz.drew.cell? ⟨g, 2, none⟩ = some (.slice A acc.length c) ∧ wz.drew.cell? ⟨n14, 0, none⟩ = some (.string x.1) ∧ wz.drew.cell? ⟨n14, 1, none⟩ = some (.int .i64 x.2.k) ∧ wz.drew.cell? ⟨n14, 2, none⟩ = some (.int .i64 x.2.n) ∧ wz.drew.cell? ⟨n14, 3, none⟩ = some (.string x.2.s) := hkeep.out _ ((Upd.refl _ wz).drew)
              refine wp_region_heldE (S := fun w' => w'.cell? ⟨g, 2, none⟩ = some (.slice A acc.length c) ∧ w'.cell? ⟨n14, 0, none⟩ = some (.string x.1) ∧ w'.cell? ⟨n14, 1, none⟩ = some (.int .i64 x.2.k) ∧ w'.cell? ⟨n14, 2, none⟩ = some (.int .i64 x.2.n) ∧ w'.cell? ⟨n14, 3, none⟩ = some (.string x.2.s)) 10 (by kernel_rfl) ?_
              refine wpAnyE_take [8, 9, 10] (i := 0) (v := ?v501) rfl (by kernel_rfl) (by kernel_rfl) (by kernel_rfl) (by rfl) (by kernel_rfl) (by kernel_rfl) (fun _ _ _ h => h) (Or.inl ⟨by rfl, ?hy501⟩) (hHeld) ?rest501
              case hy501 => intro w hSw; (try dsimp only at hSw); go_simp; try with_reducible rfl
              (try simp only [Act.put, List.setIfInBounds_toArray, List.set_cons_zero, List.set_cons_succ, List.getElem_toArray, List.getElem_cons_zero, List.getElem_cons_succ])
              refine wpAnyE_take [2, 3, 4, 7, 8, 9, 10] (i := 1) (v := ?v502) rfl (by kernel_rfl) (by kernel_rfl) (by kernel_rfl) (by rfl) (by kernel_rfl) (by kernel_rfl) (fun _ _ _ h => h) (Or.inl ⟨by rfl, ?hy502⟩) (hHeld) ?rest502
              case hy502 => intro w hSw; (try dsimp only at hSw); go_simp; try with_reducible rfl
              (try simp only [Act.put, List.setIfInBounds_toArray, List.set_cons_zero, List.set_cons_succ, List.getElem_toArray, List.getElem_cons_zero, List.getElem_cons_succ])
              refine wpAnyE_take [3, 4, 7, 8, 9, 10] (i := 2) (v := ?v503) rfl (by kernel_rfl) (by kernel_rfl) (by kernel_rfl) (by rfl) (by kernel_rfl) (by kernel_rfl) (fun _ _ _ h => h) (Or.inl ⟨by rfl, ?hy503⟩) (hHeld) ?rest503
              case hy503 => intro w hSw; (try dsimp only at hSw); go_simp; try with_reducible rfl
              (try simp only [Act.put, List.setIfInBounds_toArray, List.set_cons_zero, List.set_cons_succ, List.getElem_toArray, List.getElem_cons_zero, List.getElem_cons_succ])
              refine wpAnyE_take [4, 7, 8, 9, 10] (i := 3) (v := ?v504) rfl (by kernel_rfl) (by kernel_rfl) (by kernel_rfl) (by rfl) (by kernel_rfl) (by kernel_rfl) (fun _ _ _ h => h) (Or.inl ⟨by rfl, ?hy504⟩) (hHeld) ?rest504
              case hy504 => intro w hSw; (try dsimp only at hSw); go_simp; try with_reducible rfl
              (try simp only [Act.put, List.setIfInBounds_toArray, List.set_cons_zero, List.set_cons_succ, List.getElem_toArray, List.getElem_cons_zero, List.getElem_cons_succ])
              refine wpAnyE_take [7, 8, 9, 10] (i := 4) (v := ?v505) rfl (by kernel_rfl) (by kernel_rfl) (by kernel_rfl) (by rfl) (by kernel_rfl) (by kernel_rfl) (fun _ _ _ h => h) (Or.inl ⟨by rfl, ?hy505⟩) (hHeld) ?rest505
              case hy505 => intro w hSw; (try dsimp only at hSw); go_simp; try with_reducible rfl
              (try simp only [Act.put, List.setIfInBounds_toArray, List.set_cons_zero, List.set_cons_succ, List.getElem_toArray, List.getElem_cons_zero, List.getElem_cons_succ])
              refine wpAnyE_take [6, 7, 8, 9, 10] (i := 5) (v := ?v506) rfl (by kernel_rfl) (by kernel_rfl) (by kernel_rfl) (by rfl) (by kernel_rfl) (by kernel_rfl) (fun _ _ _ h => h) (Or.inl ⟨by rfl, ?hy506⟩) (hHeld) ?rest506
              case hy506 => intro w hSw; (try dsimp only at hSw); go_simp; try with_reducible rfl
              (try simp only [Act.put, List.setIfInBounds_toArray, List.set_cons_zero, List.set_cons_succ, List.getElem_toArray, List.getElem_cons_zero, List.getElem_cons_succ])
              refine wpAnyE_ready (rs := [6]) (by kernel_rfl) (by simp) ?_
              refine AllReadyE.cons rfl (fun K hK => ?_) AllReadyE.nil
              go_simp
              refine hK.out _ _ (fun _ => hkeep.out _ ((Upd.refl _ wz).drew.alloc _)) ?_
              clear hK K
              (try simp only [Act.put, List.setIfInBounds_toArray, List.set_cons_zero, List.set_cons_succ, List.getElem_toArray, List.getElem_cons_zero, List.getElem_cons_succ])
              refine wpAnyE_ready (rs := [7]) (by kernel_rfl) (by simp) ?_
              refine AllReadyE.cons rfl (fun K hK => ?_) AllReadyE.nil
              refine step_append_rd _ rfl (.tmp 106) (.tmp 108) 62 rfl w.heap.size 70 ip _ 4 48 Tryz.underlying62 hip hp0 hp1 hp2 rfl (by omega) (.slice A acc.length c) acc.length (kvCells acc) rfl ?_ (fun q => q = wz.heap.size) (some ⟨wz.heap.size, 0, none⟩) 1 1 #[.string x.1, .int .i64 x.2.k, .int .i64 x.2.n, .string x.2.s].toList rfl ?_ ?_ ?_ ?_ ?_ (acc.length + 1) rfl (kvCells acc ++ #[.string x.1, .int .i64 x.2.k, .int .i64 x.2.n, .string x.2.s].toList) rfl ?_
              · exact (ho.out.drew).alloc _
              · exact Rd.new wz.drew 70 4 1 #[.string x.1, .int .i64 x.2.k, .int .i64 x.2.n, .string x.2.s] wz.heap.size rfl rfl
              · intro v hv; simp at hv; rcases hv with rfl | rfl | rfl | rfl <;> rfl
              · have := hal.out; simp only [maxLen]; omega
              · have := hal.out; omega
              · have := hBz.out.size; simp; omega
              intro A3 c3 w3 hown3 hg3 hat3
              have hu9 : Hid (Upd (fun q => (Value.slice A acc.length c).ownBlock = some q) wz w3) := hid (((Upd.refl _ wz).drew.alloc _).grown hg3 fun q hq _ => hq)
              have hO3 := hid hown3
              clear hg3 hat3 hown3
              have r4 : w3.cell? ⟨g, 2, none⟩ = some (.slice A acc.length c) ∧ w3.cell? ⟨n14, 0, none⟩ = some (.string x.1) ∧ w3.cell? ⟨n14, 1, none⟩ = some (.int .i64 x.2.k) ∧ w3.cell? ⟨n14, 2, none⟩ = some (.int .i64 x.2.n) ∧ w3.cell? ⟨n14, 3, none⟩ = some (.string x.2.s) := hkeep.out _ hu9.out
              have q4 : w3.frozen? ⟨g, 2, none⟩ = false := (kbz.out.upd hu9.out hgo.out).frozen 2
              have r7 := r4.1
              refine hK.out _ _ (fun _ => r4) ?_
              clear hK K
              (try simp only [Act.put, List.setIfInBounds_toArray, List.set_cons_zero, List.set_cons_succ, List.getElem_toArray, List.getElem_cons_zero, List.getElem_cons_succ])
              refine wpAnyE_take [9, 10] (i := 8) (v := ?v507) rfl (by kernel_rfl) (by kernel_rfl) (by kernel_rfl) (by rfl) (by kernel_rfl) (by kernel_rfl) (fun _ _ _ h => h) (Or.inl ⟨by rfl, ?hy507⟩) (r4) ?rest507
              case hy507 => intro w hSw; (try dsimp only at hSw); go_simp; try with_reducible rfl
              (try simp only [Act.put, List.setIfInBounds_toArray, List.set_cons_zero, List.set_cons_succ, List.getElem_toArray, List.getElem_cons_zero, List.getElem_cons_succ])
              refine wpAnyE_take [10] (i := 9) (v := ?v508) rfl (by kernel_rfl) (by kernel_rfl) (by kernel_rfl) (by rfl) (by kernel_rfl) (by kernel_rfl) (fun _ _ _ h => h) (Or.inl ⟨by rfl, ?hy508⟩) (r4) ?rest508
              case hy508 => intro w hSw; (try dsimp only at hSw); go_simp; try with_reducible rfl
              (try simp only [Act.put, List.setIfInBounds_toArray, List.set_cons_zero, List.set_cons_succ, List.getElem_toArray, List.getElem_cons_zero, List.getElem_cons_succ])
              refine wpAnyE_ready (rs := [10]) (by kernel_rfl) (by simp) ?_
              refine AllReadyE.cons rfl (fun K hK => ?_) AllReadyE.nil
              go_simp
              refine hK.out _ _ (fun h => absurd rfl h) ?_
              clear hK K
              (try simp only [Act.put, List.setIfInBounds_toArray, List.set_cons_zero, List.set_cons_succ, List.getElem_toArray, List.getElem_cons_zero, List.getElem_cons_succ])
              refine wpAnyE_done (by kernel_rfl) ?_ _
              go_wp2_with fail
              go_roundw
              case rel =>
                have hW : Upd (fun q => q = g ∨ (Value.slice A acc.length c).ownBlock = some q) wz (w3.setCell ⟨g, 2, none⟩ (.slice A3 (acc.length + 1) c3)) := (Upd.trans (Upd.refl _ wz) hu9.out fun q _ e => .inr e).setCell (p := ⟨g, 2, none⟩) (fun _ => .inl rfl) _
                have hg3 := kbz.out.upd hu9.out hgo.out
                have ka3 := (kaz.out.upd hu9.out hgn.out).upd ((Upd.refl (fun q => q = g) w3).setCell (p := ⟨g, 2, none⟩) (fun _ => rfl) (.slice A3 (acc.length + 1) c3)) (by have := hgb.out; omega)
                refine ⟨mb, acc ++ [x], A3, c3, rfl, hms.out, ⟨by rw [List.length_append]; exact hg3.set_ 2 _, ?_, ka3, hgood2.out, hvals2.out, hge.out, hBz.out.trans (hW.below (B := w.heap.size) hBz.out.size fun q hq e => ?_)⟩, hRm.out⟩
                · rw [List.length_append, kvCells_snoc]
                  exact own_keepL hO3.out fun q hq => Below.heap_setCell w3 _ _ q fun e => own_ne hO3.out hg3 (by decide) q hq e
                · rcases e with e | e
                  · have := hge.out; omega
                  · have := (ho.out.lt q e).1; omega
              case measure => exact hmsl.out
        · as_aux_lemma =>
          have hfin : Hid (R = none) := hid (by
            rw [hRs.out, if_neg]
            · rfl
            · unfold stepD
              rw [Bool.and_eq_true]
              exact fun h => hok h.1)
          rcases List.eq_nil_or_concat acc with rfl | ⟨m, z, hm⟩
          · exact absurd rfl hok
          · rw [List.concat_eq_append] at hm
            have hlm : acc.length = m.length + 1 := by rw [hm]; simp
            have hzl : ltB z.1 x.1 = false := by
              unfold lastLt at hok
              rw [hm, List.getLast?_concat] at hok
              simpa using hok
            have hlt8 : Op.bytesLess z.1.toList x.1.toList = false := hzl
            have i1 : (m.length : Int) < (acc.length : Int) := by omega
            have i2 : IntKind.i64.wrap ((acc.length : Int) - 1) = (m.length : Int) := by rw [IntKind.wrap_i64]; have := hal.out; omega
            have tl : decide ((0 : Int) < (acc.length : Int)) = true := decide_eq_true (by omega)
            have tln : decide (0 < acc.length) = true := decide_eq_true (by omega)
            have hzg : acc[m.length]? = some z := by rw [hm]; simp
            obtain ⟨b9, o9, hA9, _, hl9, w0, -⟩ := rd_kv (Rd.of_own hL8.out.own) (i := m.length) (by omega)
            have hze : (acc[m.length]'(by omega)) = z := by
              have := List.getElem?_eq_getElem (l := acc) (i := m.length) (by omega)
              rw [hzg] at this
              injection this with this
              exact this.symm
            rw [hze] at w0
            have hX := hid (fun W (hW : Below w8.heap.size w8 W) => (show W.cell? ⟨g, 2, none⟩ = some (.slice (some ⟨b9, o9, none⟩) acc.length c) ∧ W.cell? ⟨n14, 0, none⟩ = some (.string x.1) ∧ W.cell? ⟨b9, o9 + m.length * 4, none⟩ = some (.string z.1) from ⟨by rw [← hA9]; exact (hX0.out W hW).1, (hX0.out W hW).2, cell_bel hW hl9 w0⟩))
            clear hX0 hze hzg hm hzl hlm w0 hl9 hA9 hok
            refine wp_region_held_drew (S := fun w'' => Below w8.heap.size w8 w'') (by kernel_rfl) ?_ (fun hHeld => ?_)
            · exact (Below.refl _ _).drew
            have hbd := hid ((Below.refl w8.heap.size w8).drew)
            generalize World.drew w8 = wd at *
            refine wpAnyH_take (i := 0) (v := ?v68) rfl (by kernel_rfl) (by kernel_rfl) (by kernel_rfl) (fun _ _ _ h => h) (Or.inl ⟨by rfl, ?hy68⟩) (by assumption) ?rest68
            case hy68 => intro w' hSw; (try dsimp only at hSw); go_simp; try with_reducible rfl
            (try simp only [Act.put, List.setIfInBounds_toArray, List.set_cons_zero, List.set_cons_succ, List.getElem_toArray, List.getElem_cons_zero, List.getElem_cons_succ])
            refine wpAnyH_take (i := 1) (v := ?v69) rfl (by kernel_rfl) (by kernel_rfl) (by kernel_rfl) (fun _ _ _ h => h) (Or.inl ⟨by rfl, ?hy69⟩) (by assumption) ?rest69
            case hy69 => intro w' hSw; (try dsimp only at hSw); go_simp; try with_reducible rfl
            (try simp only [Act.put, List.setIfInBounds_toArray, List.set_cons_zero, List.set_cons_succ, List.getElem_toArray, List.getElem_cons_zero, List.getElem_cons_succ])
            refine wpAnyH_take (i := 2) (v := ?v70) rfl (by kernel_rfl) (by kernel_rfl) (by kernel_rfl) (fun _ _ _ h => h) (Or.inl ⟨by rfl, ?hy70⟩) (by assumption) ?rest70
            case hy70 => intro w' hSw; (try dsimp only at hSw); go_simp; try with_reducible rfl
            (try simp only [Act.put, List.setIfInBounds_toArray, List.set_cons_zero, List.set_cons_succ, List.getElem_toArray, List.getElem_cons_zero, List.getElem_cons_succ])
            refine wpAnyH_take (i := 3) (v := ?v71) rfl (by kernel_rfl) (by kernel_rfl) (by kernel_rfl) (fun _ _ _ h => h) (Or.inl ⟨by rfl, ?hy71⟩) (by assumption) ?rest71
            case hy71 => intro w' hSw; (try dsimp only at hSw); go_simp; try with_reducible rfl
            (try simp only [Act.put, List.setIfInBounds_toArray, List.set_cons_zero, List.set_cons_succ, List.getElem_toArray, List.getElem_cons_zero, List.getElem_cons_succ])
            refine wpAnyH_take (i := 4) (v := ?v72) rfl (by kernel_rfl) (by kernel_rfl) (by kernel_rfl) (fun _ _ _ h => h) (Or.inl ⟨by rfl, ?hy72⟩) (by assumption) ?rest72
            case hy72 => intro w' hSw; obtain ⟨q2, u0⟩ := hX.out w' hSw; (try dsimp only at hSw); go_simp; try with_reducible rfl
            (try simp only [Act.put, List.setIfInBounds_toArray, List.set_cons_zero, List.set_cons_succ, List.getElem_toArray, List.getElem_cons_zero, List.getElem_cons_succ])
            refine wpAnyH_take (i := 5) (v := ?v73) rfl (by kernel_rfl) (by kernel_rfl) (by kernel_rfl) (fun _ _ _ h => h) (Or.inl ⟨by rfl, ?hy73⟩) (by assumption) ?rest73
            case hy73 => intro w' hSw; obtain ⟨q2, u0⟩ := hX.out w' hSw; (try dsimp only at hSw); go_simp; try with_reducible rfl
            (try simp only [Act.put, List.setIfInBounds_toArray, List.set_cons_zero, List.set_cons_succ, List.getElem_toArray, List.getElem_cons_zero, List.getElem_cons_succ])
            refine wpAnyH_take (i := 6) (v := ?v74) rfl (by kernel_rfl) (by kernel_rfl) (by kernel_rfl) (fun _ _ _ h => h) (Or.inl ⟨by rfl, ?hy74⟩) (by assumption) ?rest74
            case hy74 => intro w' hSw; obtain ⟨q2, u0⟩ := hX.out w' hSw; (try dsimp only at hSw); go_simp; try with_reducible rfl
            (try simp only [Act.put, List.setIfInBounds_toArray, List.set_cons_zero, List.set_cons_succ, List.getElem_toArray, List.getElem_cons_zero, List.getElem_cons_succ])
            refine wpAnyH_take (i := 7) (v := ?v75) rfl (by kernel_rfl) (by kernel_rfl) (by kernel_rfl) (fun _ _ _ h => h) (Or.inl ⟨by rfl, ?hy75⟩) (by assumption) ?rest75
            case hy75 => intro w' hSw; (try dsimp only at hSw); go_simp; try with_reducible rfl
            (try simp only [Act.put, List.setIfInBounds_toArray, List.set_cons_zero, List.set_cons_succ, List.getElem_toArray, List.getElem_cons_zero, List.getElem_cons_succ])
            refine wpAnyH_take (i := 8) (v := ?v76) rfl (by kernel_rfl) (by kernel_rfl) (by kernel_rfl) (fun _ _ _ h => h) (Or.inl ⟨by rfl, ?hy76⟩) (by assumption) ?rest76
            case hy76 => intro w' hSw; (try dsimp only at hSw); go_simp; try with_reducible rfl
            (try simp only [Act.put, List.setIfInBounds_toArray, List.set_cons_zero, List.set_cons_succ, List.getElem_toArray, List.getElem_cons_zero, List.getElem_cons_succ])
            refine wpAnyH_take (i := 9) (v := ?v77) rfl (by kernel_rfl) (by kernel_rfl) (by kernel_rfl) (fun _ _ _ h => h) (Or.inl ⟨by rfl, ?hy77⟩) (by assumption) ?rest77
            case hy77 => intro w' hSw; (try dsimp only at hSw); go_simp; try with_reducible rfl
            (try simp only [Act.put, List.setIfInBounds_toArray, List.set_cons_zero, List.set_cons_succ, List.getElem_toArray, List.getElem_cons_zero, List.getElem_cons_succ])
            refine wpAnyH_take (i := 10) (v := ?v78) rfl (by kernel_rfl) (by kernel_rfl) (by kernel_rfl) (fun _ _ _ h => h) (Or.inl ⟨by rfl, ?hy78⟩) (by assumption) ?rest78
            case hy78 => intro w' hSw; obtain ⟨q2, u0, u1⟩ := hX.out w' hSw; (try dsimp only at hSw); go_simp; try with_reducible rfl
            (try simp only [Act.put, List.setIfInBounds_toArray, List.set_cons_zero, List.set_cons_succ, List.getElem_toArray, List.getElem_cons_zero, List.getElem_cons_succ])
            refine wpAnyH_take (i := 11) (v := ?v79) rfl (by kernel_rfl) (by kernel_rfl) (by kernel_rfl) (fun _ _ _ h => h) (Or.inl ⟨by rfl, ?hy79⟩) (by assumption) ?rest79
            case hy79 => intro w' hSw; obtain ⟨q2, u0, u1⟩ := hX.out w' hSw; (try dsimp only at hSw); go_simp; try with_reducible rfl
            (try simp only [Act.put, List.setIfInBounds_toArray, List.set_cons_zero, List.set_cons_succ, List.getElem_toArray, List.getElem_cons_zero, List.getElem_cons_succ])
            refine wpAnyH_take (i := 12) (v := ?v80) rfl (by kernel_rfl) (by kernel_rfl) (by kernel_rfl) (fun _ _ _ h => h) (Or.inl ⟨by rfl, ?hy80⟩) (by assumption) ?rest80
            case hy80 => intro w' hSw; obtain ⟨q2, u0, u1⟩ := hX.out w' hSw; (try dsimp only at hSw); go_simp; try with_reducible rfl
            (try simp only [Act.put, List.setIfInBounds_toArray, List.set_cons_zero, List.set_cons_succ, List.getElem_toArray, List.getElem_cons_zero, List.getElem_cons_succ])
            refine wpAnyH_take (i := 13) (v := ?v81) rfl (by kernel_rfl) (by kernel_rfl) (by kernel_rfl) (fun _ _ _ h => h) (Or.inl ⟨by rfl, ?hy81⟩) (by assumption) ?rest81
            case hy81 => intro w' hSw; obtain ⟨q2, u0, u1⟩ := hX.out w' hSw; (try dsimp only at hSw); go_simp; try with_reducible rfl
            (try simp only [Act.put, List.setIfInBounds_toArray, List.set_cons_zero, List.set_cons_succ, List.getElem_toArray, List.getElem_cons_zero, List.getElem_cons_succ])
            refine wpAnyH_take (i := 14) (v := ?v82) rfl (by kernel_rfl) (by kernel_rfl) (by kernel_rfl) (fun _ _ _ h => h) (Or.inl ⟨by rfl, ?hy82⟩) (by assumption) ?rest82
            case hy82 => intro w' hSw; obtain ⟨q2, u0, u1⟩ := hX.out w' hSw; (try dsimp only at hSw); go_simp; try with_reducible rfl
            (try simp only [Act.put, List.setIfInBounds_toArray, List.set_cons_zero, List.set_cons_succ, List.getElem_toArray, List.getElem_cons_zero, List.getElem_cons_succ])
            refine wpAnyH_take (i := 15) (v := ?v83) rfl (by kernel_rfl) (by kernel_rfl) (by kernel_rfl) (fun _ _ _ h => h) (Or.inl ⟨by rfl, ?hy83⟩) (by assumption) ?rest83
            case hy83 => intro w' hSw; obtain ⟨q2, u0, u1⟩ := hX.out w' hSw; (try dsimp only at hSw); go_simp; try with_reducible rfl
            (try simp only [Act.put, List.setIfInBounds_toArray, List.set_cons_zero, List.set_cons_succ, List.getElem_toArray, List.getElem_cons_zero, List.getElem_cons_succ])
            refine wpAnyH_take (i := 16) (v := ?v84) rfl (by kernel_rfl) (by kernel_rfl) (by kernel_rfl) (fun _ _ _ h => h) (Or.inl ⟨by rfl, ?hy84⟩) (by assumption) ?rest84
            case hy84 => intro w' hSw; obtain ⟨q2, u0, u1⟩ := hX.out w' hSw; (try dsimp only at hSw); go_simp; try with_reducible rfl
            (try simp only [Act.put, List.setIfInBounds_toArray, List.set_cons_zero, List.set_cons_succ, List.getElem_toArray, List.getElem_cons_zero, List.getElem_cons_succ])
            refine wpAnyH_take (i := 17) (v := ?v85) rfl (by kernel_rfl) (by kernel_rfl) (by kernel_rfl) (fun _ _ _ h => h) (Or.inl ⟨by rfl, ?hy85⟩) (by assumption) ?rest85
            case hy85 => intro w' hSw; obtain ⟨q2, u0, u1⟩ := hX.out w' hSw; (try dsimp only at hSw); go_simp; try with_reducible rfl
            (try simp only [Act.put, List.setIfInBounds_toArray, List.set_cons_zero, List.set_cons_succ, List.getElem_toArray, List.getElem_cons_zero, List.getElem_cons_succ])
            refine wpAnyH_take (i := 18) (v := ?v86) rfl (by kernel_rfl) (by kernel_rfl) (by kernel_rfl) (fun _ _ _ h => h) (Or.inl ⟨by rfl, ?hy86⟩) (by assumption) ?rest86
            case hy86 => intro w' hSw; obtain ⟨q2, u0, u1⟩ := hX.out w' hSw; (try dsimp only at hSw); go_simp; try with_reducible rfl
            (try simp only [Act.put, List.setIfInBounds_toArray, List.set_cons_zero, List.set_cons_succ, List.getElem_toArray, List.getElem_cons_zero, List.getElem_cons_succ])
            refine wpAnyH_take (i := 19) (v := ?v87) rfl (by kernel_rfl) (by kernel_rfl) (by kernel_rfl) (fun _ _ _ h => h) (Or.inl ⟨by rfl, ?hy87⟩) (by assumption) ?rest87
            case hy87 => intro w' hSw; obtain ⟨q2, u0, u1⟩ := hX.out w' hSw; (try dsimp only at hSw); go_simp; try with_reducible rfl
            (try simp only [Act.put, List.setIfInBounds_toArray, List.set_cons_zero, List.set_cons_succ, List.getElem_toArray, List.getElem_cons_zero, List.getElem_cons_succ])
            refine wpAnyH_take (i := 20) (v := ?v88) rfl (by kernel_rfl) (by kernel_rfl) (by kernel_rfl) (fun _ _ _ h => h) (Or.inl ⟨by rfl, ?hy88⟩) (by assumption) ?rest88
            case hy88 => intro w' hSw; obtain ⟨q2, u0, u1⟩ := hX.out w' hSw; (try dsimp only at hSw); go_simp; try with_reducible rfl
            (try simp only [Act.put, List.setIfInBounds_toArray, List.set_cons_zero, List.set_cons_succ, List.getElem_toArray, List.getElem_cons_zero, List.getElem_cons_succ])
            refine wpAnyH_take (i := 21) (v := ?v89) rfl (by kernel_rfl) (by kernel_rfl) (by kernel_rfl) (fun _ _ _ h => h) (Or.inl ⟨by rfl, ?hy89⟩) (by assumption) ?rest89
            case hy89 => intro w' hSw; obtain ⟨q2, u0, u1⟩ := hX.out w' hSw; (try dsimp only at hSw); go_simp; try with_reducible rfl
            (try simp only [Act.put, List.setIfInBounds_toArray, List.set_cons_zero, List.set_cons_succ, List.getElem_toArray, List.getElem_cons_zero, List.getElem_cons_succ])
            refine wpAnyH_take (i := 22) (v := ?v90) rfl (by kernel_rfl) (by kernel_rfl) (by kernel_rfl) (fun _ _ _ h => h) (Or.inl ⟨by rfl, ?hy90⟩) (by assumption) ?rest90
            case hy90 => intro w' hSw; obtain ⟨q2, u0, u1⟩ := hX.out w' hSw; (try dsimp only at hSw); go_simp; try with_reducible rfl
            (try simp only [Act.put, List.setIfInBounds_toArray, List.set_cons_zero, List.set_cons_succ, List.getElem_toArray, List.getElem_cons_zero, List.getElem_cons_succ])
            refine wpAnyH_take (i := 23) (v := ?v91) rfl (by kernel_rfl) (by kernel_rfl) (by kernel_rfl) (fun _ _ _ h => h) (Or.inl ⟨by rfl, ?hy91⟩) (by assumption) ?rest91
            case hy91 => intro w' hSw; obtain ⟨q2, u0, u1⟩ := hX.out w' hSw; (try dsimp only at hSw); go_simp; try with_reducible rfl
            (try simp only [Act.put, List.setIfInBounds_toArray, List.set_cons_zero, List.set_cons_succ, List.getElem_toArray, List.getElem_cons_zero, List.getElem_cons_succ])
            refine wpAnyH_take (i := 24) (v := ?v92) rfl (by kernel_rfl) (by kernel_rfl) (by kernel_rfl) (fun _ _ _ h => h) (Or.inl ⟨by rfl, ?hy92⟩) (by assumption) ?rest92
            case hy92 => intro w' hSw; obtain ⟨q2, u0, u1⟩ := hX.out w' hSw; (try dsimp only at hSw); go_simp; try with_reducible rfl
            (try simp only [Act.put, List.setIfInBounds_toArray, List.set_cons_zero, List.set_cons_succ, List.getElem_toArray, List.getElem_cons_zero, List.getElem_cons_succ])
            refine wpAnyH_take (i := 25) (v := ?v93) rfl (by kernel_rfl) (by kernel_rfl) (by kernel_rfl) (fun _ _ _ h => h) (Or.inl ⟨by rfl, ?hy93⟩) (by assumption) ?rest93
            case hy93 => intro w' hSw; have q := hlt8; (try dsimp only at hSw); go_simp; try with_reducible rfl
            (try simp only [Act.put, List.setIfInBounds_toArray, List.set_cons_zero, List.set_cons_succ, List.getElem_toArray, List.getElem_cons_zero, List.getElem_cons_succ])
            refine wpAnyH_take (i := 26) (v := ?v94) rfl (by kernel_rfl) (by kernel_rfl) (by kernel_rfl) (fun _ _ _ h => h) (Or.inl ⟨by rfl, ?hy94⟩) (by assumption) ?rest94
            case hy94 => intro w' hSw; (try dsimp only at hSw); go_simp; try with_reducible rfl
            (try simp only [Act.put, List.setIfInBounds_toArray, List.set_cons_zero, List.set_cons_succ, List.getElem_toArray, List.getElem_cons_zero, List.getElem_cons_succ])
            refine wpAnyH_take (i := 27) (v := ?v95) rfl (by kernel_rfl) (by kernel_rfl) (by kernel_rfl) (fun _ _ _ h => h) (Or.inl ⟨by rfl, ?hy95⟩) (by assumption) ?rest95
            case hy95 => intro w' hSw; (try dsimp only at hSw); go_simp; try with_reducible rfl
            (try simp only [Act.put, List.setIfInBounds_toArray, List.set_cons_zero, List.set_cons_succ, List.getElem_toArray, List.getElem_cons_zero, List.getElem_cons_succ])
            refine wpAnyH_done (by kernel_rfl) ?_ _
            go_wp2_with fail
            refine bodyPost_ret (v := .tuple #[.pointer none, .int .i64 42]) (by simp [results, Tryz.results33, go_sem]) rfl ?_
            rw [hfin.out]
            exact ⟨rfl, hL8.out.bel.trans (hbd.out.mono hL8.out.bel.size)⟩
  · have hfin : Hid (R = none) := hid (by rw [hR3.out, if_neg h64])
    have hnw := hid (rnew_bad p q w3 (by unfold goodPR; simp; omega))
    clear h64
    go_wp2_with fail
    refine hnw.out.mono ?_
    rintro e wq ⟨rfl, hwq⟩
    obtain rfl := hwq.symm
    go_wp2_with fail
    refine bodyPost_ret (v := .tuple #[.pointer none, .int .i64 42]) (by simp [results, Tryz.results33, go_sem]) rfl ?_
    rw [hfin.out]
    exact ⟨rfl, hb3.out⟩
end Go.Proofs.YtphglnenafdkaaaGreatDoor

namespace Go.Proofs.YtphglnenafdkaaaGreatDoor
open Go.RowKit
set_option linter.unusedVariables false
set_option linter.unusedSimpArgs false

/-- how many keys have a partition: any number -/
def cntI (n : Nat) (p : Int) (L : List Kv) : Nat := L.countP fun x => decide (((partK n x.1 : Nat) : Int) = p)
theorem cntI_nat (n p : Nat) (L : List Kv) : cntI n p L = cntP n p L := by
  unfold cntI cntP
  congr 1
  funext x
  exact decide_eq_decide.2 (by omega)
theorem cntI_out {n : Nat} {p : Int} (L : List Kv) (h0 : 0 < n) (h : p < 0 ∨ (n : Int) ≤ p) : cntI n p L = 0 := by
  unfold cntI
  apply List.countP_eq_zero.2
  intro x _
  have := partK_lt x.1 h0
  simp
  omega
theorem cntI_snoc (n : Nat) (p : Int) (L : List Kv) (x : Kv) : cntI n p (L ++ [x]) = cntI n p L + if ((partK n x.1 : Nat) : Int) = p then 1 else 0 := by
  unfold cntI
  rw [List.countP_append]
  by_cases h : ((partK n x.1 : Nat) : Int) = p <;> simp [h]
theorem cntI_le (n : Nat) (p : Int) (L : List Kv) : cntI n p L ≤ L.length := List.countP_le_length
section
variable {S : Nat → Prop} {w w' : World} {r g : Nat} {s : St}
set_option maxRecDepth 100000 in
set_option maxHeartbeats 4000000 in
theorem rclaims_any (h : RAt S w r s) (p : Int) : Calls Tryz.prog 54 #[.pointer (some ⟨r, 0, none⟩), .int .i64 p] w fun e w' => e = .returned (.int .i64 (cntI s.parts p s.L : Nat)) ∧ Below w.heap.size w w' := by
  obtain ⟨A, c, h⟩ := h
  have HH := hid h
  have hlen := hid h.ok.len
  clear h
  go_enter Tryz.func54, Tryz.ntmps54
  go_wp2_with fail
  go_loopw [5, 6] (fun u v wr => ∃ k : Nat, u = .int .i64 (cntI s.parts p (s.L.take k) : Nat) ∧ v = .int .i64 k ∧ k ≤ s.L.length ∧ Below w.heap.size w wr) (fun u v _ => s.L.length - (intOf v).toNat)
  case atStart => exact ⟨0, rfl, rfl, Nat.zero_le _, Below.refl _ _⟩
  case round =>
    obtain ⟨k, rfl, rfl, hk, hB0⟩ := hrel
    have hB := hid hB0
    clear hB0
    have hP := HH.out.below hB.out
    have d0 := hP.cells.1
    have d2 := hP.cells.2.2
    by_cases hlt : k < s.L.length
    · have i1 : (k : Int) < (s.L.length : Int) := by omega
      obtain ⟨b, o, rfl, _, _, x0, -⟩ := rd_kv hP.rd hlt
      have hks := HH.out.ok.key _ (List.getElem_mem hlt)
      have hsz : (s.L[k]).1.size ≤ 9223372036854775806 := by
        unfold validK at hks
        simp at hks
        omega
      have hpa := hid fun q => rpart_any (s.L[k]).1 s.parts (wr.drewN q) hsz HH.out.ok.parts.1 HH.out.ok.parts.2
      have htk := hid (take_snoc hlt)
      have hst := hid (cntI_snoc s.parts p (s.L.take k) s.L[k])
      have hle : ((cntI s.parts p (s.L.take k) : Nat) : Int) ≤ 262144 := by
        have h1 := cntI_le s.parts p (s.L.take k)
        have h2 : (s.L.take k).length ≤ s.L.length := by simp; omega
        have := hlen.out
        omega
      rw [← htk.out] at hst
      obtain ⟨n, hn⟩ : ∃ n, n = cntI s.parts p (s.L.take k) := ⟨_, rfl⟩
      rw [← hn] at hst hle ⊢
      have hl9 := hid (show (s.L.length : Int) ≤ 262144 by have := hlen.out; omega)
      obtain ⟨q, hq⟩ : ∃ q, q = partK s.parts (s.L[k]).1 := ⟨_, rfl⟩
      rw [← hq] at hst hpa
      generalize (s.L[k]).1 = y at *
      have hkk : IntKind.i64.wrap ((k : Int) + 1) = (k : Int) + 1 := by rw [IntKind.wrap_i64]; have := hl9.out; omega
      have hn1 : IntKind.i64.wrap ((n : Int) + 1) = (n : Int) + 1 := by rw [IntKind.wrap_i64]; omega
      have hlt9 := hid hlt
      clear hP hn hq htk hks hsz hle hlt
      by_cases e : ((q : Nat) : Int) = p
      · have t0 : (((q : Nat) : Int) == p) = true := by simp [e]
        have hst : Hid (cntI s.parts p (s.L.take (k + 1)) = n + 1) := hid (by rw [hst.out, if_pos e])
        clear e
        go_wp2_with fail
        go_quiet ((go_at_call 47; exact Calls.quiet_of_same (hpa.out _)))
        go_wp2_with fail
        go_roundw
        case rel => exact ⟨k + 1, by rw [hst.out]; go_num, by go_num, hlt9.out, below_drewN hB.out _⟩
        case measure => simp [intOf]; have := hlt9.out; omega
      · have t0 : (((q : Nat) : Int) == p) = false := by simp [e]
        have hst : Hid (cntI s.parts p (s.L.take (k + 1)) = n) := hid (by rw [hst.out, if_neg e]; rfl)
        clear e
        go_wp2_with fail
        go_quiet ((go_at_call 47; exact Calls.quiet_of_same (hpa.out _)))
        go_wp2_with fail
        go_roundw
        case rel => exact ⟨k + 1, by rw [hst.out], by go_num, hlt9.out, below_drewN hB.out _⟩
        case measure => simp [intOf]; have := hlt9.out; omega
    · obtain rfl : k = s.L.length := by omega
      rw [List.take_length]
      clear hP
      go_wp2_with fail
      go_ret
      exact ⟨rfl, hB.out⟩
set_option maxRecDepth 100000 in
set_option maxHeartbeats 4000000 in
theorem rget_any (k : ByteArray) (h : RAt S w r s) : Calls Tryz.prog 23 #[.pointer (some ⟨r, 0, none⟩), .string k] w fun e w' => e = .returned (.agg #[.int .i64 (valK k s.L).k, .int .i64 (valK k s.L).n, .string (valK k s.L).s]) ∧ Below w.heap.size w w' := by
  have hB0 : Below w.heap.size w (w.alloc (.cells #[.int .i64 0, .int .i64 0, .string ⟨#[]⟩] 38)) := (Below.refl _ _).alloc (Nat.le_refl _) _
  have h1 := h.below hB0
  have ha := hid (at_any k h1)
  have HH := hid h1
  have hB1 := hid hB0
  have k0 := hid (Blk.new w 38 #[.int .i64 0, .int .i64 0, .string ⟨#[]⟩])
  clear h h1 hB0
  go_enter Tryz.func23, Tryz.ntmps23
  go_upto_region 1 with fail
  generalize w.alloc (.cells #[.int .i64 0, .int .i64 0, .string ⟨#[]⟩] 38) = w1 at *
  go_wp2_with fail
  refine ha.out.mono ?_
  rintro e w2 ⟨rfl, hb2⟩
  have k2 := hid (k0.out.below_all hb2)
  have h2 := HH.out.below hb2
  have hB2 := hid (hB1.out.trans (hb2.mono hB1.out.size))
  clear hb2 ha k0
  have z0 := k2.out.cell 0
  have z1 := k2.out.cell 1
  have z2 := k2.out.cell 2
  simp only [List.getElem?_toArray, List.getElem?_cons_zero, List.getElem?_cons_succ] at z0 z1 z2
  have fz := fun q => k2.out.frozen q
  obtain ⟨A, c, h2⟩ := h2
  cases hh : hasK k s.L with
  | false =>
    have hv := hid (valK_none hh)
    clear h2 hh HH
    go_wp2_with fail
    refine bodyPost_ret (v := .agg #[.int .i64 0, .int .i64 0, .string ⟨#[]⟩]) ?_ rfl ⟨by rw [hv.out]; rfl, ?_⟩
    · exact results_cell_row (P := Tryz.prog) rfl _ _ w.heap.size 38 _ (0, 0) _ rfl (show Blk _ _ _ #[.int .i64 0, .int .i64 0, .string ⟨#[]⟩] from by simpa using ((k2.out.set_ 0 _).set_ 1 _).set_ 2 _) Tryz.underlying38 rfl (by kernel_rfl)
    · exact ((hB2.out.setCell (p := ⟨w.heap.size, 0, none⟩) (Nat.le_refl _) _).setCell (p := ⟨w.heap.size, 1, none⟩) (Nat.le_refl _) _).setCell (p := ⟨w.heap.size, 2, none⟩) (Nat.le_refl _) _
  | true =>
    obtain ⟨x, hx1, hx2, hx3⟩ := pos_get h2.ok.asc hh
    obtain ⟨hlt, hx1⟩ := List.getElem?_eq_some_iff.1 hx1
    have i1 : ((posK k s.L : Nat) : Int) < (s.L.length : Int) := by omega
    have hl9 : (s.L.length : Int) ≤ 262144 := by have := h2.ok.len; omega
    have d2 := h2.cells.2.2
    obtain ⟨b, o, rfl, _, _, y0, y1, y2, y3⟩ := rd_kv h2.rd hlt
    rw [hx1] at y1 y2 y3
    have hval := hid hx3
    clear hx1 hx2 hx3 y0 hh h2 HH
    generalize posK k s.L = i at *
    generalize x.2 = v at *
    go_wp2_with fail
    refine bodyPost_ret (v := .agg #[.int .i64 v.k, .int .i64 v.n, .string v.s]) ?_ rfl ⟨by rw [← hval.out], ?_⟩
    · exact results_cell_row (P := Tryz.prog) rfl _ _ w.heap.size 38 _ (0, 0) _ rfl (show Blk _ _ _ #[.int .i64 v.k, .int .i64 v.n, .string v.s] from by simpa using ((k2.out.set_ 0 _).set_ 1 _).set_ 2 _) Tryz.underlying38 rfl (by kernel_rfl)
    · exact ((hB2.out.setCell (p := ⟨w.heap.size, 0, none⟩) (Nat.le_refl _) _).setCell (p := ⟨w.heap.size, 1, none⟩) (Nat.le_refl _) _).setCell (p := ⟨w.heap.size, 2, none⟩) (Nat.le_refl _) _
set_option maxRecDepth 100000 in
theorem sroom_any (h : PAt S w g s) : Calls Tryz.prog 50 #[.pointer (some ⟨g, 0, none⟩)] w fun e w' => e = .returned (.int .i64 s.room) ∧ w' = w := by
  obtain ⟨cb, cc, mb, vb, h⟩ := h
  have c1 := h.cells.1
  clear h
  go_enter Tryz.func50, Tryz.ntmps50
  go_wp2_with fail
  go_ret
  exact ⟨rfl, rfl⟩
set_option maxRecDepth 100000 in
theorem claims_out (h : PAt S w g s) (p : Int) (hp : p < 0 ∨ (s.parts : Int) ≤ p) : Calls Tryz.prog 53 #[.pointer (some ⟨g, 0, none⟩), .int .i64 p] w fun e w' => e = .returned (.int .i64 0) ∧ w' = w := by
  have hpt := hid (parts_any h)
  clear h
  by_cases h0 : p < 0
  · have t1 : decide (p < 0) = true := decide_eq_true h0
    clear h0 hp
    go_enter Tryz.func53, Tryz.ntmps53
    go_wp2_with fail
    go_ret
    exact ⟨rfl, rfl⟩
  · have t1 : decide (p < 0) = false := decide_eq_false h0
    have t2 : decide ((s.parts : Int) ≤ p) = true := decide_eq_true (by omega)
    clear h0 hp
    go_enter Tryz.func53, Tryz.ntmps53
    go_wp2_with fail
    refine hpt.out.mono ?_
    rintro e wq ⟨rfl, hwq⟩
    obtain rfl := hwq.symm
    go_wp2_with fail
    go_ret
    exact ⟨rfl, rfl⟩
theorem claimsI_any (h : PAt S w g s) (p : Int) : Calls Tryz.prog 53 #[.pointer (some ⟨g, 0, none⟩), .int .i64 p] w fun e w' => e = .returned (.int .i64 (cntI s.parts p s.L : Nat)) ∧ w' = w := by
  by_cases h0 : p < 0 ∨ (s.parts : Int) ≤ p
  · rw [cntI_out s.L (by have := h.ok.parts; omega) h0]
    exact claims_out h p h0
  · obtain ⟨q, rfl⟩ : ∃ q : Nat, p = q := ⟨p.toNat, by omega⟩
    rw [cntI_nat]
    exact claims_any h q (by omega)
set_option maxRecDepth 100000 in
theorem vdump_any (h : VAt S w g s.L) (hok : s.Ok) : Calls Tryz.prog 27 #[.pointer (some ⟨g, 0, none⟩)] w fun e w' => ∃ A c, e = .returned (.slice A (dumpL s.L).length c) ∧ w'.ownsRow (w.heap.size + 1) 70 4 (.slice A (dumpL s.L).length c) (dumpL s.L).length (kvCells (dumpL s.L)) ∧ Below w.heap.size w w' := by
  obtain ⟨vb, h⟩ := h
  have c2 : w.cell? ⟨g, 0, none⟩ = some (.map (some vb)) := h.blk.cell 0
  have hd := hid (dump_any h.vals hok)
  clear h
  go_enter Tryz.func27, Tryz.ntmps27
  go_wp2_with fail
  refine hd.out.mono ?_
  rintro e w2 ⟨A, c, rfl, h1, h2⟩
  have h1 := hid h1
  have h2 := hid h2
  go_wp2_with fail
  go_ret
  exact ⟨A, c, rfl, h1.out, h2.out⟩
end
end Go.Proofs.YtphglnenafdkaaaGreatDoor

namespace Go.Proofs.YtphglnenafdkaaaGreatDoor
end Go.Proofs.YtphglnenafdkaaaGreatDoor

namespace Go.Proofs.YtphglnenafdkaaaGreatDoor
open Go.RowKit
set_option linter.unusedVariables false
set_option linter.unusedSimpArgs false

theorem kv_oneC (L : List Kv) : ∀ v ∈ kvCells L, v.oneCell' = true := by
  intro v hv
  unfold kvCells at hv
  obtain ⟨x, _, hx⟩ := List.mem_flatMap.1 hv
  simp at hx
  rcases hx with rfl | rfl | rfl | rfl <;> rfl
section
variable {S : Nat → Prop} {w w' : World} {r : Nat} {s : St}
set_option maxRecDepth 100000 in
set_option maxHeartbeats 4000000 in
theorem rcopy_any (h : RAt S w r s) : Calls Tryz.prog 20 #[.pointer (some ⟨r, 0, none⟩)] w fun e w' => ∃ S' q, e = .returned (.pointer (some ⟨q, 0, none⟩)) ∧ RAt S' w' q s ∧ (∀ j, S' j → w.heap.size ≤ j) ∧ Below w.heap.size w w' := by
  obtain ⟨A, c, h⟩ := h
  have hlen := hid h.ok.len
  have hok := hid h.ok
  have hrd0 := h.rd.all
  obtain ⟨ip, hip, hp0, hp1, hp2⟩ := info_parts info_item
  have hX0 := fun W (hW : Below w.heap.size w W) => (h.below hW).cells
  go_enter Tryz.func20, Tryz.ntmps20
  go_upto_region 1 with fail
  have hX := hid hX0
  have hrd := hid hrd0
  clear hX0 hrd0 h
  refine wp_region_held_drew (S := fun w' => Below w.heap.size w w') (by kernel_rfl) ?_ (fun hHeld => ?_)
  · exact (Below.refl _ _).drew
  have hB1 := hid ((Below.refl w.heap.size w).drew)
  generalize World.drew w = w1 at *
  refine wpAnyH_take (i := 0) (v := ?v1) rfl (by kernel_rfl) (by kernel_rfl) (by kernel_rfl) (fun _ _ _ h => h) (Or.inl ⟨by rfl, ?hy1⟩) (by assumption) ?rest1
  case hy1 => intro w' hSw; obtain ⟨q0, q1, q2⟩ := hX.out w' hSw; (try dsimp only at hSw); go_simp; try with_reducible rfl
  (try simp only [Act.put, List.setIfInBounds_toArray, List.set_cons_zero, List.set_cons_succ, List.getElem_toArray, List.getElem_cons_zero, List.getElem_cons_succ])
  refine wpAnyH_take (i := 1) (v := ?v2) rfl (by kernel_rfl) (by kernel_rfl) (by kernel_rfl) (fun _ _ _ h => h) (Or.inl ⟨by rfl, ?hy2⟩) (by assumption) ?rest2
  case hy2 => intro w' hSw; obtain ⟨q0, q1, q2⟩ := hX.out w' hSw; (try dsimp only at hSw); go_simp; try with_reducible rfl
  (try simp only [Act.put, List.setIfInBounds_toArray, List.set_cons_zero, List.set_cons_succ, List.getElem_toArray, List.getElem_cons_zero, List.getElem_cons_succ])
  refine wpAnyH_take (i := 2) (v := ?v3) rfl (by kernel_rfl) (by kernel_rfl) (by kernel_rfl) (fun _ _ _ h => h) (Or.inl ⟨by rfl, ?hy3⟩) (by assumption) ?rest3
  case hy3 => intro w' hSw; obtain ⟨q0, q1, q2⟩ := hX.out w' hSw; (try dsimp only at hSw); go_simp; try with_reducible rfl
  (try simp only [Act.put, List.setIfInBounds_toArray, List.set_cons_zero, List.set_cons_succ, List.getElem_toArray, List.getElem_cons_zero, List.getElem_cons_succ])
  refine wpAnyH_take (i := 3) (v := ?v4) rfl (by kernel_rfl) (by kernel_rfl) (by kernel_rfl) (fun _ _ _ h => h) (Or.inl ⟨by rfl, ?hy4⟩) (by assumption) ?rest4
  case hy4 => intro w' hSw; obtain ⟨q0, q1, q2⟩ := hX.out w' hSw; (try dsimp only at hSw); go_simp; try with_reducible rfl
  (try simp only [Act.put, List.setIfInBounds_toArray, List.set_cons_zero, List.set_cons_succ, List.getElem_toArray, List.getElem_cons_zero, List.getElem_cons_succ])
  refine wpAnyH_take (i := 4) (v := ?v5) rfl (by kernel_rfl) (by kernel_rfl) (by kernel_rfl) (fun _ _ _ h => h) (Or.inl ⟨by rfl, ?hy5⟩) (by assumption) ?rest5
  case hy5 => intro w' hSw; obtain ⟨q0, q1, q2⟩ := hX.out w' hSw; (try dsimp only at hSw); go_simp; try with_reducible rfl
  (try simp only [Act.put, List.setIfInBounds_toArray, List.set_cons_zero, List.set_cons_succ, List.getElem_toArray, List.getElem_cons_zero, List.getElem_cons_succ])
  refine wpAnyH_take (i := 5) (v := ?v6) rfl (by kernel_rfl) (by kernel_rfl) (by kernel_rfl) (fun _ _ _ h => h) (Or.inl ⟨by rfl, ?hy6⟩) (by assumption) ?rest6
  case hy6 => intro w' hSw; obtain ⟨q0, q1, q2⟩ := hX.out w' hSw; (try dsimp only at hSw); go_simp; try with_reducible rfl
  (try simp only [Act.put, List.setIfInBounds_toArray, List.set_cons_zero, List.set_cons_succ, List.getElem_toArray, List.getElem_cons_zero, List.getElem_cons_succ])
  refine wpAnyH_take (i := 6) (v := ?v7) rfl (by kernel_rfl) (by kernel_rfl) (by kernel_rfl) (fun _ _ _ h => h) (Or.inl ⟨by rfl, ?hy7⟩) (by assumption) ?rest7
  case hy7 => intro w' hSw; obtain ⟨q0, q1, q2⟩ := hX.out w' hSw; (try dsimp only at hSw); go_simp; try with_reducible rfl
  (try simp only [Act.put, List.setIfInBounds_toArray, List.set_cons_zero, List.set_cons_succ, List.getElem_toArray, List.getElem_cons_zero, List.getElem_cons_succ])
  refine wpAnyH_take (i := 7) (v := ?v8) rfl (by kernel_rfl) (by kernel_rfl) (by kernel_rfl) (fun _ _ _ h => h) (Or.inl ⟨by rfl, ?hy8⟩) (by assumption) ?rest8
  case hy8 => intro w' hSw; obtain ⟨q0, q1, q2⟩ := hX.out w' hSw; (try dsimp only at hSw); go_simp; try with_reducible rfl
  (try simp only [Act.put, List.setIfInBounds_toArray, List.set_cons_zero, List.set_cons_succ, List.getElem_toArray, List.getElem_cons_zero, List.getElem_cons_succ])
  refine wpAnyH_take (i := 9) (v := ?v9) rfl (by kernel_rfl) (by kernel_rfl) (by kernel_rfl) (fun _ _ _ h => h) (Or.inl ⟨by rfl, ?hy9⟩) (by assumption) ?rest9
  case hy9 => intro w' hSw; obtain ⟨q0, q1, q2⟩ := hX.out w' hSw; (try dsimp only at hSw); go_simp; try with_reducible rfl
  (try simp only [Act.put, List.setIfInBounds_toArray, List.set_cons_zero, List.set_cons_succ, List.getElem_toArray, List.getElem_cons_zero, List.getElem_cons_succ])
  refine wpAnyH_take (i := 10) (v := ?v10) rfl (by kernel_rfl) (by kernel_rfl) (by kernel_rfl) (fun _ _ _ h => h) (Or.inl ⟨by rfl, ?hy10⟩) (by assumption) ?rest10
  case hy10 => intro w' hSw; obtain ⟨q0, q1, q2⟩ := hX.out w' hSw; (try dsimp only at hSw); go_simp; try with_reducible rfl
  (try simp only [Act.put, List.setIfInBounds_toArray, List.set_cons_zero, List.set_cons_succ, List.getElem_toArray, List.getElem_cons_zero, List.getElem_cons_succ])
  refine wpAnyH_take (i := 11) (v := ?v11) rfl (by kernel_rfl) (by kernel_rfl) (by kernel_rfl) (fun _ _ _ h => h) (Or.inl ⟨by rfl, ?hy11⟩) (by assumption) ?rest11
  case hy11 => intro w' hSw; obtain ⟨q0, q1, q2⟩ := hX.out w' hSw; (try dsimp only at hSw); go_simp; try with_reducible rfl
  (try simp only [Act.put, List.setIfInBounds_toArray, List.set_cons_zero, List.set_cons_succ, List.getElem_toArray, List.getElem_cons_zero, List.getElem_cons_succ])
  refine wpAnyH_take (i := 12) (v := ?v12) rfl (by kernel_rfl) (by kernel_rfl) (by kernel_rfl) (fun _ _ _ h => h) (Or.inl ⟨by rfl, ?hy12⟩) (by assumption) ?rest12
  case hy12 => intro w' hSw; obtain ⟨q0, q1, q2⟩ := hX.out w' hSw; (try dsimp only at hSw); go_simp; try with_reducible rfl
  (try simp only [Act.put, List.setIfInBounds_toArray, List.set_cons_zero, List.set_cons_succ, List.getElem_toArray, List.getElem_cons_zero, List.getElem_cons_succ])
  refine wpAnyH_ready (rs := [8]) (by kernel_rfl) (by simp) ?_
  refine AllReadyH.cons rfl (fun K hK => ?_) AllReadyH.nil
  go_simp
  refine hK.out _ _ ?_ (fun hHeld => ?_)
  · exact hB1.out.alloc hB1.out.size _
  clear hK K
  (try simp only [Act.put, List.setIfInBounds_toArray, List.set_cons_zero, List.set_cons_succ, List.getElem_toArray, List.getElem_cons_zero, List.getElem_cons_succ])
  refine wpAnyH_ready (rs := [13]) (by kernel_rfl) (by simp) ?_
  refine AllReadyH.cons rfl (fun K hK => ?_) AllReadyH.nil
  refine step_append_rd _ rfl (.tmp 11) (.tmp 15) 62 rfl w1.heap.size 70 ip _ 4 48 Tryz.underlying62 hip hp0 hp1 hp2 rfl (by omega) (.slice (some ⟨w1.heap.size, 0, none⟩) 0 0) 0 [] rfl (own_empty w1 70 4) (fun b => b < w.heap.size) A s.L.length c (kvCells s.L) rfl ((hrd.out.below_all hB1.out).alloc _) (kv_oneC s.L) (by have := hlen.out; simp only [maxLen]; omega) (by have := hlen.out; omega) (by simp) s.L.length (Nat.zero_add _) (kvCells s.L) rfl ?_
  intro A2 c2 w2 hown0 hg0 hat0
  have hown := hid hown0
  have hB2 := hid (below_of_copy hg0)
  clear hown0 hg0 hat0
  refine hK.out _ _ ?_ (fun hHeld => ?_)
  · exact hB1.out.trans (hB2.out.mono hB1.out.size)
  clear hK K
  (try simp only [Act.put, List.setIfInBounds_toArray, List.set_cons_zero, List.set_cons_succ, List.getElem_toArray, List.getElem_cons_zero, List.getElem_cons_succ])
  refine wpAnyH_take (i := 14) (v := ?v13) rfl (by kernel_rfl) (by kernel_rfl) (by kernel_rfl) (fun _ _ _ h => h) (Or.inl ⟨by rfl, ?hy13⟩) (by assumption) ?rest13
  case hy13 => intro w' hSw; (try dsimp only at hSw); go_simp; try with_reducible rfl
  (try simp only [Act.put, List.setIfInBounds_toArray, List.set_cons_zero, List.set_cons_succ, List.getElem_toArray, List.getElem_cons_zero, List.getElem_cons_succ])
  refine wpAnyH_ready (rs := [15]) (by kernel_rfl) (by simp) ?_
  refine AllReadyH.cons rfl (fun K hK => ?_) AllReadyH.nil
  go_simp
  have k3 := hid (Blk.new w2 94 #[.int .i64 s.parts, .int .i64 s.room, .slice A2 s.L.length c2])
  have hB3 := hid (hB2.out.alloc hB2.out.size (.cells #[.int .i64 s.parts, .int .i64 s.room, .slice A2 s.L.length c2] 94))
  have hs2 := hid hB2.out.size
  have hown3 := hid (own_below hown.out ((Below.refl w2.heap.size w2).alloc (Nat.le_refl _) (.cells #[.int .i64 s.parts, .int .i64 s.room, .slice A2 s.L.length c2] 94)))
  have hs3 := hid (show (w2.alloc (.cells #[.int .i64 s.parts, .int .i64 s.room, .slice A2 s.L.length c2] 94)).heap.size = w2.heap.size + 1 by simp)
  have hl2 := hid (hown.out.lt)
  refine hK.out _ _ ?_ (fun hHeld => ?_)
  · exact hB1.out.trans (hB3.out.mono hB1.out.size)
  clear hK K
  (try simp only [Act.put, List.setIfInBounds_toArray, List.set_cons_zero, List.set_cons_succ, List.getElem_toArray, List.getElem_cons_zero, List.getElem_cons_succ])
  refine wpAnyH_take (i := 16) (v := ?v14) rfl (by kernel_rfl) (by kernel_rfl) (by kernel_rfl) (fun _ _ _ h => h) (Or.inl ⟨by rfl, ?hy14⟩) (by assumption) ?rest14
  case hy14 => intro w' hSw; (try dsimp only at hSw); go_simp; try with_reducible rfl
  (try simp only [Act.put, List.setIfInBounds_toArray, List.set_cons_zero, List.set_cons_succ, List.getElem_toArray, List.getElem_cons_zero, List.getElem_cons_succ])
  refine wpAnyH_done (by kernel_rfl) ?_ _
  go_wp2_with fail
  go_ret
  have hs1 := hB1.out.size
  have hz2 := hs2.out
  have hz3 := hs3.out
  refine ⟨fun j => w1.heap.size ≤ j ∧ j < w2.heap.size + 1, w2.heap.size, rfl, ⟨A2, c2, k3.out, ?_, ?_, ⟨hz2, by omega⟩, fun j hj => by rw [hz3]; exact hj.2, hok.out⟩, fun j hj => Nat.le_trans hs1 hj.1, hB1.out.trans (hB3.out.mono hs1)⟩
  · have hl := hl2.out
    exact (Rd.of_own hown3.out).more fun b hb _ => by have := hl b hb.symm; exact ⟨⟨this.1, by omega⟩, by omega⟩
  · obtain ⟨A3, c3, e, f1, f2⟩ := own_form hown3.out
    injection e with e1 e2 e3
    subst e1 e3
    rcases hown3.out.2 with ⟨e, h0⟩ | ⟨q, cap, cur, e, _⟩
    · injection e with e1 e2 e3
      subst e1 e3
      exact .inl ⟨rfl, h0, rfl⟩
    · injection e with e1 e2 e3
      exact .inr ⟨⟨q, 0, e1⟩, f1, f2⟩
set_option maxRecDepth 100000 in
set_option maxHeartbeats 4000000 in
theorem rbytes_any (h : RAt S w r s) (hr : ∀ x ∈ s.L, x.2.rng) : Calls Tryz.prog 52 #[.pointer (some ⟨r, 0, none⟩)] w fun e w' => e = .returned (.string ⟨(bytesS s).toArray⟩) ∧ Below w.heap.size w w' := by
  obtain ⟨A, c, h⟩ := h
  have HH := hid h
  have HR := hid hr
  have hlen := hid h.ok.len
  have hpr := hid (show (0 : Int) ≤ s.parts ∧ (s.parts : Int) ≤ 64 by have := h.ok.parts; omega)
  have hrr := hid (show (0 : Int) ≤ s.room ∧ (s.room : Int) ≤ 4096 by have := h.ok.room; omega)
  have z1 : (dg s.parts).size ≤ 21 := dg_size (by omega) (by have := hpr.out; omega)
  have z2 : (dg s.room).size ≤ 21 := dg_size (by omega) (by have := hrr.out; omega)
  have z3 : ByteArray.size ⟨#[10]⟩ = 1 := rfl
  have hs1 : ∀ W, (Op.stringOp .add (dg s.parts) ⟨#[10]⟩).run Tryz.prog W = .ok (.string (dg s.parts ++ ⟨#[10]⟩)) W := fun W => run_string_add_sum W _ _ (by omega)
  have hs2 : ∀ W, (Op.stringOp .add (dg s.parts ++ ⟨#[10]⟩) (dg s.room)).run Tryz.prog W = .ok (.string (dg s.parts ++ ⟨#[10]⟩ ++ dg s.room)) W := fun W => run_string_add_sum W _ _ (by simp only [ByteArray.size_append]; omega)
  have hs3 : ∀ W, (Op.stringOp .add (dg s.parts ++ ⟨#[10]⟩ ++ dg s.room) ⟨#[10]⟩).run Tryz.prog W = .ok (.string (dg s.parts ++ ⟨#[10]⟩ ++ dg s.room ++ ⟨#[10]⟩)) W := fun W => run_string_add_sum W _ _ (by simp only [ByteArray.size_append]; omega)
  have hX := hid (fun W (hW : Below w.heap.size w W) => (h.below hW).cells)
  have hht := hid (head_text s)
  have hln := hid (bytesTo_len (s := s) (fun x hx => line_len (HH.out.ok.key x hx) (HH.out.ok.val x hx) (HR.out x hx)) (head_len (by have := hpr.out; omega) (by have := hrr.out; omega)) hlen.out)
  clear h hr z1 z2 z3
  go_enter Tryz.func52, Tryz.ntmps52
  go_upto_region 1 with fail
  refine wp_region_held_drew (S := fun w' => Below w.heap.size w w') (by kernel_rfl) ?_ (fun hHeld => ?_)
  · exact (Below.refl _ _).drew
  have hbd := hid ((Below.refl w.heap.size w).drew)
  generalize World.drew w = w1 at *
  refine wpAnyH_take (i := 0) (v := ?v15) rfl (by kernel_rfl) (by kernel_rfl) (by kernel_rfl) (fun _ _ _ h => h) (Or.inl ⟨by rfl, ?hy15⟩) (by assumption) ?rest15
  case hy15 => intro w' hSw; obtain ⟨q0, q1, q2⟩ := hX.out w' hSw; (try dsimp only at hSw); go_simp; try with_reducible rfl
  (try simp only [Act.put, List.setIfInBounds_toArray, List.set_cons_zero, List.set_cons_succ, List.getElem_toArray, List.getElem_cons_zero, List.getElem_cons_succ])
  refine wpAnyH_take (i := 1) (v := ?v16) rfl (by kernel_rfl) (by kernel_rfl) (by kernel_rfl) (fun _ _ _ h => h) (Or.inl ⟨by rfl, ?hy16⟩) (by assumption) ?rest16
  case hy16 => intro w' hSw; obtain ⟨q0, q1, q2⟩ := hX.out w' hSw; (try dsimp only at hSw); go_simp; try with_reducible rfl
  (try simp only [Act.put, List.setIfInBounds_toArray, List.set_cons_zero, List.set_cons_succ, List.getElem_toArray, List.getElem_cons_zero, List.getElem_cons_succ])
  refine wpAnyH_take (i := 2) (v := ?v17) rfl (by kernel_rfl) (by kernel_rfl) (by kernel_rfl) (fun _ _ _ h => h) (Or.inl ⟨by rfl, ?hy17⟩) (by assumption) ?rest17
  case hy17 => intro w' hSw; obtain ⟨q0, q1, q2⟩ := hX.out w' hSw; (try dsimp only at hSw); go_simp; try with_reducible rfl
  (try simp only [Act.put, List.setIfInBounds_toArray, List.set_cons_zero, List.set_cons_succ, List.getElem_toArray, List.getElem_cons_zero, List.getElem_cons_succ])
  refine wpAnyH_take (i := 3) (v := ?v18) rfl (by kernel_rfl) (by kernel_rfl) (by kernel_rfl) (fun _ _ _ h => h) (Or.inl ⟨by rfl, ?hy18⟩) (by assumption) ?rest18
  case hy18 => intro w' hSw; obtain ⟨q0, q1, q2⟩ := hX.out w' hSw; (try dsimp only at hSw); go_simp; try with_reducible rfl
  (try simp only [Act.put, List.setIfInBounds_toArray, List.set_cons_zero, List.set_cons_succ, List.getElem_toArray, List.getElem_cons_zero, List.getElem_cons_succ])
  refine wpAnyH_take (i := 6) (v := ?v19) rfl (by kernel_rfl) (by kernel_rfl) (by kernel_rfl) (fun _ _ _ h => h) (Or.inl ⟨by rfl, ?hy19⟩) (by assumption) ?rest19
  case hy19 => intro w' hSw; obtain ⟨q0, q1, q2⟩ := hX.out w' hSw; (try dsimp only at hSw); go_simp; try with_reducible rfl
  (try simp only [Act.put, List.setIfInBounds_toArray, List.set_cons_zero, List.set_cons_succ, List.getElem_toArray, List.getElem_cons_zero, List.getElem_cons_succ])
  refine wpAnyH_take (i := 7) (v := ?v20) rfl (by kernel_rfl) (by kernel_rfl) (by kernel_rfl) (fun _ _ _ h => h) (Or.inl ⟨by rfl, ?hy20⟩) (by assumption) ?rest20
  case hy20 => intro w' hSw; obtain ⟨q0, q1, q2⟩ := hX.out w' hSw; (try dsimp only at hSw); go_simp; try with_reducible rfl
  (try simp only [Act.put, List.setIfInBounds_toArray, List.set_cons_zero, List.set_cons_succ, List.getElem_toArray, List.getElem_cons_zero, List.getElem_cons_succ])
  refine wpAnyH_take (i := 8) (v := ?v21) rfl (by kernel_rfl) (by kernel_rfl) (by kernel_rfl) (fun _ _ _ h => h) (Or.inl ⟨by rfl, ?hy21⟩) (by assumption) ?rest21
  case hy21 => intro w' hSw; obtain ⟨q0, q1, q2⟩ := hX.out w' hSw; (try dsimp only at hSw); go_simp; try with_reducible rfl
  (try simp only [Act.put, List.setIfInBounds_toArray, List.set_cons_zero, List.set_cons_succ, List.getElem_toArray, List.getElem_cons_zero, List.getElem_cons_succ])
  refine wpAnyH_take (i := 9) (v := ?v22) rfl (by kernel_rfl) (by kernel_rfl) (by kernel_rfl) (fun _ _ _ h => h) (Or.inl ⟨by rfl, ?hy22⟩) (by assumption) ?rest22
  case hy22 => intro w' hSw; obtain ⟨q0, q1, q2⟩ := hX.out w' hSw; (try dsimp only at hSw); go_simp; try with_reducible rfl
  (try simp only [Act.put, List.setIfInBounds_toArray, List.set_cons_zero, List.set_cons_succ, List.getElem_toArray, List.getElem_cons_zero, List.getElem_cons_succ])
  refine wpAnyH_ready (rs := [4]) (by kernel_rfl) (by simp) ?_
  refine AllReadyH.cons rfl (fun K hK => ?_) AllReadyH.nil
  go_simp
  refine (rDigits_any _ (by have := hpr.out; omega) (by have := hpr.out; omega) _).mono ?_
  rintro e wq ⟨rfl, hwq⟩
  obtain rfl := hwq.symm
  rw [show (⟨(Lib.itoa (s.parts : Int)).toArray⟩ : ByteArray) = dg s.parts from rfl]
  refine hK.out _ _ ?_ (fun hHeld => ?_)
  · exact hbd.out
  clear hK K
  (try simp only [Act.put, List.setIfInBounds_toArray, List.set_cons_zero, List.set_cons_succ, List.getElem_toArray, List.getElem_cons_zero, List.getElem_cons_succ])
  refine wpAnyH_take (i := 5) (v := ?v23) rfl (by kernel_rfl) (by kernel_rfl) (by kernel_rfl) (fun _ _ _ h => h) (Or.inl ⟨by rfl, ?hy23⟩) (by assumption) ?rest23
  case hy23 => intro w' hSw; have q := hs1; (try dsimp only at hSw); go_simp; try with_reducible rfl
  (try simp only [Act.put, List.setIfInBounds_toArray, List.set_cons_zero, List.set_cons_succ, List.getElem_toArray, List.getElem_cons_zero, List.getElem_cons_succ])
  refine wpAnyH_ready (rs := [10]) (by kernel_rfl) (by simp) ?_
  refine AllReadyH.cons rfl (fun K hK => ?_) AllReadyH.nil
  go_simp
  refine (rDigits_any _ (by have := hrr.out; omega) (by have := hrr.out; omega) _).mono ?_
  rintro e wq ⟨rfl, hwq⟩
  obtain rfl := hwq.symm
  rw [show (⟨(Lib.itoa (s.room : Int)).toArray⟩ : ByteArray) = dg s.room from rfl]
  refine hK.out _ _ ?_ (fun hHeld => ?_)
  · exact hbd.out
  clear hK K
  (try simp only [Act.put, List.setIfInBounds_toArray, List.set_cons_zero, List.set_cons_succ, List.getElem_toArray, List.getElem_cons_zero, List.getElem_cons_succ])
  refine wpAnyH_take (i := 11) (v := ?v24) rfl (by kernel_rfl) (by kernel_rfl) (by kernel_rfl) (fun _ _ _ h => h) (Or.inl ⟨by rfl, ?hy24⟩) (by assumption) ?rest24
  case hy24 => intro w' hSw; have q := hs2; (try dsimp only at hSw); go_simp; try with_reducible rfl
  (try simp only [Act.put, List.setIfInBounds_toArray, List.set_cons_zero, List.set_cons_succ, List.getElem_toArray, List.getElem_cons_zero, List.getElem_cons_succ])
  refine wpAnyH_take (i := 12) (v := ?v25) rfl (by kernel_rfl) (by kernel_rfl) (by kernel_rfl) (fun _ _ _ h => h) (Or.inl ⟨by rfl, ?hy25⟩) (by assumption) ?rest25
  case hy25 => intro w' hSw; have q := hs3; (try dsimp only at hSw); go_simp; try with_reducible rfl
  (try simp only [Act.put, List.setIfInBounds_toArray, List.set_cons_zero, List.set_cons_succ, List.getElem_toArray, List.getElem_cons_zero, List.getElem_cons_succ])
  refine wpAnyH_take (i := 13) (v := ?v26) rfl (by kernel_rfl) (by kernel_rfl) (by kernel_rfl) (fun _ _ _ h => h) (Or.inl ⟨by rfl, ?hy26⟩) (by assumption) ?rest26
  case hy26 => intro w' hSw; (try dsimp only at hSw); go_simp; try with_reducible rfl
  (try simp only [Act.put, List.setIfInBounds_toArray, List.set_cons_zero, List.set_cons_succ, List.getElem_toArray, List.getElem_cons_zero, List.getElem_cons_succ])
  refine wpAnyH_done (by kernel_rfl) ?_ _
  go_wp2_with fail
  clear hs1 hs2 hs3
  obtain ⟨t0, ht0⟩ : ∃ t0, t0 = dg s.parts ++ ⟨#[10]⟩ ++ dg s.room ++ ⟨#[10]⟩ := ⟨_, rfl⟩
  have ht0' := hid (show t0.data.toList = bytesTo s 0 by rw [ht0, hht.out, bytesTo_zero])
  rw [← ht0]
  clear ht0 hX hHeld
  go_loopw [3, 4] (fun u v wr => ∃ (t : ByteArray) (i : Nat), u = .string t ∧ v = .int .i64 i ∧ i ≤ s.L.length ∧ t.data.toList = bytesTo s i ∧ Below w.heap.size w wr) (fun u v _ => s.L.length - (intOf v).toNat)
  case atStart => exact ⟨t0, 0, rfl, rfl, Nat.zero_le _, ht0'.out, hbd.out⟩
  case round =>
    clear ht0' hht hbd
    obtain ⟨t, i, rfl, rfl, hi, ht, hB0⟩ := hrel
    have ht := hid ht
    have hB := hid hB0
    clear hB0
    have hP := HH.out.below hB.out
    have d2 := hP.cells.2.2
    have hnn : (s.L.length : Int) ≤ 262144 := by have := hlen.out; omega
    by_cases hlt : i < s.L.length
    · have i1 : (i : Int) < (s.L.length : Int) := by omega
      obtain ⟨b, o, rfl, _, hbl, x0, x1, x2, x3⟩ := rd_kv hP.rd hlt
      obtain ⟨x, hx⟩ : ∃ x, x = s.L[i] := ⟨_, rfl⟩
      have hmem : x ∈ s.L := by rw [hx]; exact List.getElem_mem hlt
      rw [← hx] at x0 x1 x2 x3
      have hvk := hid (HH.out.ok.key x hmem)
      have hvo := hid (HH.out.ok.val x hmem)
      have hvr := hid (HR.out x hmem)
      have hstep := hid (bytesTo_step s hlt)
      rw [← hx] at hstep
      have hX := hid (fun W (hW : Below wr.heap.size wr W) => (show W.cell? ⟨r, 2, none⟩ = some (.slice (some ⟨b, o, none⟩) s.L.length c) ∧ W.cell? ⟨b, o + i * 4, none⟩ = some (.string x.1) from ⟨(hP.below hW).cells.2.2, cell_bel hW hbl x0⟩))
      have hpr9 := hid (rprint_any x.2 wr (by
        rcases ok_forms hvo.out with e | ⟨_, e⟩ | ⟨_, _, e, _⟩
        · rw [e]; decide
        · rw [e]; decide
        · omega) hvr.out)
      have hlt9 := hid hlt
      have hi9 : IntKind.i64.wrap ((i : Int) + 1) = (i : Int) + 1 := by rw [IntKind.wrap_i64]; omega
      clear hx hmem hP hlt hbl
      go_wp2_with fail
      refine hpr9.out.mono ?_
      rintro e wq ⟨rfl, hbq⟩
      rw [show (⟨(printL x.2).toArray⟩ : ByteArray) = pt x.2 from rfl]
      obtain ⟨d2, x0⟩ := hX.out _ hbq
      have hBq := hid (hB.out.trans (hbq.mono hB.out.size))
      have z1 : x.1.size ≤ 32 := by have := hvk.out; unfold validK at this; simp at this; omega
      have z2 : (pt x.2).size ≤ 200 := pt_size hvo.out hvr.out
      have z3 : ByteArray.size ⟨#[10]⟩ = 1 := rfl
      have z4 : ByteArray.size ⟨#[32]⟩ = 1 := rfl
      have z5 : t.size ≤ 100000000 := by
        have h1 : t.size = t.data.toList.length := by rw [Array.length_toList]; rfl
        rw [h1, ht.out]; exact hln.out i
      have hs1 : ∀ W, (Op.stringOp .add t x.1).run Tryz.prog W = .ok (.string (t ++ x.1)) W := fun W => run_string_add_sum W _ _ (by omega)
      have hs2 : ∀ W, (Op.stringOp .add (t ++ x.1) ⟨#[32]⟩).run Tryz.prog W = .ok (.string (t ++ x.1 ++ ⟨#[32]⟩)) W := fun W => run_string_add_sum W _ _ (by simp only [ByteArray.size_append]; omega)
      have hs3 : ∀ W, (Op.stringOp .add (t ++ x.1 ++ ⟨#[32]⟩) (pt x.2)).run Tryz.prog W = .ok (.string (t ++ x.1 ++ ⟨#[32]⟩ ++ pt x.2)) W := fun W => run_string_add_sum W _ _ (by simp only [ByteArray.size_append]; omega)
      have hs4 : ∀ W, (Op.stringOp .add (t ++ x.1 ++ ⟨#[32]⟩ ++ pt x.2) ⟨#[10]⟩).run Tryz.prog W = .ok (.string (t ++ x.1 ++ ⟨#[32]⟩ ++ pt x.2 ++ ⟨#[10]⟩)) W := fun W => run_string_add_sum W _ _ (by simp only [ByteArray.size_append]; omega)
      have hfin : Hid ((t ++ x.1 ++ ⟨#[32]⟩ ++ pt x.2 ++ ⟨#[10]⟩ : ByteArray).data.toList = bytesTo s (i + 1)) := hid (by
        rw [hstep.out, ← ht.out, ← line_text x]
        simp only [ByteArray.data_append, Array.toList_append, List.append_assoc])
      clear hbq z1 z2 z3 z4 z5 hpr9 hX x1 x2 x3
      go_wp2_with fail
      generalize t ++ x.1 ++ ⟨#[32]⟩ ++ pt x.2 ++ ⟨#[10]⟩ = t2 at *
      clear hs1 hs2 hs3 hs4
      go_roundw
      case rel => exact ⟨t2, i + 1, rfl, by go_num, hlt9.out, hfin.out, hBq.out⟩
      case measure => simp [intOf]; have := hlt9.out; omega
    · obtain rfl : i = s.L.length := by omega
      have hfin : Hid (t = ⟨(bytesS s).toArray⟩) := hid (by
        apply ByteArray.ext
        apply Array.toList_inj.1
        rw [ht.out, bytesTo_all])
      clear hP
      go_wp2_with fail
      go_ret
      exact ⟨by rw [hfin.out]; rfl, hB.out⟩
end
end Go.Proofs.YtphglnenafdkaaaGreatDoor

namespace Go.Proofs.YtphglnenafdkaaaGreatDoor
open Go.RowKit
set_option linter.unusedVariables false
set_option linter.unusedSimpArgs false

theorem dumpL_snoc (L : List Kv) (x : Kv) : dumpL (L ++ [x]) = dumpL L ++ (if x.2.k = 0 then [] else [x]) := by
  unfold dumpL
  rw [List.filter_append]
  by_cases h : x.2.k = 0 <;> simp [h]
section
variable {S : Nat → Prop} {w w' : World} {r : Nat} {s : St}
set_option maxRecDepth 100000 in
set_option maxHeartbeats 4000000 in
theorem rdump_any (h : RAt S w r s) : Calls Tryz.prog 28 #[.pointer (some ⟨r, 0, none⟩)] w fun e w' => ∃ A c, e = .returned (.slice A (dumpL s.L).length c) ∧ w'.ownsRow w.heap.size 70 4 (.slice A (dumpL s.L).length c) (dumpL s.L).length (kvCells (dumpL s.L)) ∧ Below w.heap.size w w' := by
  obtain ⟨B, d, h⟩ := h
  have HH := hid h
  have hlen := hid h.ok.len
  obtain ⟨ip, hip, hp0, hp1, hp2⟩ := info_parts info_item
  clear h
  go_enter Tryz.func28, Tryz.ntmps28
  go_wp2_with fail
  go_loopw [3, 4] (fun u v wr => ∃ (k : Nat) (out : List Kv) (A : Option Addr) (c : Nat), u = .slice A out.length c ∧ v = .int .i64 k ∧ k ≤ s.L.length ∧ out = dumpL (s.L.take k) ∧ wr.ownsRow w.heap.size 70 4 (.slice A out.length c) out.length (kvCells out) ∧ Below w.heap.size w wr) (fun u v _ => s.L.length - (intOf v).toNat)
  case atStart => exact ⟨0, [], none, 0, rfl, rfl, Nat.zero_le _, rfl, World.ownsRow_nil _ _ _ _, Below.refl _ _⟩
  case round =>
    obtain ⟨k, out, A, c, rfl, rfl, hk, ho0, hown0, hB0⟩ := hrel
    have ho := hid ho0
    have hown := hid hown0
    have hB := hid hB0
    clear ho0 hown0 hB0
    have hP := HH.out.below hB.out
    have d2 : wr.cell? ⟨r, 2, none⟩ = some (.slice B s.L.length d) := hP.cells.2.2
    by_cases hlt : k < s.L.length
    · have i1 : (k : Int) < (s.L.length : Int) := by omega
      have hl9 : (s.L.length : Int) ≤ 262144 := by have := hlen.out; omega
      obtain ⟨b, o, rfl, _, _, x0, x1, x2, x3⟩ := rd_kv hP.rd hlt
      have htk := hid (take_snoc hlt)
      obtain ⟨x, hx⟩ : ∃ x, x = s.L[k] := ⟨_, rfl⟩
      rw [← hx] at x0 x1 x2 x3 htk
      have hol : Hid (out.length ≤ 262144) := hid (by
        have h1 : out.length ≤ (s.L.take k).length := by rw [ho.out]; exact List.length_filter_le _ _
        have := hlen.out
        simp at h1; omega)
      clear hP hx
      by_cases hz : x.2.k = 0
      · have tz : (x.2.k != 0) = false := by simp [hz]
        have hn : Hid (out = dumpL (s.L.take (k + 1))) := hid (by rw [htk.out, dumpL_snoc, if_pos hz, ho.out]; simp)
        clear hz
        go_wp2_with fail
        go_roundw
        case rel => exact ⟨k + 1, out, A, c, rfl, by go_num, hlt, hn.out, hown.out, hB.out⟩
        case measure => simp [intOf]; omega
      · have tz : (x.2.k != 0) = true := by simp [hz]
        have hn : Hid (out ++ [x] = dumpL (s.L.take (k + 1))) := hid (by rw [htk.out, dumpL_snoc, if_neg hz, ho.out])
        clear hz
        go_wp2_with (
          at_builtin
          refine wpList_append_rd _ rfl (.tmp 24) (.tmp 32) 62 rfl w.heap.size 70 ip _ 4 48 Tryz.underlying62 hip hp0 hp1 hp2 rfl (by omega) (.slice A out.length c) out.length (kvCells out) rfl (hown.out.alloc _) (fun b => b = wr.heap.size) (some ⟨wr.heap.size, 0, none⟩) 1 1 (encI x) rfl (Rd.new _ 70 4 1 (encI x).toArray _ rfl rfl) (encI_one _) (by have := hol.out; simp only [maxLen]; omega) (by have := hol.out; omega) (by have h1 := hB.out.size; simp; omega) ?_
          intro v3 w3 hown3 hg3 hat3
          obtain ⟨A3, c3, rfl, hc3, _⟩ := own_form hown3)
        go_roundw
        case rel => exact ⟨k + 1, out ++ [x], A3, c3, by simp, by go_num, hlt, hn.out, by rw [kvCells_snoc, List.length_append]; exact hown3, (hB.out.alloc hB.out.size _).grown hg3 (by have := hB.out.size; simp; omega) fun q hq => (hown.out.lt q hq).1⟩
        case measure => simp [intOf]; omega
    · obtain rfl : k = s.L.length := by omega
      have hn : Hid (out = dumpL s.L) := hid (by rw [ho.out, List.take_length])
      clear hP
      go_wp2_with fail
      go_ret
      rw [← hn.out]
      exact ⟨A, c, rfl, hown.out, hB.out⟩
end
end Go.Proofs.YtphglnenafdkaaaGreatDoor

namespace Go.Proofs.YtphglnenafdkaaaGreatDoor
open Go.RowKit
set_option linter.unusedVariables false
set_option linter.unusedSimpArgs false

theorem run_eqVal9998 (a b : Vl) (w : World) :
    (Op.equalIn 9999 38 (.agg #[.int .i64 a.k, .int .i64 a.n, .string a.s]) (.agg #[.int .i64 b.k, .int .i64 b.n, .string b.s])).run Tryz.prog w = .ok (decide (a = b)) w := by
  have ht : Tryz.prog.underlying 38 = some (.struct (Tryz.prog.fieldsOf 38)) := by kernel_rfl
  have hp : Tryz.prog.stoodInHeld 38 = false := by kernel_rfl
  rw [run_equalIn_agg w 9998 _ _ _ ht hp]
  have e : decide (a = b) = (a.k == b.k && (a.n == b.n && (a.s.toList == b.s.toList))) := by
    rw [bytes_dec, Bool.eq_iff_iff]
    simp only [decide_eq_true_eq, Bool.and_eq_true, beq_iff_eq]
    exact ⟨fun e => by subst e; simp, fun ⟨h1, h2, h3⟩ => by cases a; cases b; simp_all⟩
  rw [e]
  clear ht hp e
  simp only [Program.fieldsOf, Tryz.underlying38]
  go_simp
  by_cases h1 : a.k = b.k <;> by_cases h2 : a.n = b.n <;> by_cases h3 : a.s.toList = b.s.toList <;> simp [h1, h2, h3]
set_option maxRecDepth 100000 in
theorem run_eqItem (a b : Kv) (w : World) :
    (Op.equalIn 10000 70 (.agg #[.string a.1, .int .i64 a.2.k, .int .i64 a.2.n, .string a.2.s]) (.agg #[.string b.1, .int .i64 b.2.k, .int .i64 b.2.n, .string b.2.s])).run Tryz.prog w = .ok (decide (a = b)) w := by
  have ht : Tryz.prog.underlying 70 = some (.struct (Tryz.prog.fieldsOf 70)) := by kernel_rfl
  have hp : Tryz.prog.stoodInHeld 70 = false := by kernel_rfl
  have hv : ∀ w, (Op.equalIn 9999 38 (.agg #[.int .i64 a.2.k, .int .i64 a.2.n, .string a.2.s]) (.agg #[.int .i64 b.2.k, .int .i64 b.2.n, .string b.2.s])).run Tryz.prog w = .ok (decide (a.2 = b.2)) w := run_eqVal9998 a.2 b.2
  have e : decide (a = b) = ((a.1.toList == b.1.toList) && decide (a.2 = b.2)) := by
    rw [bytes_dec, Bool.eq_iff_iff]
    simp only [decide_eq_true_eq, Bool.and_eq_true]
    exact ⟨fun e => by subst e; simp, fun ⟨h1, h2⟩ => by obtain ⟨a1, a2⟩ := a; obtain ⟨b1, b2⟩ := b; simp_all⟩
  rw [e]
  generalize decide (a.2 = b.2) = r at *
  have he : (Op.equalIn 10000 70 (.agg #[.string a.1, .int .i64 a.2.k, .int .i64 a.2.n, .string a.2.s]) (.agg #[.string b.1, .int .i64 b.2.k, .int .i64 b.2.n, .string b.2.s])).run Tryz.prog w = (Op.eqFields 9999 #[.string a.1, .int .i64 a.2.k, .int .i64 a.2.n, .string a.2.s] #[.string b.1, .int .i64 b.2.k, .int .i64 b.2.n, .string b.2.s] (Tryz.prog.fieldsOf 70).toList).run Tryz.prog w := run_equalIn_agg w 9999 _ _ _ ht hp
  rw [he]
  clear he ht hp e
  simp only [Program.fieldsOf, Tryz.underlying70]
  have h9 := Tryz.underlying9
  obtain ⟨a1, ak, an, at_⟩ := a
  obtain ⟨b1, bk, bn, bt⟩ := b
  simp only at hv ⊢
  cases h1 : (a1.toList == b1.toList) <;> cases r <;> go_simp <;> simp_all
end Go.Proofs.YtphglnenafdkaaaGreatDoor

