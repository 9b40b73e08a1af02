/- value: ValueReads: the walk. -/
import Derived.Test.YtbnpidmlcjofiaaDoorJ12
namespace Go.Proofs.YtbnpidmlcjofiaaDoor
open Go.RowKit
set_option linter.unusedVariables false
set_option linter.unusedSimpArgs false

set_option maxRecDepth 100000 in
set_option maxHeartbeats 4000000 in
theorem reads_walk (s : ByteArray) (hs : s.size ≤ 140737488351232) (w : World) (he : Env w) : Calls Tryd.prog 4 #[.string s] w fun e w' => e = .returned (.bool true) ∧ Below w.heap.size w w' := by
  have he0 := hid he
  have hss := hid hs
  obtain ⟨p, hp⟩ : ∃ p, p = parseL s.data.toList := ⟨_, rfl⟩
  have hk := hid (parse_any s w hs he)
  rw [← hp] at hk
  have hk2 := hid (fun w he => rparse_any s w hs he)
  rw [← hp] at hk2
  have heqv := fun w => eql_vals p.v p.v w
  simp only [decide_true] at heqv
  have hgd := guardVal
  clear hp he hs
  go_enter Tryd.func4, Tryd.ntmps4
  go_wp2_with fail
  refine hk.out.mono ?_
  rintro e w1 ⟨rfl, hb10⟩
  have hb1 := hid hb10
  clear hb10 hk
  go_upto_region 2 with fail
  have kv2 := hid (Blk.new w1 24 #[.int .i64 p.v.k, .int .i64 p.v.n, .string p.v.s])
  have hB2 : Below w1.heap.size w1 (w1.alloc (.cells #[.int .i64 p.v.k, .int .i64 p.v.n, .string p.v.s] 24)) := (Below.refl _ _).alloc (Nat.le_refl _) _
  have hb2 := hid (hb1.out.trans (hB2.mono hb1.out.size))
  have he2 := hid (he0.out.below hb2.out)
  obtain ⟨g, hg⟩ : ∃ g, g = w1.heap.size := ⟨_, rfl⟩
  rw [← hg] at kv2
  generalize w1.alloc (.cells #[.int .i64 p.v.k, .int .i64 p.v.n, .string p.v.s] 24) = w2 at *
  clear hB2 hb1
  go_wp2_with fail
  rw [← hg]
  clear hg
  refine (hk2.out w2 he2.out).mono ?_
  rintro e w3 ⟨rfl, hb30⟩
  have hb3 := hid (hb2.out.trans (hb30.mono hb2.out.size))
  have kv3 := hid (kv2.out.below_all hb30)
  clear hb30 hb2 kv2 he2 hk2
  go_upto_region 3 with fail
  have kv4 := hid (Blk.new w3 24 #[.int .i64 p.v.k, .int .i64 p.v.n, .string p.v.s])
  have hB4 : Below w3.heap.size w3 (w3.alloc (.cells #[.int .i64 p.v.k, .int .i64 p.v.n, .string p.v.s] 24)) := (Below.refl _ _).alloc (Nat.le_refl _) _
  have hb4 := hid (hb3.out.trans (hB4.mono hb3.out.size))
  have he4 := hid (he0.out.below hb4.out)
  have kv5 := hid (kv3.out.below_all hB4)
  obtain ⟨q, hq⟩ : ∃ q, q = w3.heap.size := ⟨_, rfl⟩
  rw [← hq] at kv4
  have x0 := kv5.out.cell 0
  have x1 := kv5.out.cell 1
  have x2 := kv5.out.cell 2
  have y0 := kv4.out.cell 0
  have y1 := kv4.out.cell 1
  have y2 := kv4.out.cell 2
  simp only [List.getElem?_toArray, List.getElem?_cons_zero, List.getElem?_cons_succ] at x0 x1 x2 y0 y1 y2
  generalize w3.alloc (.cells #[.int .i64 p.v.k, .int .i64 p.v.n, .string p.v.s] 24) = w4 at *
  simp only [← hq]
  clear hB4 hb3 hq kv3
  go_wp2_with (first
    | (go_at_call 17; refine (num_any _ _).mono ?_; rintro e wq ⟨rfl, hwq⟩; obtain rfl := hwq.symm)
    | (go_at_call 14; refine (live_any _ he4.out).mono ?_; rintro e w5 ⟨rfl, hb50⟩; have hb5 := hid (hb4.out.trans (hb50.mono hb4.out.size)); clear hb50))
  go_ret
  exact ⟨rfl, hb5.out⟩
end Go.Proofs.YtbnpidmlcjofiaaDoor
