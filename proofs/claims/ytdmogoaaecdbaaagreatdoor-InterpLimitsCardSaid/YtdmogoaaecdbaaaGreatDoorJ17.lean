/- Texts of the proof, joined: IStart, IOf, WShelf, ISort, IKeys. -/
import Derived.Test.YtdmogoaaecdbaaaGreatDoorJ16
import Derived.Shelf.Strings.Builder1
import Derived.Shelf.Strings.Builder2
import Derived.Shelf.Small.Bits
import Derived.Shelf.Small.Strs
import Derived.Shelf.Strconv.Itoa0
import Derived.Shelf.Strconv.Itoa1
import Derived.Shelf.LaysM
import Derived.Shelf.Strconv.Itoa2
import Derived.Shelf.Strconv.Itoa3
import Derived.Shelf.Strconv.Itoa4
import Derived.Shelf.Strconv.ParseIntEmpty
import Derived.Shelf.Strconv.Clone
import Derived.Shelf.Strconv.SyntaxError
import Derived.Shelf.LaysC
import Derived.Shelf.Strconv.ToError
import Derived.Shelf.Strconv.Lower
import Derived.Shelf.Strconv.ParseUint10
import Derived.Shelf.Strconv.ParseUint10Empty
import Derived.Shelf.Strconv.ParseUint10Any
import Derived.Shelf.Strconv.ParseInt10
import Derived.Shelf.Strconv.RangeError
import Derived.Shelf.Strconv.ToErrorRange
import Derived.Shelf.Strconv.ParseUintEmpty
import Derived.Shelf.Strconv.ParseUint10b64
import Derived.Shelf.Strconv.ParseUint10b32
import Derived.Shelf.Strconv.ParseUint10b16
import Derived.Shelf.Strconv.ParseUint10b8
import Derived.Shelf.Strconv.ParseUint10At
import Derived.Shelf.Strconv.ParseInt10At64
import Derived.Shelf.Strconv.ParseInt10At32
import Derived.Shelf.Strconv.ParseInt10At16
import Derived.Shelf.Strconv.ParseInt10At8
import Derived.Shelf.Strconv.ParseInt10All
import Derived.Shelf.Strconv.ParseIntPublic10
import Derived.Shelf.Strconv.ErrVarParseInt
import Derived.Shelf.Strings.Search1
import Derived.Shelf.Sort.Plain
import Derived.Shelf.Bits.Mul64
import Derived.Ground.Names2Prog
import Derived.Shelf.Slices.In.SortNone
import Derived.Test.YtdmogoaaecdbaaaGreatDoorProg
import Derived.Test.YtdmogoaaecdbaaaGreatDoorJ04
import Derived.Test.YtdmogoaaecdbaaaGreatDoorJ05
import Derived.Test.YtdmogoaaecdbaaaGreatDoorJ06
namespace Go.Proofs.YtdmogoaaecdbaaaGreatDoor
open Go.RowKit
set_option linter.unusedVariables false
set_option linter.unusedSimpArgs false

/-- a checked outcome: a pointer, and the outcome's cell -/
theorem start_res {W : World} {n : Nat} {p c a : Value} {tmps : Array Value} (ha : Blk W n 29 #[c, a, .int .i64 0, .slice none 0 0, .slice none 0 0, .slice none 0 0, .slice none 0 0, .int .i64 0]) (h8 : tmps.getD 8 undef = p) (h9 : tmps.getD 9 undef = .pointer (some ⟨n, 0, none⟩)) (hone : c.cells = #[c] ∧ a.cells = #[a]) :
    (results Tryz.f39 tmps).run Tryz.prog W = .ok (.tuple #[p, .agg #[c, a, .int .i64 0, .slice none 0 0, .slice none 0 0, .slice none 0 0, .slice none 0 0, .int .i64 0]]) W := by
  have x0 := ha.cell 0
  have x1 := ha.cell 1
  have x2 := ha.cell 2
  have x3 := ha.cell 3
  have x4 := ha.cell 4
  have x5 := ha.cell 5
  have x6 := ha.cell 6
  have x7 := ha.cell 7
  simp only [List.getElem?_toArray, List.getElem?_cons_zero, List.getElem?_cons_succ] at x0 x1 x2 x3 x4 x5 x6 x7
  have g8 : tmps[8]?.getD undef = p := by simpa using h8
  have g9 : tmps[9]?.getD undef = .pointer (some ⟨n, 0, none⟩) := by simpa using h9
  simp [Go.results, Tryz.results39, asAddr, g8, g9, go_sem, x0, x1, x2, x3, x4, x5, x6, x7]
theorem neq_nilI (w : World) : (binOp .neq 79 .nilIface .nilIface).run Tryz.prog w = .ok (.bool false) w := by kernel_rfl
theorem neq_srcI (b : Nat) (w : World) : (binOp .neq 79 (.iface 41 (.pointer (some ⟨b, 0, none⟩))) .nilIface).run Tryz.prog w = .ok (.bool true) w := by kernel_rfl
def okA (v : Vl) : Bool := v.ok && decide (v.k ≠ 0)
section
variable {w w' : World} {p : Pr} {Ac Ai Aa : Option Addr} {cc ci ca : Nat} {args : List Vl} {Sp Sa : Nat → Prop}
set_option maxRecDepth 100000 in
set_option maxHeartbeats 2000000 in
theorem start_bad (sv : Value) (fuel : Int) (hp : PrIn Sp w Ac Ai p) (hc : p.check.1 ≠ 0) : Calls Tryz.prog 39 #[.agg #[.int .i64 p.args, .slice Ac p.cs.length cc, .slice Ai p.code.length ci], .slice Aa args.length ca, sv, .int .i64 fuel] w fun e w' => e = .returned (.tuple #[.pointer none, .agg #[.int .i64 p.check.1, .int .i64 p.check.2, .int .i64 0, .slice none 0 0, .slice none 0 0, .slice none 0 0, .slice none 0 0, .int .i64 0]]) ∧ Below w.heap.size w w' := by
  have t0 : (p.check.1 != 0) = true := by simpa using hc
  clear hc
  have hB0 : Below w.heap.size w ((w.alloc (.cells #[.int .i64 p.args, .slice Ac p.cs.length cc, .slice Ai p.code.length ci] 33)).alloc (.cells #[.int .i64 0, .int .i64 0, .int .i64 0, .slice none 0 0, .slice none 0 0, .slice none 0 0, .slice none 0 0, .int .i64 0] 29)) := below_two _ _
  have kp := hid (show Blk ((w.alloc (.cells #[.int .i64 p.args, .slice Ac p.cs.length cc, .slice Ai p.code.length ci] 33)).alloc (.cells #[.int .i64 0, .int .i64 0, .int .i64 0, .slice none 0 0, .slice none 0 0, .slice none 0 0, .slice none 0 0, .int .i64 0] 29)) w.heap.size 33 #[.int .i64 p.args, .slice Ac p.cs.length cc, .slice Ai p.code.length ci] from (Blk.new w _ _).alloc _)
  have ko := hid (show Blk ((w.alloc (.cells #[.int .i64 p.args, .slice Ac p.cs.length cc, .slice Ai p.code.length ci] 33)).alloc (.cells #[.int .i64 0, .int .i64 0, .int .i64 0, .slice none 0 0, .slice none 0 0, .slice none 0 0, .slice none 0 0, .int .i64 0] 29)) (w.heap.size + 1) 29 #[.int .i64 0, .int .i64 0, .int .i64 0, .slice none 0 0, .slice none 0 0, .slice none 0 0, .slice none 0 0, .int .i64 0] from Blk.new' _ _ _ (by simp))
  have hck := hid (check_any p Sp Ac Ai cc ci _ (hp.below hB0))
  have hB := hid hB0
  clear hB0
  go_enter Tryz.func39, Tryz.ntmps39
  go_upto_region 1 with fail
  generalize (w.alloc (.cells #[.int .i64 p.args, .slice Ac p.cs.length cc, .slice Ai p.code.length ci] 33)).alloc (.cells #[.int .i64 0, .int .i64 0, .int .i64 0, .slice none 0 0, .slice none 0 0, .slice none 0 0, .slice none 0 0, .int .i64 0] 29) = w1 at *
  have p0 := kp.out.cell 0
  have p1 := kp.out.cell 1
  have p2 := kp.out.cell 2
  simp only [List.getElem?_toArray, List.getElem?_cons_zero, List.getElem?_cons_succ] at p0 p1 p2
  go_wp2_with fail
  refine hck.out.mono ?_
  rintro e w2 ⟨rfl, hb⟩
  have hB2 := hid (hB.out.trans (hb.mono hB.out.size))
  have kp2 := hid (kp.out.below_all hb)
  have ko2 := hid (ko.out.below_all hb)
  clear hb p0 p1 p2 kp ko hB hck
  have z0 := ko2.out.cell 0
  have z1 := ko2.out.cell 1
  have z2 := ko2.out.cell 2
  have z3 := ko2.out.cell 3
  have z4 := ko2.out.cell 4
  have z5 := ko2.out.cell 5
  have z6 := ko2.out.cell 6
  have z7 := ko2.out.cell 7
  simp only [List.getElem?_toArray, List.getElem?_cons_zero, List.getElem?_cons_succ] at z0 z1 z2 z3 z4 z5 z6 z7
  have fz := fun q => ko2.out.frozen q
  go_wp2_with fail
  refine bodyPost_ret (v := .tuple #[.pointer none, .agg #[.int .i64 p.check.1, .int .i64 p.check.2, .int .i64 0, .slice none 0 0, .slice none 0 0, .slice none 0 0, .slice none 0 0, .int .i64 0]]) (start_res (show Blk _ (w.heap.size + 1) 29 #[.int .i64 p.check.1, .int .i64 p.check.2, .int .i64 0, .slice none 0 0, .slice none 0 0, .slice none 0 0, .slice none 0 0, .int .i64 0] from by simpa using ((((((((ko2.out.set_ 0 _).set_ 1 _).set_ 2 _).set_ 3 _).set_ 4 _).set_ 5 _).set_ 6 _).set_ 7 _)) rfl rfl ⟨rfl, rfl⟩) rfl ⟨rfl, ((((((((hB2.out.setCell (p := ⟨w.heap.size + 1, 0, none⟩) (Nat.le_succ _) _).setCell (p := ⟨w.heap.size + 1, 1, none⟩) (Nat.le_succ _) _).setCell (p := ⟨w.heap.size + 1, 2, none⟩) (Nat.le_succ _) _).setCell (p := ⟨w.heap.size + 1, 3, none⟩) (Nat.le_succ _) _).setCell (p := ⟨w.heap.size + 1, 4, none⟩) (Nat.le_succ _) _).setCell (p := ⟨w.heap.size + 1, 5, none⟩) (Nat.le_succ _) _).setCell (p := ⟨w.heap.size + 1, 6, none⟩) (Nat.le_succ _) _).setCell (p := ⟨w.heap.size + 1, 7, none⟩) (Nat.le_succ _) _)⟩
/-- the arguments are refused -/
def okArgs (p : Pr) (args : List Vl) (nb : Bool) (fuel : Int) : Bool := decide ((args.length : Int) = p.args) && nb && decide (0 ≤ fuel) && decide (fuel ≤ 100000)
set_option maxRecDepth 100000 in
set_option maxHeartbeats 4000000 in
theorem start_no (sv : Value) (nb : Bool) (fuel : Int) (hp : PrIn Sp w Ac Ai p) (hc : p.check.1 = 0) (hargs : Rd Sa w 3 Aa args.length (vcells args)) (han : args.length ≤ 1000000) (hsz0 : ∀ v ∈ args, v.s.size ≤ 9223372036854775806) (hsv : (nb = false ∧ sv = .nilIface) ∨ (nb = true ∧ ∃ sb, sv = .iface 41 (.pointer (some ⟨sb, 0, none⟩)))) (hno : (okArgs p args nb fuel && args.all okA) = false) : Calls Tryz.prog 39 #[.agg #[.int .i64 p.args, .slice Ac p.cs.length cc, .slice Ai p.code.length ci], .slice Aa args.length ca, sv, .int .i64 fuel] w fun e w' => e = .returned (.tuple #[.pointer none, .agg #[.int .i64 2, .int .i64 0, .int .i64 0, .slice none 0 0, .slice none 0 0, .slice none 0 0, .slice none 0 0, .int .i64 0]]) ∧ Below w.heap.size w w' := by
  have hr := hid hargs
  have hal := hid han
  have hsz := hid hsz0
  have t0 : (p.check.1 != 0) = false := by simpa using hc
  clear hargs han hsz0 hc
  have hB0 : Below w.heap.size w ((w.alloc (.cells #[.int .i64 p.args, .slice Ac p.cs.length cc, .slice Ai p.code.length ci] 33)).alloc (.cells #[.int .i64 0, .int .i64 0, .int .i64 0, .slice none 0 0, .slice none 0 0, .slice none 0 0, .slice none 0 0, .int .i64 0] 29)) := below_two _ _
  have kp := hid (show Blk ((w.alloc (.cells #[.int .i64 p.args, .slice Ac p.cs.length cc, .slice Ai p.code.length ci] 33)).alloc (.cells #[.int .i64 0, .int .i64 0, .int .i64 0, .slice none 0 0, .slice none 0 0, .slice none 0 0, .slice none 0 0, .int .i64 0] 29)) w.heap.size 33 #[.int .i64 p.args, .slice Ac p.cs.length cc, .slice Ai p.code.length ci] from (Blk.new w _ _).alloc _)
  have ko := hid (show Blk ((w.alloc (.cells #[.int .i64 p.args, .slice Ac p.cs.length cc, .slice Ai p.code.length ci] 33)).alloc (.cells #[.int .i64 0, .int .i64 0, .int .i64 0, .slice none 0 0, .slice none 0 0, .slice none 0 0, .slice none 0 0, .int .i64 0] 29)) (w.heap.size + 1) 29 #[.int .i64 0, .int .i64 0, .int .i64 0, .slice none 0 0, .slice none 0 0, .slice none 0 0, .slice none 0 0, .int .i64 0] from Blk.new' _ _ _ (by simp))
  have hck := hid (check_any p Sp Ac Ai cc ci _ (hp.below hB0))
  have hB := hid hB0
  clear hB0
  go_enter Tryz.func39, Tryz.ntmps39
  go_upto_region 1 with fail
  generalize (w.alloc (.cells #[.int .i64 p.args, .slice Ac p.cs.length cc, .slice Ai p.code.length ci] 33)).alloc (.cells #[.int .i64 0, .int .i64 0, .int .i64 0, .slice none 0 0, .slice none 0 0, .slice none 0 0, .slice none 0 0, .int .i64 0] 29) = w1 at *
  have p0 := kp.out.cell 0
  have p1 := kp.out.cell 1
  have p2 := kp.out.cell 2
  simp only [List.getElem?_toArray, List.getElem?_cons_zero, List.getElem?_cons_succ] at p0 p1 p2
  go_wp2_with fail
  refine hck.out.mono ?_
  rintro e w2 ⟨rfl, hb⟩
  have hB2 := hid (hB.out.trans (hb.mono hB.out.size))
  have kp2 := hid (kp.out.below_all hb)
  have ko2 := hid (ko.out.below_all hb)
  clear hb p0 p1 p2 kp ko hB hck
  have p0 := kp2.out.cell 0
  simp only [List.getElem?_toArray, List.getElem?_cons_zero] at p0
  by_cases h1 : (args.length : Int) = p.args
  · have t1 : ((args.length : Int) == p.args) = true := by simpa using h1
    rcases hsv with ⟨rfl, rfl⟩ | ⟨rfl, sb, rfl⟩
    · have hsn := neq_nilI
      clear h1 hno
      go_wp2_with fail
      go_loopw [12, 44] (fun v12 v44 wr => ∃ i : Nat, v12 = .bool false ∧ v44 = .int .i64 i ∧ i ≤ args.length ∧ Below w2.heap.size w2 wr) (fun _ v _ => args.length - (intOf v).toNat)
      case atStart => exact ⟨0, by simp, rfl, Nat.zero_le _, Below.refl _ _⟩
      case round =>
        obtain ⟨i, rfl, rfl, hil, hbr0⟩ := hrel
        have hbr := hid hbr0
        clear hbr0
        by_cases hlt : i < args.length
        · have i1 : (i : Int) < (args.length : Int) := by omega
          have i2 : IntKind.i64.wrap ((i : Int) + 1) = (i : Int) + 1 := by rw [IntKind.wrap_i64]; have := hal.out; omega
          obtain ⟨b9, o9, hA9, _, y0, y1, y2⟩ := ((hr.out.below_all hB2.out).below_all hbr.out).val_at hlt
          obtain rfl := hA9
          have htk : Hid ((args.take (i + 1)).all okA = ((args.take i).all okA && okA (args[i]'hlt))) := hid (by rw [List.take_succ_eq_append_getElem hlt, List.all_append]; simp)
          have hvs := hid (hsz.out _ (List.getElem_mem hlt))
          generalize args[i] = v at *
          have hlt9 := hid hlt
          have hb7 := hid (hbr.out.alloc hbr.out.size (.cells #[.int .i64 v.k, .int .i64 v.n, .string v.s] 55))
          have kv := hid (Blk.new wr 55 #[.int .i64 v.k, .int .i64 v.n, .string v.s])
          clear hlt hil
          go_upto_region 8 with fail
          generalize wr.alloc (.cells #[.int .i64 v.k, .int .i64 v.n, .string v.s] 55) = w7 at *
          obtain ⟨m7, hm7⟩ : ∃ m7, Hid (wr.heap.size = m7) := ⟨_, hid rfl⟩
          rw [hm7.out] at kv ⊢
          clear y0 y1 y2
          have y0 := kv.out.cell 0
          have y1 := kv.out.cell 1
          have y2 := kv.out.cell 2
          simp only [List.getElem?_toArray, List.getElem?_cons_zero, List.getElem?_cons_succ] at y0 y1 y2
          go_wp2_with fail
          go_roundw
          case rel => exact ⟨i + 1, rfl, by go_num, hlt9.out, hb7.out⟩
          case measure => simp [intOf]; have := hlt9.out; omega
        · obtain rfl : i = args.length := by omega
          have hB3 := hid (hB2.out.trans (hbr.out.mono hB2.out.size))
          have ko3 := hid (ko2.out.below_all hbr.out)
          have kp3 := hid (kp2.out.below_all hbr.out)
          clear hbr hil hlt
          have z0 := ko3.out.cell 0
          have z1 := ko3.out.cell 1
          have z2 := ko3.out.cell 2
          have z3 := ko3.out.cell 3
          have z4 := ko3.out.cell 4
          have z5 := ko3.out.cell 5
          have z6 := ko3.out.cell 6
          have z7 := ko3.out.cell 7
          simp only [List.getElem?_toArray, List.getElem?_cons_zero, List.getElem?_cons_succ] at z0 z1 z2 z3 z4 z5 z6 z7
          have fz := fun q => ko3.out.frozen q
          go_wp2_with fail
          refine bodyPost_ret (v := .tuple #[.pointer none, .agg #[.int .i64 2, .int .i64 0, .int .i64 0, .slice none 0 0, .slice none 0 0, .slice none 0 0, .slice none 0 0, .int .i64 0]]) (start_res (show Blk _ (w.heap.size + 1) 29 #[.int .i64 2, .int .i64 0, .int .i64 0, .slice none 0 0, .slice none 0 0, .slice none 0 0, .slice none 0 0, .int .i64 0] from by simpa using ((((((((ko3.out.set_ 0 _).set_ 1 _).set_ 2 _).set_ 3 _).set_ 4 _).set_ 5 _).set_ 6 _).set_ 7 _)) rfl rfl ⟨rfl, rfl⟩) rfl ⟨rfl, ((((((((hB3.out.setCell (p := ⟨w.heap.size + 1, 0, none⟩) (Nat.le_succ _) _).setCell (p := ⟨w.heap.size + 1, 1, none⟩) (Nat.le_succ _) _).setCell (p := ⟨w.heap.size + 1, 2, none⟩) (Nat.le_succ _) _).setCell (p := ⟨w.heap.size + 1, 3, none⟩) (Nat.le_succ _) _).setCell (p := ⟨w.heap.size + 1, 4, none⟩) (Nat.le_succ _) _).setCell (p := ⟨w.heap.size + 1, 5, none⟩) (Nat.le_succ _) _).setCell (p := ⟨w.heap.size + 1, 6, none⟩) (Nat.le_succ _) _).setCell (p := ⟨w.heap.size + 1, 7, none⟩) (Nat.le_succ _) _)⟩
    · have hsn := neq_srcI sb
      by_cases h2 : 0 ≤ fuel
      · have t2 : decide (0 ≤ fuel) = true := decide_eq_true h2
        by_cases h3 : fuel ≤ 100000
        · have t3 : decide (fuel ≤ 100000) = true := decide_eq_true h3
          have hall9 : Hid (args.all okA = false) := hid (by
            have e : okArgs p args true fuel = true := by unfold okArgs; simp [h1, h2, h3]
            rw [e] at hno
            simpa using hno)
          clear h1 h2 h3 hno
          go_wp2_with fail
          go_loopw [12, 44] (fun v12 v44 wr => ∃ i : Nat, v12 = .bool ((args.take i).all okA) ∧ v44 = .int .i64 i ∧ i ≤ args.length ∧ Below w2.heap.size w2 wr) (fun _ v _ => args.length - (intOf v).toNat)
          case atStart => exact ⟨0, by simp, rfl, Nat.zero_le _, Below.refl _ _⟩
          case round =>
            obtain ⟨i, rfl, rfl, hil, hbr0⟩ := hrel
            have hbr := hid hbr0
            clear hbr0
            by_cases hlt : i < args.length
            · have i1 : (i : Int) < (args.length : Int) := by omega
              have i2 : IntKind.i64.wrap ((i : Int) + 1) = (i : Int) + 1 := by rw [IntKind.wrap_i64]; have := hal.out; omega
              obtain ⟨b9, o9, hA9, _, y0, y1, y2⟩ := ((hr.out.below_all hB2.out).below_all hbr.out).val_at hlt
              obtain rfl := hA9
              have htk : Hid ((args.take (i + 1)).all okA = ((args.take i).all okA && okA (args[i]'hlt))) := hid (by rw [List.take_succ_eq_append_getElem hlt, List.all_append]; simp)
              have hvs := hid (hsz.out _ (List.getElem_mem hlt))
              generalize args[i] = v at *
              have hlt9 := hid hlt
              have hb7 := hid (hbr.out.alloc hbr.out.size (.cells #[.int .i64 v.k, .int .i64 v.n, .string v.s] 55))
              have kv := hid (Blk.new wr 55 #[.int .i64 v.k, .int .i64 v.n, .string v.s])
              clear hlt hil
              go_upto_region 8 with fail
              generalize wr.alloc (.cells #[.int .i64 v.k, .int .i64 v.n, .string v.s] 55) = w7 at *
              obtain ⟨m7, hm7⟩ : ∃ m7, Hid (wr.heap.size = m7) := ⟨_, hid rfl⟩
              rw [hm7.out] at kv ⊢
              clear y0 y1 y2
              have y0 := kv.out.cell 0
              have y1 := kv.out.cell 1
              have y2 := kv.out.cell 2
              simp only [List.getElem?_toArray, List.getElem?_cons_zero, List.getElem?_cons_succ] at y0 y1 y2
              cases hb0 : ((args.take i).all okA) with
              | false =>
                have hn : Hid (((args.take (i + 1)).all okA) = false) := hid (by rw [htk.out, hb0]; rfl)
                clear hb0
                go_wp2_with fail
                go_roundw
                case rel => exact ⟨i + 1, by rw [hn.out], by go_num, hlt9.out, hb7.out⟩
                case measure => simp [intOf]; have := hlt9.out; omega
              | true =>
                have hn : Hid (((args.take (i + 1)).all okA) = okA v) := hid (by rw [htk.out, hb0]; rfl)
                clear hb0
                go_wp2_with fail
                refine (valid_any v _ hvs.out).mono ?_
                rintro e w8 ⟨rfl, hb8⟩
                have hb9 := hid (hb7.out.trans (hb8.mono hb7.out.size))
                have kv8 := hid (kv.out.below_all hb8)
                clear hb8 y0 y1 y2
                have y0 := kv8.out.cell 0
                simp only [List.getElem?_toArray, List.getElem?_cons_zero] at y0
                cases ho : v.ok with
                | false =>
                  have hv : Hid (okA v = false) := hid (by unfold okA; rw [ho]; rfl)
                  clear ho
                  go_wp2_with fail
                  go_roundw
                  case rel => exact ⟨i + 1, by rw [hn.out, hv.out], by go_num, hlt9.out, hb9.out⟩
                  case measure => simp [intOf]; have := hlt9.out; omega
                | true =>
                  by_cases hk : v.k = 0
                  · have t1 : (v.k != 0) = false := by simpa using hk
                    have hv : Hid (okA v = false) := hid (by unfold okA; rw [ho]; simp [hk])
                    clear hk ho
                    go_wp2_with fail
                    go_roundw
                    case rel => exact ⟨i + 1, by rw [hn.out, hv.out], by go_num, hlt9.out, hb9.out⟩
                    case measure => simp [intOf]; have := hlt9.out; omega
                  · have t1 : (v.k != 0) = true := by simpa using hk
                    have hv : Hid (okA v = true) := hid (by unfold okA; rw [ho]; simp [hk])
                    clear hk ho
                    go_wp2_with fail
                    go_roundw
                    case rel => exact ⟨i + 1, by rw [hn.out, hv.out], by go_num, hlt9.out, hb9.out⟩
                    case measure => simp [intOf]; have := hlt9.out; omega
            · obtain rfl : i = args.length := by omega
              rw [List.take_length]
              have hB3 := hid (hB2.out.trans (hbr.out.mono hB2.out.size))
              have ko3 := hid (ko2.out.below_all hbr.out)
              have kp3 := hid (kp2.out.below_all hbr.out)
              clear hbr hil hlt
              rw [hall9.out]
              have z0 := ko3.out.cell 0
              have z1 := ko3.out.cell 1
              have z2 := ko3.out.cell 2
              have z3 := ko3.out.cell 3
              have z4 := ko3.out.cell 4
              have z5 := ko3.out.cell 5
              have z6 := ko3.out.cell 6
              have z7 := ko3.out.cell 7
              simp only [List.getElem?_toArray, List.getElem?_cons_zero, List.getElem?_cons_succ] at z0 z1 z2 z3 z4 z5 z6 z7
              have fz := fun q => ko3.out.frozen q
              go_wp2_with fail
              refine bodyPost_ret (v := .tuple #[.pointer none, .agg #[.int .i64 2, .int .i64 0, .int .i64 0, .slice none 0 0, .slice none 0 0, .slice none 0 0, .slice none 0 0, .int .i64 0]]) (start_res (show Blk _ (w.heap.size + 1) 29 #[.int .i64 2, .int .i64 0, .int .i64 0, .slice none 0 0, .slice none 0 0, .slice none 0 0, .slice none 0 0, .int .i64 0] from by simpa using ((((((((ko3.out.set_ 0 _).set_ 1 _).set_ 2 _).set_ 3 _).set_ 4 _).set_ 5 _).set_ 6 _).set_ 7 _)) rfl rfl ⟨rfl, rfl⟩) rfl ⟨rfl, ((((((((hB3.out.setCell (p := ⟨w.heap.size + 1, 0, none⟩) (Nat.le_succ _) _).setCell (p := ⟨w.heap.size + 1, 1, none⟩) (Nat.le_succ _) _).setCell (p := ⟨w.heap.size + 1, 2, none⟩) (Nat.le_succ _) _).setCell (p := ⟨w.heap.size + 1, 3, none⟩) (Nat.le_succ _) _).setCell (p := ⟨w.heap.size + 1, 4, none⟩) (Nat.le_succ _) _).setCell (p := ⟨w.heap.size + 1, 5, none⟩) (Nat.le_succ _) _).setCell (p := ⟨w.heap.size + 1, 6, none⟩) (Nat.le_succ _) _).setCell (p := ⟨w.heap.size + 1, 7, none⟩) (Nat.le_succ _) _)⟩
        · have t3 : decide (fuel ≤ 100000) = false := decide_eq_false h3
          clear h1 h2 h3 hno
          go_wp2_with fail
          go_loopw [12, 44] (fun v12 v44 wr => ∃ i : Nat, v12 = .bool false ∧ v44 = .int .i64 i ∧ i ≤ args.length ∧ Below w2.heap.size w2 wr) (fun _ v _ => args.length - (intOf v).toNat)
          case atStart => exact ⟨0, by simp, rfl, Nat.zero_le _, Below.refl _ _⟩
          case round =>
            obtain ⟨i, rfl, rfl, hil, hbr0⟩ := hrel
            have hbr := hid hbr0
            clear hbr0
            by_cases hlt : i < args.length
            · have i1 : (i : Int) < (args.length : Int) := by omega
              have i2 : IntKind.i64.wrap ((i : Int) + 1) = (i : Int) + 1 := by rw [IntKind.wrap_i64]; have := hal.out; omega
              obtain ⟨b9, o9, hA9, _, y0, y1, y2⟩ := ((hr.out.below_all hB2.out).below_all hbr.out).val_at hlt
              obtain rfl := hA9
              have htk : Hid ((args.take (i + 1)).all okA = ((args.take i).all okA && okA (args[i]'hlt))) := hid (by rw [List.take_succ_eq_append_getElem hlt, List.all_append]; simp)
              have hvs := hid (hsz.out _ (List.getElem_mem hlt))
              generalize args[i] = v at *
              have hlt9 := hid hlt
              have hb7 := hid (hbr.out.alloc hbr.out.size (.cells #[.int .i64 v.k, .int .i64 v.n, .string v.s] 55))
              have kv := hid (Blk.new wr 55 #[.int .i64 v.k, .int .i64 v.n, .string v.s])
              clear hlt hil
              go_upto_region 8 with fail
              generalize wr.alloc (.cells #[.int .i64 v.k, .int .i64 v.n, .string v.s] 55) = w7 at *
              obtain ⟨m7, hm7⟩ : ∃ m7, Hid (wr.heap.size = m7) := ⟨_, hid rfl⟩
              rw [hm7.out] at kv ⊢
              clear y0 y1 y2
              have y0 := kv.out.cell 0
              have y1 := kv.out.cell 1
              have y2 := kv.out.cell 2
              simp only [List.getElem?_toArray, List.getElem?_cons_zero, List.getElem?_cons_succ] at y0 y1 y2
              go_wp2_with fail
              go_roundw
              case rel => exact ⟨i + 1, rfl, by go_num, hlt9.out, hb7.out⟩
              case measure => simp [intOf]; have := hlt9.out; omega
            · obtain rfl : i = args.length := by omega
              have hB3 := hid (hB2.out.trans (hbr.out.mono hB2.out.size))
              have ko3 := hid (ko2.out.below_all hbr.out)
              have kp3 := hid (kp2.out.below_all hbr.out)
              clear hbr hil hlt
              have z0 := ko3.out.cell 0
              have z1 := ko3.out.cell 1
              have z2 := ko3.out.cell 2
              have z3 := ko3.out.cell 3
              have z4 := ko3.out.cell 4
              have z5 := ko3.out.cell 5
              have z6 := ko3.out.cell 6
              have z7 := ko3.out.cell 7
              simp only [List.getElem?_toArray, List.getElem?_cons_zero, List.getElem?_cons_succ] at z0 z1 z2 z3 z4 z5 z6 z7
              have fz := fun q => ko3.out.frozen q
              go_wp2_with fail
              refine bodyPost_ret (v := .tuple #[.pointer none, .agg #[.int .i64 2, .int .i64 0, .int .i64 0, .slice none 0 0, .slice none 0 0, .slice none 0 0, .slice none 0 0, .int .i64 0]]) (start_res (show Blk _ (w.heap.size + 1) 29 #[.int .i64 2, .int .i64 0, .int .i64 0, .slice none 0 0, .slice none 0 0, .slice none 0 0, .slice none 0 0, .int .i64 0] from by simpa using ((((((((ko3.out.set_ 0 _).set_ 1 _).set_ 2 _).set_ 3 _).set_ 4 _).set_ 5 _).set_ 6 _).set_ 7 _)) rfl rfl ⟨rfl, rfl⟩) rfl ⟨rfl, ((((((((hB3.out.setCell (p := ⟨w.heap.size + 1, 0, none⟩) (Nat.le_succ _) _).setCell (p := ⟨w.heap.size + 1, 1, none⟩) (Nat.le_succ _) _).setCell (p := ⟨w.heap.size + 1, 2, none⟩) (Nat.le_succ _) _).setCell (p := ⟨w.heap.size + 1, 3, none⟩) (Nat.le_succ _) _).setCell (p := ⟨w.heap.size + 1, 4, none⟩) (Nat.le_succ _) _).setCell (p := ⟨w.heap.size + 1, 5, none⟩) (Nat.le_succ _) _).setCell (p := ⟨w.heap.size + 1, 6, none⟩) (Nat.le_succ _) _).setCell (p := ⟨w.heap.size + 1, 7, none⟩) (Nat.le_succ _) _)⟩
      · have t2 : decide (0 ≤ fuel) = false := decide_eq_false h2
        clear h1 h2 hno
        go_wp2_with fail
        go_loopw [12, 44] (fun v12 v44 wr => ∃ i : Nat, v12 = .bool false ∧ v44 = .int .i64 i ∧ i ≤ args.length ∧ Below w2.heap.size w2 wr) (fun _ v _ => args.length - (intOf v).toNat)
        case atStart => exact ⟨0, by simp, rfl, Nat.zero_le _, Below.refl _ _⟩
        case round =>
          obtain ⟨i, rfl, rfl, hil, hbr0⟩ := hrel
          have hbr := hid hbr0
          clear hbr0
          by_cases hlt : i < args.length
          · have i1 : (i : Int) < (args.length : Int) := by omega
            have i2 : IntKind.i64.wrap ((i : Int) + 1) = (i : Int) + 1 := by rw [IntKind.wrap_i64]; have := hal.out; omega
            obtain ⟨b9, o9, hA9, _, y0, y1, y2⟩ := ((hr.out.below_all hB2.out).below_all hbr.out).val_at hlt
            obtain rfl := hA9
            have htk : Hid ((args.take (i + 1)).all okA = ((args.take i).all okA && okA (args[i]'hlt))) := hid (by rw [List.take_succ_eq_append_getElem hlt, List.all_append]; simp)
            have hvs := hid (hsz.out _ (List.getElem_mem hlt))
            generalize args[i] = v at *
            have hlt9 := hid hlt
            have hb7 := hid (hbr.out.alloc hbr.out.size (.cells #[.int .i64 v.k, .int .i64 v.n, .string v.s] 55))
            have kv := hid (Blk.new wr 55 #[.int .i64 v.k, .int .i64 v.n, .string v.s])
            clear hlt hil
            go_upto_region 8 with fail
            generalize wr.alloc (.cells #[.int .i64 v.k, .int .i64 v.n, .string v.s] 55) = w7 at *
            obtain ⟨m7, hm7⟩ : ∃ m7, Hid (wr.heap.size = m7) := ⟨_, hid rfl⟩
            rw [hm7.out] at kv ⊢
            clear y0 y1 y2
            have y0 := kv.out.cell 0
            have y1 := kv.out.cell 1
            have y2 := kv.out.cell 2
            simp only [List.getElem?_toArray, List.getElem?_cons_zero, List.getElem?_cons_succ] at y0 y1 y2
            go_wp2_with fail
            go_roundw
            case rel => exact ⟨i + 1, rfl, by go_num, hlt9.out, hb7.out⟩
            case measure => simp [intOf]; have := hlt9.out; omega
          · obtain rfl : i = args.length := by omega
            have hB3 := hid (hB2.out.trans (hbr.out.mono hB2.out.size))
            have ko3 := hid (ko2.out.below_all hbr.out)
            have kp3 := hid (kp2.out.below_all hbr.out)
            clear hbr hil hlt
            have z0 := ko3.out.cell 0
            have z1 := ko3.out.cell 1
            have z2 := ko3.out.cell 2
            have z3 := ko3.out.cell 3
            have z4 := ko3.out.cell 4
            have z5 := ko3.out.cell 5
            have z6 := ko3.out.cell 6
            have z7 := ko3.out.cell 7
            simp only [List.getElem?_toArray, List.getElem?_cons_zero, List.getElem?_cons_succ] at z0 z1 z2 z3 z4 z5 z6 z7
            have fz := fun q => ko3.out.frozen q
            go_wp2_with fail
            refine bodyPost_ret (v := .tuple #[.pointer none, .agg #[.int .i64 2, .int .i64 0, .int .i64 0, .slice none 0 0, .slice none 0 0, .slice none 0 0, .slice none 0 0, .int .i64 0]]) (start_res (show Blk _ (w.heap.size + 1) 29 #[.int .i64 2, .int .i64 0, .int .i64 0, .slice none 0 0, .slice none 0 0, .slice none 0 0, .slice none 0 0, .int .i64 0] from by simpa using ((((((((ko3.out.set_ 0 _).set_ 1 _).set_ 2 _).set_ 3 _).set_ 4 _).set_ 5 _).set_ 6 _).set_ 7 _)) rfl rfl ⟨rfl, rfl⟩) rfl ⟨rfl, ((((((((hB3.out.setCell (p := ⟨w.heap.size + 1, 0, none⟩) (Nat.le_succ _) _).setCell (p := ⟨w.heap.size + 1, 1, none⟩) (Nat.le_succ _) _).setCell (p := ⟨w.heap.size + 1, 2, none⟩) (Nat.le_succ _) _).setCell (p := ⟨w.heap.size + 1, 3, none⟩) (Nat.le_succ _) _).setCell (p := ⟨w.heap.size + 1, 4, none⟩) (Nat.le_succ _) _).setCell (p := ⟨w.heap.size + 1, 5, none⟩) (Nat.le_succ _) _).setCell (p := ⟨w.heap.size + 1, 6, none⟩) (Nat.le_succ _) _).setCell (p := ⟨w.heap.size + 1, 7, none⟩) (Nat.le_succ _) _)⟩
  · have t1 : ((args.length : Int) == p.args) = false := by simpa using h1
    clear h1 hno
    go_wp2_with fail
    go_loopw [12, 44] (fun v12 v44 wr => ∃ i : Nat, v12 = .bool false ∧ v44 = .int .i64 i ∧ i ≤ args.length ∧ Below w2.heap.size w2 wr) (fun _ v _ => args.length - (intOf v).toNat)
    case atStart => exact ⟨0, by simp, rfl, Nat.zero_le _, Below.refl _ _⟩
    case round =>
      obtain ⟨i, rfl, rfl, hil, hbr0⟩ := hrel
      have hbr := hid hbr0
      clear hbr0
      by_cases hlt : i < args.length
      · have i1 : (i : Int) < (args.length : Int) := by omega
        have i2 : IntKind.i64.wrap ((i : Int) + 1) = (i : Int) + 1 := by rw [IntKind.wrap_i64]; have := hal.out; omega
        obtain ⟨b9, o9, hA9, _, y0, y1, y2⟩ := ((hr.out.below_all hB2.out).below_all hbr.out).val_at hlt
        obtain rfl := hA9
        have htk : Hid ((args.take (i + 1)).all okA = ((args.take i).all okA && okA (args[i]'hlt))) := hid (by rw [List.take_succ_eq_append_getElem hlt, List.all_append]; simp)
        have hvs := hid (hsz.out _ (List.getElem_mem hlt))
        generalize args[i] = v at *
        have hlt9 := hid hlt
        have hb7 := hid (hbr.out.alloc hbr.out.size (.cells #[.int .i64 v.k, .int .i64 v.n, .string v.s] 55))
        have kv := hid (Blk.new wr 55 #[.int .i64 v.k, .int .i64 v.n, .string v.s])
        clear hlt hil
        go_upto_region 8 with fail
        generalize wr.alloc (.cells #[.int .i64 v.k, .int .i64 v.n, .string v.s] 55) = w7 at *
        obtain ⟨m7, hm7⟩ : ∃ m7, Hid (wr.heap.size = m7) := ⟨_, hid rfl⟩
        rw [hm7.out] at kv ⊢
        clear y0 y1 y2
        have y0 := kv.out.cell 0
        have y1 := kv.out.cell 1
        have y2 := kv.out.cell 2
        simp only [List.getElem?_toArray, List.getElem?_cons_zero, List.getElem?_cons_succ] at y0 y1 y2
        go_wp2_with fail
        go_roundw
        case rel => exact ⟨i + 1, rfl, by go_num, hlt9.out, hb7.out⟩
        case measure => simp [intOf]; have := hlt9.out; omega
      · obtain rfl : i = args.length := by omega
        have hB3 := hid (hB2.out.trans (hbr.out.mono hB2.out.size))
        have ko3 := hid (ko2.out.below_all hbr.out)
        have kp3 := hid (kp2.out.below_all hbr.out)
        clear hbr hil hlt
        have z0 := ko3.out.cell 0
        have z1 := ko3.out.cell 1
        have z2 := ko3.out.cell 2
        have z3 := ko3.out.cell 3
        have z4 := ko3.out.cell 4
        have z5 := ko3.out.cell 5
        have z6 := ko3.out.cell 6
        have z7 := ko3.out.cell 7
        simp only [List.getElem?_toArray, List.getElem?_cons_zero, List.getElem?_cons_succ] at z0 z1 z2 z3 z4 z5 z6 z7
        have fz := fun q => ko3.out.frozen q
        go_wp2_with fail
        refine bodyPost_ret (v := .tuple #[.pointer none, .agg #[.int .i64 2, .int .i64 0, .int .i64 0, .slice none 0 0, .slice none 0 0, .slice none 0 0, .slice none 0 0, .int .i64 0]]) (start_res (show Blk _ (w.heap.size + 1) 29 #[.int .i64 2, .int .i64 0, .int .i64 0, .slice none 0 0, .slice none 0 0, .slice none 0 0, .slice none 0 0, .int .i64 0] from by simpa using ((((((((ko3.out.set_ 0 _).set_ 1 _).set_ 2 _).set_ 3 _).set_ 4 _).set_ 5 _).set_ 6 _).set_ 7 _)) rfl rfl ⟨rfl, rfl⟩) rfl ⟨rfl, ((((((((hB3.out.setCell (p := ⟨w.heap.size + 1, 0, none⟩) (Nat.le_succ _) _).setCell (p := ⟨w.heap.size + 1, 1, none⟩) (Nat.le_succ _) _).setCell (p := ⟨w.heap.size + 1, 2, none⟩) (Nat.le_succ _) _).setCell (p := ⟨w.heap.size + 1, 3, none⟩) (Nat.le_succ _) _).setCell (p := ⟨w.heap.size + 1, 4, none⟩) (Nat.le_succ _) _).setCell (p := ⟨w.heap.size + 1, 5, none⟩) (Nat.le_succ _) _).setCell (p := ⟨w.heap.size + 1, 6, none⟩) (Nat.le_succ _) _).setCell (p := ⟨w.heap.size + 1, 7, none⟩) (Nat.le_succ _) _)⟩
end
section
variable {w w' Wf : World} {F : Fr} {g rm wm f : Nat}
def ad0 (rm wm : Nat) : Ad := ⟨none, 0, none, 0, none, 0, none, 0, rm, wm, []⟩
/-- what start wants of the memory -/
structure FrIn (w : World) (F : Fr) : Prop where
  code : PrIn (fun q => q < w.heap.size ∧ q ≠ F.sb) w F.Ac F.Ai F.p
  args : Rd (fun q => q < w.heap.size ∧ q ≠ F.sb) w 3 F.Aa F.args.length (vcells F.args)
  src : Rd (fun q => q < w.heap.size ∧ q ≠ F.sb) w 4 F.Al F.src.length (srcCells F.src)
  sblk : Blk w F.sb 50 #[.slice F.Al F.src.length F.cl, .slice none 0 0]
  env : ∀ W, Upd (fun q => q = F.sb) w W → Env W
theorem MIn.new (h : FrIn w F) (hB : Below w.heap.size w Wf) (hb : Blk Wf g 97 (mCells F (mc0 f) (ad0 rm wm))) (hr : MapF strE Wf rm (fun _ => none)) (hw : MapF strE Wf wm (fun _ => none)) (hg : w.heap.size ≤ rm ∧ rm < wm ∧ wm < g) : MIn (fun q => q = F.sb ∨ q = rm ∨ q = wm ∨ q = g) Wf g F (mc0 f) (ad0 rm wm) := by
  have hsl := h.sblk.lt
  have hn : ∀ q, q < w.heap.size ∧ q ≠ F.sb → ¬ (q = F.sb ∨ q = rm ∨ q = wm ∨ q = g) := fun q hq e => by
    rcases e with e | e | e | e
    · exact hq.2 e
    · omega
    · omega
    · omega
  have hsz := hB.size
  refine ⟨hb, h.sblk.below_all hB, ⟨World.ownsRow_nil _ _ _ _, fun b h => by cases h⟩, ⟨World.ownsRow_nil _ _ _ _, fun b h => by cases h⟩, ⟨World.ownsRow_nil _ _ _ _, fun b h => by cases h⟩, ⟨World.ownsRow_nil _ _ _ _, fun b h => by cases h⟩, hr, hw, ⟨by show rm ≠ wm; omega, fun q hq => by cases hq⟩, ⟨.inr (.inr (.inr rfl)), .inl rfl, .inr (.inl rfl), .inr (.inr (.inl rfl))⟩, fun q hq => ?_, ⟨(h.code.c.below_all hB).more fun q hq _ => hn q hq, (h.code.i.below_all hB).more fun q hq _ => hn q hq, h.code.t, h.code.l⟩, (h.args.below_all hB).more fun q hq _ => hn q hq, (h.src.below_all hB).more fun q hq _ => hn q hq, fun W hW => h.env W ?_⟩
  · rcases hq with e | e | e | e
    · omega
    · exact e ▸ hr.lt
    · exact e ▸ hw.lt
    · exact e ▸ hb.lt
  · exact (Upd.of_below' hB (fun q => q = F.sb)).trans hW fun b hb e => by
      rcases e with e | e | e | e
      · exact e
      · omega
      · omega
      · omega
end
section
variable {w w' : World} {F : Fr}
set_option maxRecDepth 100000 in
set_option maxHeartbeats 4000000 in
theorem start_ok (f : Nat) (h : FrIn w F) (hc : F.p.check.1 = 0) (han : F.args.length ≤ 1000000) (hsz0 : ∀ v ∈ F.args, v.s.size ≤ 9223372036854775806) (hal9 : (F.args.length : Int) = F.p.args) (hf : f ≤ 100000) (hv : F.args.all okA = true) : Calls Tryz.prog 39 #[.agg #[.int .i64 F.p.args, .slice F.Ac F.p.cs.length F.cc, .slice F.Ai F.p.code.length F.ci], .slice F.Aa F.args.length F.ca, .iface 41 (.pointer (some ⟨F.sb, 0, none⟩)), .int .i64 (f : Nat)] w fun e w' => ∃ S g, e = .returned (.tuple #[.pointer (some ⟨g, 0, none⟩), .agg #[.int .i64 0, .int .i64 0, .int .i64 0, .slice none 0 0, .slice none 0 0, .slice none 0 0, .slice none 0 0, .int .i64 0]]) ∧ MAt S w' g F (mc0 f) ∧ (∀ q, S q → w.heap.size ≤ q ∨ q = F.sb) ∧ Below w.heap.size w w' := by
  have hF := hid h
  have hr := hid h.args
  obtain ⟨Aa9, hAa⟩ : ∃ A, Hid (F.Aa = A) := ⟨_, hid rfl⟩
  rw [hAa.out] at hr ⊢
  have hal := hid han
  have hsz := hid hsz0
  have t0 : (F.p.check.1 != 0) = false := by simpa using hc
  have hp := h.code
  have hall9 := hid hv
  clear h han hsz0 hc hv
  have hB0 : Below w.heap.size w ((w.alloc (.cells #[.int .i64 F.p.args, .slice F.Ac F.p.cs.length F.cc, .slice F.Ai F.p.code.length F.ci] 33)).alloc (.cells #[.int .i64 0, .int .i64 0, .int .i64 0, .slice none 0 0, .slice none 0 0, .slice none 0 0, .slice none 0 0, .int .i64 0] 29)) := below_two _ _
  have kp := hid (show Blk ((w.alloc (.cells #[.int .i64 F.p.args, .slice F.Ac F.p.cs.length F.cc, .slice F.Ai F.p.code.length F.ci] 33)).alloc (.cells #[.int .i64 0, .int .i64 0, .int .i64 0, .slice none 0 0, .slice none 0 0, .slice none 0 0, .slice none 0 0, .int .i64 0] 29)) w.heap.size 33 #[.int .i64 F.p.args, .slice F.Ac F.p.cs.length F.cc, .slice F.Ai F.p.code.length F.ci] from (Blk.new w _ _).alloc _)
  have ko := hid (show Blk ((w.alloc (.cells #[.int .i64 F.p.args, .slice F.Ac F.p.cs.length F.cc, .slice F.Ai F.p.code.length F.ci] 33)).alloc (.cells #[.int .i64 0, .int .i64 0, .int .i64 0, .slice none 0 0, .slice none 0 0, .slice none 0 0, .slice none 0 0, .int .i64 0] 29)) (w.heap.size + 1) 29 #[.int .i64 0, .int .i64 0, .int .i64 0, .slice none 0 0, .slice none 0 0, .slice none 0 0, .slice none 0 0, .int .i64 0] from Blk.new' _ _ _ (by simp))
  have hck := hid (check_any F.p _ F.Ac F.Ai F.cc F.ci _ (hp.below hB0))
  have hB := hid hB0
  clear hB0
  go_enter Tryz.func39, Tryz.ntmps39
  go_upto_region 1 with fail
  generalize (w.alloc (.cells #[.int .i64 F.p.args, .slice F.Ac F.p.cs.length F.cc, .slice F.Ai F.p.code.length F.ci] 33)).alloc (.cells #[.int .i64 0, .int .i64 0, .int .i64 0, .slice none 0 0, .slice none 0 0, .slice none 0 0, .slice none 0 0, .int .i64 0] 29) = w1 at *
  have p0 := kp.out.cell 0
  have p1 := kp.out.cell 1
  have p2 := kp.out.cell 2
  simp only [List.getElem?_toArray, List.getElem?_cons_zero, List.getElem?_cons_succ] at p0 p1 p2
  go_wp2_with fail
  refine hck.out.mono ?_
  rintro e w2 ⟨rfl, hb⟩
  have hB2 := hid (hB.out.trans (hb.mono hB.out.size))
  have kp2 := hid (kp.out.below_all hb)
  have ko2 := hid (ko.out.below_all hb)
  clear hb p0 p1 p2 kp ko hB hck
  have p0 := kp2.out.cell 0
  simp only [List.getElem?_toArray, List.getElem?_cons_zero] at p0
  have t1 : ((F.args.length : Int) == F.p.args) = true := by simpa using hal9
  have t2 : decide (0 ≤ (f : Int)) = true := decide_eq_true (by omega)
  have t3 : decide ((f : Int) ≤ 100000) = true := decide_eq_true (by omega)
  have t3n : decide (f ≤ 100000) = true := decide_eq_true hf
  have hsn := neq_srcI F.sb
  have hmm := @run_makeMap Tryz.prog
  clear hal9 hp
  go_wp2_with fail
  go_loopw [12, 44] (fun v12 v44 wr => ∃ i : Nat, v12 = .bool ((F.args.take i).all okA) ∧ v44 = .int .i64 i ∧ i ≤ F.args.length ∧ Below w2.heap.size w2 wr) (fun _ v _ => F.args.length - (intOf v).toNat)
  case atStart => exact ⟨0, by simp, rfl, Nat.zero_le _, Below.refl _ _⟩
  case round =>
    obtain ⟨i, rfl, rfl, hil, hbr0⟩ := hrel
    have hbr := hid hbr0
    clear hbr0
    by_cases hlt : i < F.args.length
    · have i1 : (i : Int) < (F.args.length : Int) := by omega
      have i2 : IntKind.i64.wrap ((i : Int) + 1) = (i : Int) + 1 := by rw [IntKind.wrap_i64]; have := hal.out; omega
      obtain ⟨b9, o9, hA9, _, y0, y1, y2⟩ := ((hr.out.below_all hB2.out).below_all hbr.out).val_at hlt
      obtain rfl := hA9
      have htk : Hid ((F.args.take (i + 1)).all okA = ((F.args.take i).all okA && okA (F.args[i]'hlt))) := hid (by rw [List.take_succ_eq_append_getElem hlt, List.all_append]; simp)
      have hvs := hid (hsz.out _ (List.getElem_mem hlt))
      generalize F.args[i] = v at *
      have hlt9 := hid hlt
      have hb7 := hid (hbr.out.alloc hbr.out.size (.cells #[.int .i64 v.k, .int .i64 v.n, .string v.s] 55))
      have kv := hid (Blk.new wr 55 #[.int .i64 v.k, .int .i64 v.n, .string v.s])
      clear hlt hil
      go_upto_region 8 with fail
      generalize wr.alloc (.cells #[.int .i64 v.k, .int .i64 v.n, .string v.s] 55) = w7 at *
      obtain ⟨m7, hm7⟩ : ∃ m7, Hid (wr.heap.size = m7) := ⟨_, hid rfl⟩
      rw [hm7.out] at kv ⊢
      clear y0 y1 y2
      have y0 := kv.out.cell 0
      have y1 := kv.out.cell 1
      have y2 := kv.out.cell 2
      simp only [List.getElem?_toArray, List.getElem?_cons_zero, List.getElem?_cons_succ] at y0 y1 y2
      cases hb0 : ((F.args.take i).all okA) with
      | false =>
        have hn : Hid (((F.args.take (i + 1)).all okA) = false) := hid (by rw [htk.out, hb0]; rfl)
        clear hb0
        go_wp2_with fail
        go_roundw
        case rel => exact ⟨i + 1, by rw [hn.out], by go_num, hlt9.out, hb7.out⟩
        case measure => simp [intOf]; have := hlt9.out; omega
      | true =>
        have hn : Hid (((F.args.take (i + 1)).all okA) = okA v) := hid (by rw [htk.out, hb0]; rfl)
        clear hb0
        go_wp2_with fail
        refine (valid_any v _ hvs.out).mono ?_
        rintro e w8 ⟨rfl, hb8⟩
        have hb9 := hid (hb7.out.trans (hb8.mono hb7.out.size))
        have kv8 := hid (kv.out.below_all hb8)
        clear hb8 y0 y1 y2
        have y0 := kv8.out.cell 0
        simp only [List.getElem?_toArray, List.getElem?_cons_zero] at y0
        cases ho : v.ok with
        | false =>
          have hv : Hid (okA v = false) := hid (by unfold okA; rw [ho]; rfl)
          clear ho
          go_wp2_with fail
          go_roundw
          case rel => exact ⟨i + 1, by rw [hn.out, hv.out], by go_num, hlt9.out, hb9.out⟩
          case measure => simp [intOf]; have := hlt9.out; omega
        | true =>
          by_cases hk : v.k = 0
          · have t1 : (v.k != 0) = false := by simpa using hk
            have hv : Hid (okA v = false) := hid (by unfold okA; rw [ho]; simp [hk])
            clear hk ho
            go_wp2_with fail
            go_roundw
            case rel => exact ⟨i + 1, by rw [hn.out, hv.out], by go_num, hlt9.out, hb9.out⟩
            case measure => simp [intOf]; have := hlt9.out; omega
          · have t1 : (v.k != 0) = true := by simpa using hk
            have hv : Hid (okA v = true) := hid (by unfold okA; rw [ho]; simp [hk])
            clear hk ho
            go_wp2_with fail
            go_roundw
            case rel => exact ⟨i + 1, by rw [hn.out, hv.out], by go_num, hlt9.out, hb9.out⟩
            case measure => simp [intOf]; have := hlt9.out; omega
    · obtain rfl : i = F.args.length := by omega
      rw [List.take_length]
      have hB3 := hid (hB2.out.trans (hbr.out.mono hB2.out.size))
      have ko3 := hid (ko2.out.below_all hbr.out)
      have kp3 := hid (kp2.out.below_all hbr.out)
      clear hbr hil hlt
      rw [hall9.out]
      have p0 := kp3.out.cell 0
      have p1 := kp3.out.cell 1
      have p2 := kp3.out.cell 2
      simp only [List.getElem?_toArray, List.getElem?_cons_zero, List.getElem?_cons_succ] at p0 p1 p2
      have hso : Hid (w.heap.size + 1 < wr.heap.size) := hid ko3.out.lt
      have hsw : Hid (w.heap.size ≤ wr.heap.size) := hid hB3.out.size
      have hB4 : Hid (Below w.heap.size w (((wr.alloc (.map #[] 0)).alloc (.map #[] 0)).alloc (.cells #[.int .i64 F.p.args, .slice F.Ac F.p.cs.length F.cc, .slice F.Ai F.p.code.length F.ci, .slice Aa9 F.args.length F.ca, .iface 41 (.pointer (some ⟨F.sb, 0, none⟩)), .slice none 0 0, .int .i64 0, .int .i64 (f : Nat), .slice none 0 0, .slice none 0 0, .map (some wr.heap.size), .map (some (wr.heap.size + 1))] 97))) := hid (((hB3.out.alloc hB3.out.size _).alloc (by have := hsw.out; simp; omega) _).alloc (by have := hsw.out; simp; omega) _)
      have kg : Hid (Blk (((wr.alloc (.map #[] 0)).alloc (.map #[] 0)).alloc (.cells #[.int .i64 F.p.args, .slice F.Ac F.p.cs.length F.cc, .slice F.Ai F.p.code.length F.ci, .slice Aa9 F.args.length F.ca, .iface 41 (.pointer (some ⟨F.sb, 0, none⟩)), .slice none 0 0, .int .i64 0, .int .i64 (f : Nat), .slice none 0 0, .slice none 0 0, .map (some wr.heap.size), .map (some (wr.heap.size + 1))] 97)) (wr.heap.size + 2) 97 #[.int .i64 F.p.args, .slice F.Ac F.p.cs.length F.cc, .slice F.Ai F.p.code.length F.ci, .slice Aa9 F.args.length F.ca, .iface 41 (.pointer (some ⟨F.sb, 0, none⟩)), .slice none 0 0, .int .i64 0, .int .i64 (f : Nat), .slice none 0 0, .slice none 0 0, .map (some wr.heap.size), .map (some (wr.heap.size + 1))]) := hid (Blk.new' _ _ _ (by simp))
      have kr : Hid (MapF strE (((wr.alloc (.map #[] 0)).alloc (.map #[] 0)).alloc (.cells #[.int .i64 F.p.args, .slice F.Ac F.p.cs.length F.cc, .slice F.Ai F.p.code.length F.ci, .slice Aa9 F.args.length F.ca, .iface 41 (.pointer (some ⟨F.sb, 0, none⟩)), .slice none 0 0, .int .i64 0, .int .i64 (f : Nat), .slice none 0 0, .slice none 0 0, .map (some wr.heap.size), .map (some (wr.heap.size + 1))] 97)) wr.heap.size (fun _ => none)) := hid (((MapF.new wr).below ((Below.refl _ _).alloc (Nat.le_refl _) _)).below ((Below.refl _ _).alloc (Nat.le_refl _) _))
      have kw : Hid (MapF strE (((wr.alloc (.map #[] 0)).alloc (.map #[] 0)).alloc (.cells #[.int .i64 F.p.args, .slice F.Ac F.p.cs.length F.cc, .slice F.Ai F.p.code.length F.ci, .slice Aa9 F.args.length F.ca, .iface 41 (.pointer (some ⟨F.sb, 0, none⟩)), .slice none 0 0, .int .i64 0, .int .i64 (f : Nat), .slice none 0 0, .slice none 0 0, .map (some wr.heap.size), .map (some (wr.heap.size + 1))] 97)) (wr.heap.size + 1) (fun _ => none)) := hid (by
        have h9 := MapF.new (E := strE) (wr.alloc (.map #[] 0))
        have e : (wr.alloc (.map #[] 0)).heap.size = wr.heap.size + 1 := by simp
        rw [e] at h9
        exact h9.below ((Below.refl _ _).alloc (Nat.le_refl _) _))
      have ko4 := hid (((ko3.out.alloc (.map #[] 0)).alloc (.map #[] 0)).alloc (.cells #[.int .i64 F.p.args, .slice F.Ac F.p.cs.length F.cc, .slice F.Ai F.p.code.length F.ci, .slice Aa9 F.args.length F.ca, .iface 41 (.pointer (some ⟨F.sb, 0, none⟩)), .slice none 0 0, .int .i64 0, .int .i64 (f : Nat), .slice none 0 0, .slice none 0 0, .map (some wr.heap.size), .map (some (wr.heap.size + 1))] 97))
      have hU9' := fun u0 u1 u2 u3 u4 u5 u6 u7 => ((((((((Upd.refl (fun q => q = w.heap.size + 1) (((wr.alloc (.map #[] 0)).alloc (.map #[] 0)).alloc (.cells #[.int .i64 F.p.args, .slice F.Ac F.p.cs.length F.cc, .slice F.Ai F.p.code.length F.ci, .slice Aa9 F.args.length F.ca, .iface 41 (.pointer (some ⟨F.sb, 0, none⟩)), .slice none 0 0, .int .i64 0, .int .i64 (f : Nat), .slice none 0 0, .slice none 0 0, .map (some wr.heap.size), .map (some (wr.heap.size + 1))] 97))).setCell (p := ⟨w.heap.size + 1, 0, none⟩) (fun _ => rfl) u0).setCell (p := ⟨w.heap.size + 1, 1, none⟩) (fun _ => rfl) u1).setCell (p := ⟨w.heap.size + 1, 2, none⟩) (fun _ => rfl) u2).setCell (p := ⟨w.heap.size + 1, 3, none⟩) (fun _ => rfl) u3).setCell (p := ⟨w.heap.size + 1, 4, none⟩) (fun _ => rfl) u4).setCell (p := ⟨w.heap.size + 1, 5, none⟩) (fun _ => rfl) u5).setCell (p := ⟨w.heap.size + 1, 6, none⟩) (fun _ => rfl) u6).setCell (p := ⟨w.heap.size + 1, 7, none⟩) (fun _ => rfl) u7
      have z0 := ko4.out.cell 0
      have z1 := ko4.out.cell 1
      have z2 := ko4.out.cell 2
      have z3 := ko4.out.cell 3
      have z4 := ko4.out.cell 4
      have z5 := ko4.out.cell 5
      have z6 := ko4.out.cell 6
      have z7 := ko4.out.cell 7
      simp only [List.getElem?_toArray, List.getElem?_cons_zero, List.getElem?_cons_succ] at z0 z1 z2 z3 z4 z5 z6 z7
      have fz := fun q => ko4.out.frozen q
      go_wp2_with fail
      refine bodyPost_ret (v := .tuple #[.pointer (some ⟨wr.heap.size + 1 + 1, 0, none⟩), .agg #[.int .i64 0, .int .i64 0, .int .i64 0, .slice none 0 0, .slice none 0 0, .slice none 0 0, .slice none 0 0, .int .i64 0]]) (start_res (show Blk _ (w.heap.size + 1) 29 #[.int .i64 0, .int .i64 0, .int .i64 0, .slice none 0 0, .slice none 0 0, .slice none 0 0, .slice none 0 0, .int .i64 0] from by simpa using ((((((((ko4.out.set_ 0 _).set_ 1 _).set_ 2 _).set_ 3 _).set_ 4 _).set_ 5 _).set_ 6 _).set_ 7 _)) rfl rfl ⟨rfl, rfl⟩) rfl ⟨fun q => q = F.sb ∨ q = wr.heap.size ∨ q = wr.heap.size + 1 ∨ q = wr.heap.size + 1 + 1, wr.heap.size + 1 + 1, rfl, ?_, ?_, ((((((((hB4.out.setCell (p := ⟨w.heap.size + 1, 0, none⟩) (Nat.le_succ _) _).setCell (p := ⟨w.heap.size + 1, 1, none⟩) (Nat.le_succ _) _).setCell (p := ⟨w.heap.size + 1, 2, none⟩) (Nat.le_succ _) _).setCell (p := ⟨w.heap.size + 1, 3, none⟩) (Nat.le_succ _) _).setCell (p := ⟨w.heap.size + 1, 4, none⟩) (Nat.le_succ _) _).setCell (p := ⟨w.heap.size + 1, 5, none⟩) (Nat.le_succ _) _).setCell (p := ⟨w.heap.size + 1, 6, none⟩) (Nat.le_succ _) _).setCell (p := ⟨w.heap.size + 1, 7, none⟩) (Nat.le_succ _) _)⟩
      · refine ⟨ad0 wr.heap.size (wr.heap.size + 1), MIn.new hF.out (((((((((hB4.out.setCell (p := ⟨w.heap.size + 1, 0, none⟩) (Nat.le_succ _) _).setCell (p := ⟨w.heap.size + 1, 1, none⟩) (Nat.le_succ _) _).setCell (p := ⟨w.heap.size + 1, 2, none⟩) (Nat.le_succ _) _).setCell (p := ⟨w.heap.size + 1, 3, none⟩) (Nat.le_succ _) _).setCell (p := ⟨w.heap.size + 1, 4, none⟩) (Nat.le_succ _) _).setCell (p := ⟨w.heap.size + 1, 5, none⟩) (Nat.le_succ _) _).setCell (p := ⟨w.heap.size + 1, 6, none⟩) (Nat.le_succ _) _).setCell (p := ⟨w.heap.size + 1, 7, none⟩) (Nat.le_succ _) _)) ?_ ?_ ?_ ⟨hsw.out, by omega, by omega⟩, rfl⟩
        · have e : #[.int .i64 F.p.args, .slice F.Ac F.p.cs.length F.cc, .slice F.Ai F.p.code.length F.ci, .slice Aa9 F.args.length F.ca, .iface 41 (.pointer (some ⟨F.sb, 0, none⟩)), .slice none 0 0, .int .i64 0, .int .i64 (f : Nat), .slice none 0 0, .slice none 0 0, .map (some wr.heap.size), .map (some (wr.heap.size + 1))] = mCells F (mc0 f) (ad0 wr.heap.size (wr.heap.size + 1)) := by rw [← hAa.out]; rfl
          rw [← e]
          exact kg.out.upd (hU9' _ _ _ _ _ _ _ _) (fun e => by have := hso.out; omega)
        · exact kr.out.upd (hU9' _ _ _ _ _ _ _ _) (fun e => by have := hso.out; omega)
        · exact kw.out.upd (hU9' _ _ _ _ _ _ _ _) (fun e => by have := hso.out; omega)
      · intro q hq
        have := hsw.out
        rcases hq with e | e | e | e
        · exact .inr e
        · left; omega
        · left; omega
        · left; omega
end
end Go.Proofs.YtdmogoaaecdbaaaGreatDoor

namespace Go.Proofs.YtdmogoaaecdbaaaGreatDoor
open Go.RowKit
set_option linter.unusedVariables false
set_option linter.unusedSimpArgs false

def useN (rs ws : List ByteArray) (k : ByteArray) : Nat := (if memB k rs = true then 1 else 0) + (if memB k ws = true then 2 else 0)
/-- what the set has -/
def Dft (rs ws : List ByteArray) (k : ByteArray) : Option Value := if useN rs ws k = 0 then none else some (.int .u8 (useN rs ws k : Nat))
theorem zeroU (w : World) : (zeroValue 5).run Tryz.prog w = .ok (.int .u8 0) w := by kernel_rfl
theorem dft_val (rs ws : List ByteArray) (k : ByteArray) : (Dft rs ws k).getD (.int .u8 0) = .int .u8 (useN rs ws k : Nat) := by
  unfold Dft
  by_cases h : useN rs ws k = 0
  · rw [if_pos h, h]; rfl
  · rw [if_neg h]; rfl
theorem use_read {rs ws : List ByteArray} {k y : ByteArray} : useN (rs ++ [k]) ws y = if y = k then 1 + (if memB k ws = true then 2 else 0) else useN rs ws y := by
  unfold useN
  rw [memB_snoc]
  by_cases e : y = k
  · subst e; simp
  · have e2 : ¬ k = y := fun h => e h.symm
    simp [e, e2]
theorem use_write {rs ws : List ByteArray} {k y : ByteArray} : useN rs (ws ++ [k]) y = if y = k then (if memB k rs = true then 1 else 0) + 2 else useN rs ws y := by
  unfold useN
  rw [memB_snoc]
  by_cases e : y = k
  · subst e; simp
  · have e2 : ¬ k = y := fun h => e h.symm
    simp [e, e2]
section
variable {w : World} {rs ws : List ByteArray} {Ar Aw : Option Addr} {cr cw : Nat} {Sr Sw : Nat → Prop}
set_option maxRecDepth 100000 in
set_option maxHeartbeats 4000000 in
theorem of_any2 (hr : Rd Sr w 1 Ar rs.length (strs rs)) (hw : Rd Sw w 1 Aw ws.length (strs ws)) (hl : rs.length ≤ 1000000 ∧ ws.length ≤ 1000000) : Calls Tryz.prog 109 #[.agg #[.slice Ar rs.length cr, .slice Aw ws.length cw]] w fun e w' => ∃ b, e = .returned (.map (some b)) ∧ MapF strE w' b (Dft rs ws) ∧ Below w.heap.size w w' ∧ w.heap.size ≤ b := by
  have hrr := hid hr
  have hww := hid hw
  have hln := hid hl
  have hmm := @run_makeMap Tryz.prog
  have hB0 : Below w.heap.size w (w.alloc (.cells #[.slice Ar rs.length cr, .slice Aw ws.length cw] 27)) := (Below.refl _ _).alloc (Nat.le_refl _) _
  have kf := hid (Blk.new w 27 #[.slice Ar rs.length cr, .slice Aw ws.length cw])
  have hB := hid hB0
  clear hr hw hl hB0
  go_enter Tryz.func109, Tryz.ntmps109
  go_upto_region 1 with fail
  have hs1 : Hid ((w.alloc (.cells #[.slice Ar rs.length cr, .slice Aw ws.length cw] 27)).heap.size = w.heap.size + 1) := hid (by simp)
  generalize w.alloc (.cells #[.slice Ar rs.length cr, .slice Aw ws.length cw] 27) = w1 at *
  go_upto_region 2 with fail
  have hm0 : Hid (MapF strE (w1.alloc (.map #[] 0)) w1.heap.size (Dft [] [])) := hid ((MapF.new w1).congr fun y => by unfold Dft useN memB; simp)
  have hb0 := hid (hB.out.alloc hB.out.size (.map #[] 0))
  have kf1 := hid (kf.out.alloc (.map #[] 0))
  have hbb : Hid (w.heap.size < w1.heap.size) := hid (by have := hs1.out; omega)
  generalize w1.alloc (.map #[] 0) = w2 at *
  generalize w1.heap.size = b at *
  have hbl := hid hbb.out
  have hbb : Hid (w.heap.size ≤ b) := hid (by have := hbb.out; omega)
  have x0 := kf1.out.cell 0
  have x1 := kf1.out.cell 1
  simp only [List.getElem?_toArray, List.getElem?_cons_zero, List.getElem?_cons_succ] at x0 x1
  go_wp2_with fail
  go_loopw [12] (fun v wr => ∃ i : Nat, v = .int .i64 i ∧ i ≤ rs.length ∧ MapF strE wr b (Dft (rs.take i) []) ∧ Below w.heap.size w wr ∧ Blk wr w.heap.size 27 #[.slice Ar rs.length cr, .slice Aw ws.length cw]) (fun v _ => rs.length - (intOf v).toNat)
  case atStart => exact ⟨0, rfl, Nat.zero_le _, hm0.out, hb0.out, kf1.out⟩
  case round =>
    clear hm0 hb0
    obtain ⟨i, rfl, hil, hm0, hb0, hk0⟩ := hrel
    have hm := hid hm0
    have hb := hid hb0
    have hk := hid hk0
    clear hk0
    clear hm0 hb0
    by_cases hlt : i < rs.length
    · have i1 : (i : Int) < (rs.length : Int) := by omega
      have i2 : IntKind.i64.wrap ((i : Int) + 1) = (i : Int) + 1 := by rw [IntKind.wrap_i64]; have := hln.out; omega
      obtain ⟨b9, o9, hA9, _, _, y0⟩ := rd_strs (hrr.out.below_all hb.out) hlt
      obtain rfl := hA9
      have htk : Hid (rs.take (i + 1) = rs.take i ++ [rs[i]'hlt]) := hid (List.take_succ_eq_append_getElem hlt)
      generalize rs[i] = key at *
      have hlt9 := hid hlt
      clear hlt hil
      have lk : (Instr.lookup 170 (.map (some b)) (.string key) false).run Tryz.prog wr = .ok (.int .u8 (useN (rs.take i) [] key : Nat)) wr := by
        have h9 := hm.out.lookup Tryz.underlying170 zeroU key
        rw [dft_val] at h9
        exact h9
      cases h1 : memB key (rs.take i) with
      | false =>
        have h1 := hid h1
        have h3 : Hid (memB key [] = false) := hid rfl
        have hbi : bits BinOp.or IntKind.u8 0 1 = 1 := by decide
        rw [show useN (rs.take i) [] key = 0 from by unfold useN; simp [h1.out, h3.out]] at lk
        obtain ⟨w5, hup0, hmp0, hgr0, hsz0⟩ := hm.out.update Tryz.underlying170 key (.int .u8 1)
        have hup : (Instr.mapUpdate 170 (.map (some b)) (.string key) (.int .u8 1)).run Tryz.prog wr = .ok () w5 := hup0
        have hb5 := hid (hb.out.grown hgr0 hb.out.size fun k hk => by injection hk with hk; have := hbb.out; omega)
        have hk5 := hid (hk.out.grown hgr0 (by intro h; injection h with h; have := hbl.out; omega))
        have hm5 : Hid (MapF strE w5 b (Dft (rs.take (i + 1)) [])) := hid (hmp0.congr fun y => by
          unfold Dft
          rw [htk.out, use_read]
          by_cases e : y = key
          · subst e; simp [h1.out, h3.out]
          · simp [e])
        clear hup0 hmp0 hgr0 hsz0
        go_wp2_with fail
        go_roundw
        case rel => exact ⟨i + 1, by go_num, hlt9.out, hm5.out, hb5.out, hk5.out⟩
        case measure => simp [intOf]; have := hlt9.out; omega
      | true =>
        have h1 := hid h1
        have h3 : Hid (memB key [] = false) := hid rfl
        have hbi : bits BinOp.or IntKind.u8 1 1 = 1 := by decide
        rw [show useN (rs.take i) [] key = 1 from by unfold useN; simp [h1.out, h3.out]] at lk
        obtain ⟨w5, hup0, hmp0, hgr0, hsz0⟩ := hm.out.update Tryz.underlying170 key (.int .u8 1)
        have hup : (Instr.mapUpdate 170 (.map (some b)) (.string key) (.int .u8 1)).run Tryz.prog wr = .ok () w5 := hup0
        have hb5 := hid (hb.out.grown hgr0 hb.out.size fun k hk => by injection hk with hk; have := hbb.out; omega)
        have hk5 := hid (hk.out.grown hgr0 (by intro h; injection h with h; have := hbl.out; omega))
        have hm5 : Hid (MapF strE w5 b (Dft (rs.take (i + 1)) [])) := hid (hmp0.congr fun y => by
          unfold Dft
          rw [htk.out, use_read]
          by_cases e : y = key
          · subst e; simp [h1.out, h3.out]
          · simp [e])
        clear hup0 hmp0 hgr0 hsz0
        go_wp2_with fail
        go_roundw
        case rel => exact ⟨i + 1, by go_num, hlt9.out, hm5.out, hb5.out, hk5.out⟩
        case measure => simp [intOf]; have := hlt9.out; omega
    · obtain rfl : i = rs.length := by omega
      rw [List.take_length] at hm
      clear hlt hil

      have x1 : wr.cell? ⟨w.heap.size, 1, none⟩ = some (.slice Aw ws.length cw) := hk.out.cell 1
      go_wp2_with fail
      have hm0 := hm
      have hb0 := hb
      clear hm hb
      rename World => wq
      go_loopw [24] (fun v wr => ∃ i : Nat, v = .int .i64 i ∧ i ≤ ws.length ∧ MapF strE wr b (Dft rs (ws.take i)) ∧ Below w.heap.size w wr) (fun v _ => ws.length - (intOf v).toNat)
      case atStart => exact ⟨0, rfl, Nat.zero_le _, by simpa using hm0.out, hb0.out⟩
      case round =>
        clear hm0 hb0
        obtain ⟨i, rfl, hil, hm0, hb0⟩ := hrel
        have hm := hid hm0
        have hb := hid hb0
        clear hm0 hb0
        by_cases hlt : i < ws.length
        · have i1 : (i : Int) < (ws.length : Int) := by omega
          have i2 : IntKind.i64.wrap ((i : Int) + 1) = (i : Int) + 1 := by rw [IntKind.wrap_i64]; have := hln.out; omega
          obtain ⟨b9, o9, hA9, _, _, y0⟩ := rd_strs (hww.out.below_all hb.out) hlt
          obtain rfl := hA9
          have htk : Hid (ws.take (i + 1) = ws.take i ++ [ws[i]'hlt]) := hid (List.take_succ_eq_append_getElem hlt)
          generalize ws[i] = key at *
          have hlt9 := hid hlt
          clear hlt hil
          have lk : (Instr.lookup 170 (.map (some b)) (.string key) false).run Tryz.prog wr = .ok (.int .u8 (useN rs (ws.take i) key : Nat)) wr := by
            have h9 := hm.out.lookup Tryz.underlying170 zeroU key
            rw [dft_val] at h9
            exact h9
          cases h1 : memB key rs with
          | false =>
            cases h2 : memB key (ws.take i) with
            | false =>
              have h1 := hid h1
              have h2 := hid h2
              have hbi : bits BinOp.or IntKind.u8 0 2 = 2 := by decide
              rw [show useN rs (ws.take i) key = 0 from by unfold useN; simp [h1.out, h2.out]] at lk
              obtain ⟨w5, hup0, hmp0, hgr0, hsz0⟩ := hm.out.update Tryz.underlying170 key (.int .u8 2)
              have hup : (Instr.mapUpdate 170 (.map (some b)) (.string key) (.int .u8 2)).run Tryz.prog wr = .ok () w5 := hup0
              have hb5 := hid (hb.out.grown hgr0 hb.out.size fun k hk => by injection hk with hk; have := hbb.out; omega)
              have hm5 : Hid (MapF strE w5 b (Dft rs (ws.take (i + 1)))) := hid (hmp0.congr fun y => by
                unfold Dft
                rw [htk.out, use_write]
                by_cases e : y = key
                · subst e; simp [h1.out, h2.out]
                · simp [e])
              clear hup0 hmp0 hgr0 hsz0
              go_wp2_with fail
              go_roundw
              case rel => exact ⟨i + 1, by go_num, hlt9.out, hm5.out, hb5.out⟩
              case measure => simp [intOf]; have := hlt9.out; omega
            | true =>
              have h1 := hid h1
              have h2 := hid h2
              have hbi : bits BinOp.or IntKind.u8 2 2 = 2 := by decide
              rw [show useN rs (ws.take i) key = 2 from by unfold useN; simp [h1.out, h2.out]] at lk
              obtain ⟨w5, hup0, hmp0, hgr0, hsz0⟩ := hm.out.update Tryz.underlying170 key (.int .u8 2)
              have hup : (Instr.mapUpdate 170 (.map (some b)) (.string key) (.int .u8 2)).run Tryz.prog wr = .ok () w5 := hup0
              have hb5 := hid (hb.out.grown hgr0 hb.out.size fun k hk => by injection hk with hk; have := hbb.out; omega)
              have hm5 : Hid (MapF strE w5 b (Dft rs (ws.take (i + 1)))) := hid (hmp0.congr fun y => by
                unfold Dft
                rw [htk.out, use_write]
                by_cases e : y = key
                · subst e; simp [h1.out, h2.out]
                · simp [e])
              clear hup0 hmp0 hgr0 hsz0
              go_wp2_with fail
              go_roundw
              case rel => exact ⟨i + 1, by go_num, hlt9.out, hm5.out, hb5.out⟩
              case measure => simp [intOf]; have := hlt9.out; omega
          | true =>
            cases h2 : memB key (ws.take i) with
            | false =>
              have h1 := hid h1
              have h2 := hid h2
              have hbi : bits BinOp.or IntKind.u8 1 2 = 3 := by decide
              rw [show useN rs (ws.take i) key = 1 from by unfold useN; simp [h1.out, h2.out]] at lk
              obtain ⟨w5, hup0, hmp0, hgr0, hsz0⟩ := hm.out.update Tryz.underlying170 key (.int .u8 3)
              have hup : (Instr.mapUpdate 170 (.map (some b)) (.string key) (.int .u8 3)).run Tryz.prog wr = .ok () w5 := hup0
              have hb5 := hid (hb.out.grown hgr0 hb.out.size fun k hk => by injection hk with hk; have := hbb.out; omega)
              have hm5 : Hid (MapF strE w5 b (Dft rs (ws.take (i + 1)))) := hid (hmp0.congr fun y => by
                unfold Dft
                rw [htk.out, use_write]
                by_cases e : y = key
                · subst e; simp [h1.out, h2.out]
                · simp [e])
              clear hup0 hmp0 hgr0 hsz0
              go_wp2_with fail
              go_roundw
              case rel => exact ⟨i + 1, by go_num, hlt9.out, hm5.out, hb5.out⟩
              case measure => simp [intOf]; have := hlt9.out; omega
            | true =>
              have h1 := hid h1
              have h2 := hid h2
              have hbi : bits BinOp.or IntKind.u8 3 2 = 3 := by decide
              rw [show useN rs (ws.take i) key = 3 from by unfold useN; simp [h1.out, h2.out]] at lk
              obtain ⟨w5, hup0, hmp0, hgr0, hsz0⟩ := hm.out.update Tryz.underlying170 key (.int .u8 3)
              have hup : (Instr.mapUpdate 170 (.map (some b)) (.string key) (.int .u8 3)).run Tryz.prog wr = .ok () w5 := hup0
              have hb5 := hid (hb.out.grown hgr0 hb.out.size fun k hk => by injection hk with hk; have := hbb.out; omega)
              have hm5 : Hid (MapF strE w5 b (Dft rs (ws.take (i + 1)))) := hid (hmp0.congr fun y => by
                unfold Dft
                rw [htk.out, use_write]
                by_cases e : y = key
                · subst e; simp [h1.out, h2.out]
                · simp [e])
              clear hup0 hmp0 hgr0 hsz0
              go_wp2_with fail
              go_roundw
              case rel => exact ⟨i + 1, by go_num, hlt9.out, hm5.out, hb5.out⟩
              case measure => simp [intOf]; have := hlt9.out; omega
        · obtain rfl : i = ws.length := by omega
          rw [List.take_length] at hm
          clear hlt hil
          go_wp2_with fail
          go_ret
          exact ⟨b, rfl, hm.out, hb.out, hbb.out⟩
end
end Go.Proofs.YtdmogoaaecdbaaaGreatDoor

namespace Go.Proofs.YtdmogoaaecdbaaaGreatDoor
open Go.Shelf
def lays190_ren : Go.Shelf.Ren := ⟨fun | 190 => 152 | 125 => 184 | 258 => 183 | 128 => 220 | 129 => 190 | 302 => 211 | 303 => 212 | 304 => 213 | 305 => 214 | 306 => 215 | 307 => 216 | 308 => 217 | 309 => 218 | 310 => 219 | 333 => 233 | 329 => 234 | 330 => 235 | 334 => 236 | 335 => 237 | 336 => 238 | 344 => 243 | n => n, fun | 31 => 25 | 9 => 9 | 3 => 3 | 46 => 241 | 0 => 0 | 51 => 247 | 53 => 154 | 4 => 4 | 183 => 260 | 182 => 259 | 131 => 192 | 5 => 5 | 218 => 273 | 222 => 277 | 228 => 283 | 229 => 58 | n => n, fun | n => n⟩
theorem lays190 : Go.Proofs.Lays.n190 Tryz.prog lays190_ren := {
  mixed := by kernel_rfl
  f125 := Tryz.func184.trans (congrArg some (by kernel_rfl))
  f128 := Tryz.func220.trans (congrArg some (by kernel_rfl))
  f129 := Tryz.func190.trans (congrArg some (by kernel_rfl))
  f190 := Tryz.func152.trans (congrArg some (by kernel_rfl))
  f258 := Tryz.func183.trans (congrArg some (by kernel_rfl))
  f302 := Tryz.func211.trans (congrArg some (by kernel_rfl))
  f303 := Tryz.func212.trans (congrArg some (by kernel_rfl))
  f304 := Tryz.func213.trans (congrArg some (by kernel_rfl))
  f305 := Tryz.func214.trans (congrArg some (by kernel_rfl))
  f306 := Tryz.func215.trans (congrArg some (by kernel_rfl))
  f307 := Tryz.func216.trans (congrArg some (by kernel_rfl))
  f308 := Tryz.func217.trans (congrArg some (by kernel_rfl))
  f309 := Tryz.func218.trans (congrArg some (by kernel_rfl))
  f310 := Tryz.func219.trans (congrArg some (by kernel_rfl))
  f329 := Tryz.func234.trans (congrArg some (by kernel_rfl))
  f330 := Tryz.func235.trans (congrArg some (by kernel_rfl))
  f333 := Tryz.func233.trans (congrArg some (by kernel_rfl))
  f334 := Tryz.func236.trans (congrArg some (by kernel_rfl))
  f335 := Tryz.func237.trans (congrArg some (by kernel_rfl))
  f336 := Tryz.func238.trans (congrArg some (by kernel_rfl))
  f344 := Tryz.func243.trans (congrArg some (by kernel_rfl))
  t0 := Tryz.underlying0
  a0 := Tryz.isAgg0
  z0 := Tryz.sizeOf0
  v0 := Tryz.zeroValue0
  t3 := Tryz.underlying3
  a3 := Tryz.isAgg3
  z3 := Tryz.sizeOf3
  v3 := Tryz.zeroValue3
  t4 := Tryz.underlying4
  a4 := Tryz.isAgg4
  z4 := Tryz.sizeOf4
  v4 := Tryz.zeroValue4
  t5 := Tryz.underlying5
  a5 := Tryz.isAgg5
  z5 := Tryz.sizeOf5
  v5 := Tryz.zeroValue5
  t9 := Tryz.underlying9
  a9 := Tryz.isAgg9
  z9 := Tryz.sizeOf9
  v9 := Tryz.zeroValue9
  t31 := Tryz.underlying25
  a31 := Tryz.isAgg25
  z31 := Tryz.sizeOf25
  v31 := Tryz.zeroValue25
  t46 := Tryz.underlying241
  a46 := Tryz.isAgg241
  z46 := Tryz.sizeOf241
  v46 := Tryz.zeroValue241
  t51 := Tryz.underlying247
  a51 := Tryz.isAgg247
  z51 := Tryz.sizeOf247
  v51 := Tryz.zeroValue247
  t53 := Tryz.underlying154
  a53 := Tryz.isAgg154
  z53 := Tryz.sizeOf154
  v53 := Tryz.zeroValue154
  t131 := Tryz.underlying192
  a131 := Tryz.isAgg192
  z131 := Tryz.sizeOf192
  v131 := Tryz.zeroValue192
  t182 := Tryz.underlying259
  a182 := Tryz.isAgg259
  z182 := Tryz.sizeOf259
  v182 := Tryz.zeroValue259
  t183 := Tryz.underlying260
  a183 := Tryz.isAgg260
  z183 := Tryz.sizeOf260
  v183 := Tryz.zeroValue260
  t218 := Tryz.underlying273
  a218 := Tryz.isAgg273
  z218 := Tryz.sizeOf273
  v218 := Tryz.zeroValue273
  t222 := Tryz.underlying277
  a222 := Tryz.isAgg277
  z222 := Tryz.sizeOf277
  v222 := Tryz.zeroValue277
  t228 := Tryz.underlying283
  a228 := Tryz.isAgg283
  z228 := Tryz.sizeOf283
  v228 := Tryz.zeroValue283
  t229 := Tryz.underlying58
  a229 := Tryz.isAgg58
  z229 := Tryz.sizeOf58
  v229 := Tryz.zeroValue58 }
open Go.Sort Go.RowKit in
theorem slices_Sort_string (blk off cap : Nat) (ss : List (List UInt8)) (w : World) (hH : Holds encStr w blk off ss.toArray) (hblk : blk < w.heap.size) (hsz : ss.length < 4611686018427387904) :
    Calls Tryz.prog 152 #[.slice (some ⟨blk, off, none⟩) ss.length cap] w fun e w' =>
      e = .returned (.tuple #[]) ∧ ∃ n os, w' = grow (putRow encStr (Sort.ahead w n) blk off (ss.mergeSort fun x y => decide (x ≤ y)).toArray) os := Any.slices_Sort_string lays190 blk off cap ss w hH hblk hsz
open Go.RowKit Go.Sort in
/-- .. and plain. (LAID: no walk: one application.) -/
theorem slices_Sort_string_none (p : Option Addr) (cap : Nat) (w : World) :
    Calls Tryz.prog 152 #[.slice p 0 cap] w fun e w' => e = .returned (.tuple #[]) ∧ w' = w := Any.slices_Sort_string_none lays190 p cap w
end Go.Proofs.YtdmogoaaecdbaaaGreatDoor

namespace Go.Proofs.YtdmogoaaecdbaaaGreatDoor
open Go.RowKit Go.Sort Go.Shelf
set_option linter.unusedVariables false
set_option linter.unusedSimpArgs false

theorem bl_lt : ∀ a b : List UInt8, Op.bytesLess a b = decide (a < b)
  | _, [] => by simp [Op.bytesLess]
  | [], _ :: _ => by simp [Op.bytesLess]
  | a :: x, b :: y => by
    have ih := bl_lt x y
    unfold Op.bytesLess
    rw [ih]
    by_cases h1 : a < b
    · simp [h1, List.cons_lt_cons_iff]
    · by_cases h2 : a = b
      · subst h2; simp [List.cons_lt_cons_iff]
      · simp [h1, h2, List.cons_lt_cons_iff]
/-- slices.Sort on the keys, in whatever order they come -/
theorem sort_keys {L : List Kv} {out : List ByteArray} (ha : Asc L) (hp : out.Perm (L.map (·.1))) : (out.map ByteArray.toList).mergeSort (fun x y => decide (x ≤ y)) = L.map fun x => x.1.toList := by
  have h1 : ((out.map ByteArray.toList).mergeSort (fun x y => decide (x ≤ y))).Perm (L.map fun x => x.1.toList) := by
    refine (List.mergeSort_perm _ _).trans ?_
    have := hp.map ByteArray.toList
    rw [List.map_map] at this
    exact this
  have h2 := List.pairwise_mergeSort (le := fun x y : List UInt8 => decide (x ≤ y)) (fun a b c h1 h2 => by simp only [decide_eq_true_eq] at *; exact List.le_trans h1 h2) (fun a b => by simp only [Bool.or_eq_true, decide_eq_true_eq]; exact List.le_total a b) (out.map ByteArray.toList)
  have h3 : (L.map fun x => x.1.toList).Pairwise fun a b => decide (a ≤ b) = true := by
    rw [List.pairwise_map]
    refine ha.imp fun {a b} h => ?_
    unfold ltB at h
    rw [bl_lt] at h
    simp only [decide_eq_true_eq] at *
    exact List.le_of_lt h
  exact List.Perm.eq_of_pairwise (fun a b _ _ h1 h2 => by simp only [decide_eq_true_eq] at *; exact List.le_antisymm h1 h2) h2 h3 h1
theorem enc_of (k : ByteArray) : encStr k.toList = .string k := by
  rw [ByteArray.toList_eq]
theorem strs_get {l : List ByteArray} {j : Nat} (hj : j < l.length) : (strs l)[j]? = some (encStr ((l.map ByteArray.toList).toArray[j]!)) := by
  have h1 : (l.map ByteArray.toList).toArray[j]! = l[j].toList := by simp [hj]
  rw [h1, enc_of]
  simp [strs, hj]
theorem holds_strs {w : World} {g : Nat} {cur : Array Value} {e : TypeId} {l : List ByteArray} (hb : w.heap[g]? = some (.cells cur e (0, 0))) (ht : cur.toList.take (l.length * 1) = strs l) : Holds encStr w g 0 (l.map ByteArray.toList).toArray := by
  intro j hj
  have hj' : j < l.length := by simpa using hj
  have h1 := strs_get hj'
  rw [← ht, List.getElem?_take_of_lt (by omega), Array.getElem?_toList] at h1
  refine ⟨?_, by simp [World.frozen?, hb]⟩
  simp only [World.cell?, hb, Nat.zero_add, Option.isSome_none, Bool.false_eq_true, if_false]
  exact h1
theorem heap_sortedS {w : World} {g n : Nat} {os : Array Obj} {cur : Array Value} {e : TypeId} {fr : Nat × Nat} (d : Array (List UInt8)) (hb : w.heap[g]? = some (.cells cur e fr)) :
    (grow (putRow encStr (Sort.ahead w n) g 0 d) os).heap[g]? = some (.cells (putCells encStr 0 d cur) e fr) := by
  have hg : g < w.heap.size := (Array.getElem?_eq_some_iff.1 hb).1
  rw [heap_grow_old _ _ (by simpa using hg)]
  simp [putRow, mapBlock, Sort.ahead, Array.getElem?_modify, hb, onCells]
theorem grownBy_sortedS {w : World} {g n : Nat} {os : Array Obj} (d : Array (List UInt8)) : w.grownBy (grow (putRow encStr (Sort.ahead w n) g 0 d) os) (some g) := by
  refine ⟨rfl, rfl, rfl, by simp, fun k hk hne => ?_⟩
  rw [heap_grow_old _ _ (by simpa using hk)]
  have : g ≠ k := fun e => hne (by rw [e])
  simp [putRow, mapBlock, Sort.ahead, Array.getElem?_modify, this]
theorem ownsRow_sortedS {w : World} {base g cap n : Nat} {e : TypeId} {os : Array Obj} {cur : Array Value} {ss ts : List ByteArray} (hl : ts.length = ss.length) (hbase : base ≤ g) (hb : w.heap[g]? = some (.cells cur e (0, 0)))
    (h1 : ss.length ≤ cap) (h2 : cap ≤ maxLen) (h3 : cur.size = cap * 1) :
    (grow (putRow encStr (Sort.ahead w n) g 0 (ts.map ByteArray.toList).toArray) os).ownsRow base e 1 (.slice (some ⟨g, 0, none⟩) ss.length cap) ss.length (strs ts) := by
  refine ⟨by simp [strs, hl], .inr ⟨g, cap, _, rfl, hbase, heap_sortedS _ hb, h1, h2, by simp [putCells, h3], ?_⟩⟩
  apply List.ext_getElem?
  intro j
  by_cases hj : j < ts.length
  · rw [List.getElem?_take_of_lt (by omega), Array.getElem?_toList, strs_get hj]
    simp [putCells, hj, show j < cur.size by omega]
  · rw [List.getElem?_take_eq_none (by omega), List.getElem?_eq_none (by simp [strs]; omega)]
theorem sortk_any {base : Nat} {A : Option Addr} {c : Nat} (out : List ByteArray) (L : List Kv) (w : World) (ha : Asc L) (hp : out.Perm (L.map (·.1))) (hn : out.length ≤ 262144) (hown : w.ownsRow base 9 1 (.slice A out.length c) out.length (strs out)) :
    Calls Tryz.prog 152 #[.slice A out.length c] w fun e w' => e = .returned (.tuple #[]) ∧ w'.ownsRow base 9 1 (.slice A out.length c) out.length (strs (L.map (·.1))) ∧ w.grownBy w' (Value.slice A out.length c).ownBlock := by
  have hlen := hp.length_eq
  rcases hown.2 with ⟨hnil, h0⟩ | ⟨g, cap, cur, hv, hbase, hb, h1, h2, h3, h4⟩
  · rw [h0] at hown ⊢
    refine (slices_Sort_string_none A c w).mono ?_
    rintro e w' ⟨rfl, rfl⟩
    obtain rfl := List.eq_nil_of_length_eq_zero h0
    have : L.map (·.1) = [] := List.eq_nil_of_length_eq_zero hlen.symm
    rw [this]
    exact ⟨rfl, hown, World.grownBy.refl _ _⟩
  · injection hv with hA hn2 hc
    subst hA
    have hlt : g < w.heap.size := (Array.getElem?_eq_some_iff.1 hb).1
    have hcon := slices_Sort_string g 0 c (out.map ByteArray.toList) w (holds_strs hb h4) hlt (by simp; omega)
    rw [sort_keys ha hp, List.length_map] at hcon
    refine hcon.mono ?_
    rintro e w' ⟨rfl, n, os, rfl⟩
    refine ⟨rfl, ?_, grownBy_sortedS _⟩
    have := ownsRow_sortedS (n := n) (os := os) (ss := out) (ts := L.map (·.1)) hlen.symm hbase hb h1 h2 h3
    rw [hc]
    rw [List.map_map] at this
    exact this
end Go.Proofs.YtdmogoaaecdbaaaGreatDoor

namespace Go.Proofs.YtdmogoaaecdbaaaGreatDoor
open Go.RowKit
set_option linter.unusedVariables false
set_option linter.unusedSimpArgs false

/-- unlike texts, rising -/
def srtL (l : List ByteArray) : List Kv := insAll [] l
def srtK (l : List ByteArray) : List ByteArray := (srtL l).map (·.1)
theorem srtL_asc (l : List ByteArray) : Asc (srtL l) := insAll_asc (by unfold Asc; exact List.Pairwise.nil)
theorem srtK_nodup (l : List ByteArray) : (srtK l).Nodup := asc_nodup (srtL_asc l)
theorem srtK_mem {l : List ByteArray} {k : ByteArray} : k ∈ srtK l ↔ k ∈ l := by
  unfold srtK
  have h := insAll_has (j := k) (ks := l) (L := [])
  have h1 : k ∈ (srtL l).map (·.1) ↔ hasK k (srtL l) = true := by
    rw [hasK_mem]
    constructor
    · intro h; obtain ⟨x, hx, rfl⟩ := List.mem_map.1 h; exact ⟨x, hx, rfl⟩
    · rintro ⟨x, hx, rfl⟩; exact List.mem_map.2 ⟨x, hx, rfl⟩
  rw [h1]
  unfold srtL
  rw [h]
  simp [hasK]
theorem nodup_leB {α : Type} [DecidableEq α] : ∀ {l m : List α}, l.Nodup → (∀ x ∈ l, x ∈ m) → l.length ≤ m.length := by
  intro l
  induction l with
  | nil => intro m _ _; simp
  | cons a l ih =>
    intro m hn hm
    obtain ⟨h1, h2⟩ := List.nodup_cons.1 hn
    have h3 := hm a (by simp)
    have h4 := ih (m := m.erase a) h2 fun x hx => by
      have e : x ≠ a := fun e => h1 (e ▸ hx)
      exact (List.mem_erase_of_ne e).2 (hm x (by simp [hx]))
    have h5 := List.length_erase_of_mem h3
    have h6 : 0 < m.length := List.length_pos_of_mem h3
    simp only [List.length_cons]
    omega
theorem ft_perm {l new : List (ByteArray × Value)} {L : List ByteArray} (hn : (l.map (·.1)).Nodup) (hp : new.Perm l) (hm : ∀ y, memB y L = true → ∃ v, getK y l = some v) : ((new.map (·.1)).filter fun k => memB k L).Perm (srtK L) := by
  have hp1 := hp.map (·.1)
  refine (List.perm_ext_iff_of_nodup (List.filter_sublist.nodup (hp1.nodup_iff.2 hn)) (srtK_nodup L)).2 fun y => ?_
  rw [srtK_mem, List.mem_filter]
  constructor
  · rintro ⟨_, h⟩; exact memB_iff.1 h
  · intro h
    have h := memB_iff.2 h
    obtain ⟨v, hv⟩ := hm y h
    exact ⟨hp1.mem_iff.2 (List.mem_map.2 ⟨(y, v), (getK_mem hn).1 hv, rfl⟩), h⟩
theorem ft_len {w : World} {b : Nat} {rs ws : List ByteArray} {l : List (ByteArray × Value)} (hn : (l.map (·.1)).Nodup) (hd : ∀ x, getK x l = Dft rs ws x) : l.length ≤ rs.length + ws.length := by
  have h := nodup_leB (m := rs ++ ws) hn fun y hy => by
    obtain ⟨p, hp, rfl⟩ := List.mem_map.1 hy
    have h1 := (getK_mem hn).2 (show (p.1, p.2) ∈ l from hp)
    rw [hd] at h1
    unfold Dft at h1
    split at h1
    · cases h1
    · rename_i h2
      unfold useN at h2
      rw [List.mem_append, ← memB_iff, ← memB_iff]
      cases h3 : memB p.1 rs
      · cases h4 : memB p.1 ws
        · rw [h3, h4] at h2; simp at h2
        · right; rfl
      · left; rfl
  simpa using h
theorem strs_snocI (l : List ByteArray) (k : ByteArray) : strs (l ++ [k]) = strs l ++ [.string k] := by simp [strs]
theorem encs_snocI (l : List (ByteArray × Value)) (k : ByteArray) (v : Value) : encs strE (l ++ [(k, v)]) = encs strE l ++ [(.string k, v)] := by unfold encs; rw [List.map_append]; rfl
theorem own_updI {M : Nat → Prop} {w w' : World} {base : Nat} {e : TypeId} {size n : Nat} {v : Value} {xs : List Value} (h : w.ownsRow base e size v n xs) (hu : Upd M w w') (hM : ∀ k, M k → ∃ a b c d, w.heap[k]? = some (.mapIter a b c d)) : w'.ownsRow base e size v n xs := by
  refine ⟨h.1, ?_⟩
  rcases h.2 with hn | ⟨g, cap, cur, rfl, hg, hh, rest⟩
  · exact .inl hn
  · have hl : g < w.heap.size := (Array.getElem?_eq_some_iff.1 hh).1
    exact .inr ⟨g, cap, cur, rfl, hg, (hu.block g hl fun hm => by obtain ⟨_, _, _, _, h1⟩ := hM g hm; rw [hh] at h1; cases h1).trans hh, rest⟩
theorem own_notI {w : World} {base b : Nat} {e : TypeId} {size n : Nat} {v : Value} {xs : List Value} {m : Option Nat} {a d : Nat} {q : Array Nat} (h : w.ownsRow base e size v n xs) (hb : w.heap[b]? = some (.mapIter m a q d)) : v.ownBlock ≠ some b := by
  intro e
  rcases h.2 with ⟨rfl, _⟩ | ⟨g, cap, cur, rfl, hg, hh, rest⟩
  · cases e
  · injection e with e
    simp only at e
    rw [e, hb] at hh; cases hh
section
variable {w : World} {rs ws : List ByteArray} {b : Nat}
set_option maxRecDepth 100000 in
set_option maxHeartbeats 4000000 in
theorem keys1_any (h : MapF strE w b (Dft rs ws)) (hl : rs.length + ws.length ≤ 262144) : Calls Tryz.prog 110 #[.map (some b), .int .u8 1] w fun e w' => ∃ A c, e = .returned (.slice A (srtK rs).length c) ∧ w'.ownsRow w.heap.size 9 1 (.slice A (srtK rs).length c) (srtK rs).length (strs (srtK rs)) ∧ Below w.heap.size w w' := by
  obtain ⟨i0, hi0, hz0, hz1, hz2⟩ := info_parts info_strI
  obtain ⟨l, hml, hd⟩ := h
  have hll := hid (show l.length ≤ 262144 from Nat.le_trans (ft_len (w := w) (b := b) hml.nodup hd) hl)
  obtain ⟨es, clock, hes, hprs, hst⟩ := id hml
  have hlm := hid hml.lt
  have hM := hid hml
  have hD := hid hd
  have hPr := hid hprs
  have hS := hid hst
  have hE := hid hes
  have hrg := run_range_map (P := Tryz.prog) w 170 9 5 b es clock Tryz.underlying170 hes
  clear hml hd hprs hst hes hl
  go_enter Tryz.func110, Tryz.ntmps110
  go_wp2_with fail
  clear hrg
  go_loopw [5] (fun v wr => ∃ (seen : Array Nat) (c0 : Nat) (new : List (ByteArray × Value)) (out : List ByteArray) (A : Option Addr) (c : Nat), v = .slice A out.length c ∧ wr.heap[w.heap.size]? = some (.mapIter (some b) clock seen c0) ∧ clock ≤ c0 ∧ wr.ownsRow w.heap.size 9 1 (.slice A out.length c) out.length (strs out) ∧ Below w.heap.size w wr ∧ (doneOf es seen).Perm (encs strE new) ∧ out = ((new.map (·.1)).filter fun k => memB k rs)) (fun _ wr => (leftOf es (wr.iterSeen w.heap.size)).size)
  case atStart => exact ⟨#[], clock, [], [], none, 0, rfl, heap_alloc_new _ _, Nat.le_refl _, World.ownsRow_nil _ _ _ _, (Below.refl _ _).alloc (Nat.le_refl _) _, by rw [done_none]; exact List.Perm.nil, rfl⟩
  case round =>
    obtain ⟨seen, c0, new, out, A2, c2, rfl, hr, hc0, hown, hB0, hdone, hout⟩ := hrel
    have ho := hid hout
    have hesr := (hB0.block _ hlm.out).trans hE.out
    have hseen0 := hid (seen_of hr)
    have hnl : new.length ≤ l.length := by
      have h1 := hdone.length_eq
      have h2 := done_leI (E := strE) (seen := seen) hPr.out
      simp [encs] at h1
      omega
    have hol2 := hid (show out.length ≤ 262144 by have := hll.out; rw [hout]; exact Nat.le_trans (List.length_filter_le _ _) (by simp; omega))
    clear hnl hout
    rcases range_step (P := Tryz.prog) hr hesr hS.out hc0 with ⟨h0, hnx⟩ | ⟨e, wn, he, hns, hsh, hun, hszn, hrn, hesn, hnx, hent⟩
    · have hget9 : ∀ y, memB y rs = true → ∃ v, getK y l = some v := fun y hy => ⟨.int .u8 (useN rs ws y : Nat), (hD.out y).trans (by unfold Dft useN; simp [hy])⟩
      have hpm : Hid (new.Perm l) := hid (encs_inj (E := strE) wr (by rw [← hPr.out, ← done_all h0]; exact hdone.symm))
      have hso := hid (sortk_any (c := c2) out (srtL rs) wr (srtL_asc _) (by rw [ho.out]; exact ft_perm hM.out.nodup hpm.out hget9) hol2.out hown)
      have hln := hid (show out.length = (srtK rs).length from by rw [ho.out]; exact (ft_perm (L := rs) hM.out.nodup hpm.out hget9).length_eq)
      clear hget9
      have hO2 := hid hown
      have hB2 := hid hB0
      clear h0 hr hesr hown hB0 hdone
      go_wp2_with fail
      refine hso.out.mono ?_
      rintro e w3 ⟨rfl, hown3, hg3⟩
      have hfin : Hid (w3.ownsRow w.heap.size 9 1 (.slice A2 out.length c2) out.length (strs (srtK rs)) ∧ Below w.heap.size w w3) := hid ⟨hown3, hB2.out.grown hg3 hB2.out.size fun k hk => (hO2.out.lt k hk).1⟩
      clear hown3 hg3
      go_wp2_with fail
      go_ret
      rw [hln.out] at hfin ⊢
      exact ⟨A2, c2, rfl, hfin.out.1, hfin.out.2⟩
    · obtain ⟨p, hp, hek, hev⟩ := done_list (E := strE) (w := wr) (b := b) (clock := clock) hPr.out he
      have hget := (getK_mem hM.out.nodup).2 (show (p.1, p.2) ∈ l from hp)
      rw [hD.out] at hget
      obtain ⟨y, hy⟩ : ∃ y, y = p.1 := ⟨_, rfl⟩
      have hek : e.key = .string y := by rw [hek, hy]; rfl
      rw [← hy] at hget
      have hn0 : useN rs ws y ≠ 0 := fun h => by unfold Dft at hget; rw [if_pos h] at hget; cases hget
      have hev0 : e.val = .int .u8 (useN rs ws y : Nat) := by
        rw [hev]
        unfold Dft at hget
        rw [if_neg hn0] at hget
        injection hget with hget; exact hget.symm
      have hpush0 := (done_push hS.out.2.1 he hns).trans (hdone.cons _)
      have hownn : wn.ownsRow w.heap.size 9 1 (.slice A2 out.length c2) out.length (strs out) := own_updI hown hun fun k e => ⟨_, _, _, _, (congrArg (fun j => wr.heap[j]?) (show k = w.heap.size from e)).trans hr⟩
      have hBn : Below w.heap.size w wn := hB0.trans (hun.below (B := w.heap.size) hB0.size fun k hk e => by have e : k = w.heap.size := e; omega)
      have hHB := hid hBn
      have hHO := hid hownn
      have hHr := hid hrn
      have hsh' := hid hsh
      clear hp hget hev hy hown hB0 hdone hr hesr hun hrn hesn hBn hownn he hns hsh hszn
      have hlo := hid (show out.length + 1 ≤ 1000000 by have := hol2.out; omega)
      have hne := hid (own_notI hHO.out hHr.out)
      have hrl := hid (show w.heap.size < wn.heap.size from (Array.getElem?_eq_some_iff.1 hHr.out).1)
      cases h1 : memB y rs with
      | false =>
        cases h2 : memB y ws with
        | false =>
          exact absurd (show useN rs ws y = 0 by unfold useN; simp [h1, h2]) hn0
        | true =>
          have hev : e.val = .int .u8 2 := by
            rw [hev0]
            have h : useN rs ws y = 2 := by unfold useN; simp [h1, h2]
            rw [h]; rfl
          have hbi : bits BinOp.and IntKind.u8 2 1 = 0 := by decide
          rw [hek, hev] at hnx hent hpush0
          have hpush := hid hpush0
          have hu1 := hid (show memB y rs = false from h1)
          clear hev0 hek hev hpush0 h1 h2
          go_wp2_with fail
          go_roundw
          case rel =>
            refine ⟨seen.push e.born, clock, new ++ [(y, .int .u8 2)], out, A2, c2, rfl, hHr.out, Nat.le_refl _, hHO.out, hHB.out, ?_, ?_⟩
            · rw [encs_snocI]
              exact hpush.out.trans (List.perm_append_comm (l₁ := [(Value.string y, Value.int .u8 2)]) (l₂ := encs strE new))
            · rw [List.map_append, List.filter_append, ← ho.out]
              simp [hu1.out]
          case measure =>
            rw [seen_of hHr.out, hseen0.out]
            exact hsh'.out
      | true =>
        cases h2 : memB y ws with
        | false =>
          have hev : e.val = .int .u8 1 := by
            rw [hev0]
            have h : useN rs ws y = 1 := by unfold useN; simp [h1, h2]
            rw [h]; rfl
          have hbi : bits BinOp.and IntKind.u8 1 1 = 1 := by decide
          rw [hek, hev] at hnx hent hpush0
          have hpush := hid hpush0
          have hu1 := hid (show memB y rs = true from h1)
          clear hev0 hek hev hpush0 h1 h2
          go_wp2_with (
            at_builtin
            refine wpList_append_rd _ rfl (.tmp 19) (.tmp 21) 25 rfl w.heap.size 9 i0 _ 1 16 Tryz.underlying25 hi0 hz0 hz1 hz2 rfl (by omega) (.slice A2 out.length c2) out.length (strs out) rfl (hHO.out.alloc _) (fun b => b = wn.heap.size) (some ⟨wn.heap.size, 0, none⟩) 1 1 [.string y] rfl (Rd.new _ 9 1 1 #[.string y] _ rfl rfl) (by simp [Value.oneCell']) (by have := hlo.out; simp only [maxLen]; omega) (by have := hlo.out; omega) (by have h1 := hHB.out.size; simp; omega) ?_
            intro v3 w3 hown3 hg3 hat3
            obtain ⟨A3, c3, rfl, hc3, _⟩ := own_form hown3)
          have hr3 : w3.heap[w.heap.size]? = some (.mapIter (some b) clock (seen.push e.born) clock) := (hg3.block _ (by have := hrl.out; simp; omega) (Ne.symm hne.out)).trans ((Below.heap_alloc _ _ _ hrl.out).trans hHr.out)
          go_roundw
          case rel =>
            refine ⟨seen.push e.born, clock, new ++ [(y, .int .u8 1)], out ++ [y], A3, c3, by simp, hr3, Nat.le_refl _, ?_, ?_, ?_, ?_⟩
            · rw [strs_snocI, List.length_append]; exact hown3
            · exact (hHB.out.alloc hHB.out.size _).grown hg3 (by have := hHB.out.size; simp; omega) fun k hk => (hHO.out.lt k hk).1
            · rw [encs_snocI]
              exact hpush.out.trans (List.perm_append_comm (l₁ := [(Value.string y, Value.int .u8 1)]) (l₂ := encs strE new))
            · rw [List.map_append, List.filter_append, ← ho.out]
              simp [hu1.out]
          case measure =>
            rw [seen_of hr3, hseen0.out]
            exact hsh'.out
        | true =>
          have hev : e.val = .int .u8 3 := by
            rw [hev0]
            have h : useN rs ws y = 3 := by unfold useN; simp [h1, h2]
            rw [h]; rfl
          have hbi : bits BinOp.and IntKind.u8 3 1 = 1 := by decide
          rw [hek, hev] at hnx hent hpush0
          have hpush := hid hpush0
          have hu1 := hid (show memB y rs = true from h1)
          clear hev0 hek hev hpush0 h1 h2
          go_wp2_with (
            at_builtin
            refine wpList_append_rd _ rfl (.tmp 19) (.tmp 21) 25 rfl w.heap.size 9 i0 _ 1 16 Tryz.underlying25 hi0 hz0 hz1 hz2 rfl (by omega) (.slice A2 out.length c2) out.length (strs out) rfl (hHO.out.alloc _) (fun b => b = wn.heap.size) (some ⟨wn.heap.size, 0, none⟩) 1 1 [.string y] rfl (Rd.new _ 9 1 1 #[.string y] _ rfl rfl) (by simp [Value.oneCell']) (by have := hlo.out; simp only [maxLen]; omega) (by have := hlo.out; omega) (by have h1 := hHB.out.size; simp; omega) ?_
            intro v3 w3 hown3 hg3 hat3
            obtain ⟨A3, c3, rfl, hc3, _⟩ := own_form hown3)
          have hr3 : w3.heap[w.heap.size]? = some (.mapIter (some b) clock (seen.push e.born) clock) := (hg3.block _ (by have := hrl.out; simp; omega) (Ne.symm hne.out)).trans ((Below.heap_alloc _ _ _ hrl.out).trans hHr.out)
          go_roundw
          case rel =>
            refine ⟨seen.push e.born, clock, new ++ [(y, .int .u8 3)], out ++ [y], A3, c3, by simp, hr3, Nat.le_refl _, ?_, ?_, ?_, ?_⟩
            · rw [strs_snocI, List.length_append]; exact hown3
            · exact (hHB.out.alloc hHB.out.size _).grown hg3 (by have := hHB.out.size; simp; omega) fun k hk => (hHO.out.lt k hk).1
            · rw [encs_snocI]
              exact hpush.out.trans (List.perm_append_comm (l₁ := [(Value.string y, Value.int .u8 3)]) (l₂ := encs strE new))
            · rw [List.map_append, List.filter_append, ← ho.out]
              simp [hu1.out]
          case measure =>
            rw [seen_of hr3, hseen0.out]
            exact hsh'.out
set_option maxRecDepth 100000 in
set_option maxHeartbeats 4000000 in
theorem keys2_any (h : MapF strE w b (Dft rs ws)) (hl : rs.length + ws.length ≤ 262144) : Calls Tryz.prog 110 #[.map (some b), .int .u8 2] w fun e w' => ∃ A c, e = .returned (.slice A (srtK ws).length c) ∧ w'.ownsRow w.heap.size 9 1 (.slice A (srtK ws).length c) (srtK ws).length (strs (srtK ws)) ∧ Below w.heap.size w w' := by
  obtain ⟨i0, hi0, hz0, hz1, hz2⟩ := info_parts info_strI
  obtain ⟨l, hml, hd⟩ := h
  have hll := hid (show l.length ≤ 262144 from Nat.le_trans (ft_len (w := w) (b := b) hml.nodup hd) hl)
  obtain ⟨es, clock, hes, hprs, hst⟩ := id hml
  have hlm := hid hml.lt
  have hM := hid hml
  have hD := hid hd
  have hPr := hid hprs
  have hS := hid hst
  have hE := hid hes
  have hrg := run_range_map (P := Tryz.prog) w 170 9 5 b es clock Tryz.underlying170 hes
  clear hml hd hprs hst hes hl
  go_enter Tryz.func110, Tryz.ntmps110
  go_wp2_with fail
  clear hrg
  go_loopw [5] (fun v wr => ∃ (seen : Array Nat) (c0 : Nat) (new : List (ByteArray × Value)) (out : List ByteArray) (A : Option Addr) (c : Nat), v = .slice A out.length c ∧ wr.heap[w.heap.size]? = some (.mapIter (some b) clock seen c0) ∧ clock ≤ c0 ∧ wr.ownsRow w.heap.size 9 1 (.slice A out.length c) out.length (strs out) ∧ Below w.heap.size w wr ∧ (doneOf es seen).Perm (encs strE new) ∧ out = ((new.map (·.1)).filter fun k => memB k ws)) (fun _ wr => (leftOf es (wr.iterSeen w.heap.size)).size)
  case atStart => exact ⟨#[], clock, [], [], none, 0, rfl, heap_alloc_new _ _, Nat.le_refl _, World.ownsRow_nil _ _ _ _, (Below.refl _ _).alloc (Nat.le_refl _) _, by rw [done_none]; exact List.Perm.nil, rfl⟩
  case round =>
    obtain ⟨seen, c0, new, out, A2, c2, rfl, hr, hc0, hown, hB0, hdone, hout⟩ := hrel
    have ho := hid hout
    have hesr := (hB0.block _ hlm.out).trans hE.out
    have hseen0 := hid (seen_of hr)
    have hnl : new.length ≤ l.length := by
      have h1 := hdone.length_eq
      have h2 := done_leI (E := strE) (seen := seen) hPr.out
      simp [encs] at h1
      omega
    have hol2 := hid (show out.length ≤ 262144 by have := hll.out; rw [hout]; exact Nat.le_trans (List.length_filter_le _ _) (by simp; omega))
    clear hnl hout
    rcases range_step (P := Tryz.prog) hr hesr hS.out hc0 with ⟨h0, hnx⟩ | ⟨e, wn, he, hns, hsh, hun, hszn, hrn, hesn, hnx, hent⟩
    · have hget9 : ∀ y, memB y ws = true → ∃ v, getK y l = some v := fun y hy => ⟨.int .u8 (useN rs ws y : Nat), (hD.out y).trans (by unfold Dft useN; simp [hy])⟩
      have hpm : Hid (new.Perm l) := hid (encs_inj (E := strE) wr (by rw [← hPr.out, ← done_all h0]; exact hdone.symm))
      have hso := hid (sortk_any (c := c2) out (srtL ws) wr (srtL_asc _) (by rw [ho.out]; exact ft_perm hM.out.nodup hpm.out hget9) hol2.out hown)
      have hln := hid (show out.length = (srtK ws).length from by rw [ho.out]; exact (ft_perm (L := ws) hM.out.nodup hpm.out hget9).length_eq)
      clear hget9
      have hO2 := hid hown
      have hB2 := hid hB0
      clear h0 hr hesr hown hB0 hdone
      go_wp2_with fail
      refine hso.out.mono ?_
      rintro e w3 ⟨rfl, hown3, hg3⟩
      have hfin : Hid (w3.ownsRow w.heap.size 9 1 (.slice A2 out.length c2) out.length (strs (srtK ws)) ∧ Below w.heap.size w w3) := hid ⟨hown3, hB2.out.grown hg3 hB2.out.size fun k hk => (hO2.out.lt k hk).1⟩
      clear hown3 hg3
      go_wp2_with fail
      go_ret
      rw [hln.out] at hfin ⊢
      exact ⟨A2, c2, rfl, hfin.out.1, hfin.out.2⟩
    · obtain ⟨p, hp, hek, hev⟩ := done_list (E := strE) (w := wr) (b := b) (clock := clock) hPr.out he
      have hget := (getK_mem hM.out.nodup).2 (show (p.1, p.2) ∈ l from hp)
      rw [hD.out] at hget
      obtain ⟨y, hy⟩ : ∃ y, y = p.1 := ⟨_, rfl⟩
      have hek : e.key = .string y := by rw [hek, hy]; rfl
      rw [← hy] at hget
      have hn0 : useN rs ws y ≠ 0 := fun h => by unfold Dft at hget; rw [if_pos h] at hget; cases hget
      have hev0 : e.val = .int .u8 (useN rs ws y : Nat) := by
        rw [hev]
        unfold Dft at hget
        rw [if_neg hn0] at hget
        injection hget with hget; exact hget.symm
      have hpush0 := (done_push hS.out.2.1 he hns).trans (hdone.cons _)
      have hownn : wn.ownsRow w.heap.size 9 1 (.slice A2 out.length c2) out.length (strs out) := own_updI hown hun fun k e => ⟨_, _, _, _, (congrArg (fun j => wr.heap[j]?) (show k = w.heap.size from e)).trans hr⟩
      have hBn : Below w.heap.size w wn := hB0.trans (hun.below (B := w.heap.size) hB0.size fun k hk e => by have e : k = w.heap.size := e; omega)
      have hHB := hid hBn
      have hHO := hid hownn
      have hHr := hid hrn
      have hsh' := hid hsh
      clear hp hget hev hy hown hB0 hdone hr hesr hun hrn hesn hBn hownn he hns hsh hszn
      have hlo := hid (show out.length + 1 ≤ 1000000 by have := hol2.out; omega)
      have hne := hid (own_notI hHO.out hHr.out)
      have hrl := hid (show w.heap.size < wn.heap.size from (Array.getElem?_eq_some_iff.1 hHr.out).1)
      cases h1 : memB y rs with
      | false =>
        cases h2 : memB y ws with
        | false =>
          exact absurd (show useN rs ws y = 0 by unfold useN; simp [h1, h2]) hn0
        | true =>
          have hev : e.val = .int .u8 2 := by
            rw [hev0]
            have h : useN rs ws y = 2 := by unfold useN; simp [h1, h2]
            rw [h]; rfl
          have hbi : bits BinOp.and IntKind.u8 2 2 = 2 := by decide
          rw [hek, hev] at hnx hent hpush0
          have hpush := hid hpush0
          have hu1 := hid (show memB y ws = true from h2)
          clear hev0 hek hev hpush0 h1 h2
          go_wp2_with (
            at_builtin
            refine wpList_append_rd _ rfl (.tmp 19) (.tmp 21) 25 rfl w.heap.size 9 i0 _ 1 16 Tryz.underlying25 hi0 hz0 hz1 hz2 rfl (by omega) (.slice A2 out.length c2) out.length (strs out) rfl (hHO.out.alloc _) (fun b => b = wn.heap.size) (some ⟨wn.heap.size, 0, none⟩) 1 1 [.string y] rfl (Rd.new _ 9 1 1 #[.string y] _ rfl rfl) (by simp [Value.oneCell']) (by have := hlo.out; simp only [maxLen]; omega) (by have := hlo.out; omega) (by have h1 := hHB.out.size; simp; omega) ?_
            intro v3 w3 hown3 hg3 hat3
            obtain ⟨A3, c3, rfl, hc3, _⟩ := own_form hown3)
          have hr3 : w3.heap[w.heap.size]? = some (.mapIter (some b) clock (seen.push e.born) clock) := (hg3.block _ (by have := hrl.out; simp; omega) (Ne.symm hne.out)).trans ((Below.heap_alloc _ _ _ hrl.out).trans hHr.out)
          go_roundw
          case rel =>
            refine ⟨seen.push e.born, clock, new ++ [(y, .int .u8 2)], out ++ [y], A3, c3, by simp, hr3, Nat.le_refl _, ?_, ?_, ?_, ?_⟩
            · rw [strs_snocI, List.length_append]; exact hown3
            · exact (hHB.out.alloc hHB.out.size _).grown hg3 (by have := hHB.out.size; simp; omega) fun k hk => (hHO.out.lt k hk).1
            · rw [encs_snocI]
              exact hpush.out.trans (List.perm_append_comm (l₁ := [(Value.string y, Value.int .u8 2)]) (l₂ := encs strE new))
            · rw [List.map_append, List.filter_append, ← ho.out]
              simp [hu1.out]
          case measure =>
            rw [seen_of hr3, hseen0.out]
            exact hsh'.out
      | true =>
        cases h2 : memB y ws with
        | false =>
          have hev : e.val = .int .u8 1 := by
            rw [hev0]
            have h : useN rs ws y = 1 := by unfold useN; simp [h1, h2]
            rw [h]; rfl
          have hbi : bits BinOp.and IntKind.u8 1 2 = 0 := by decide
          rw [hek, hev] at hnx hent hpush0
          have hpush := hid hpush0
          have hu1 := hid (show memB y ws = false from h2)
          clear hev0 hek hev hpush0 h1 h2
          go_wp2_with fail
          go_roundw
          case rel =>
            refine ⟨seen.push e.born, clock, new ++ [(y, .int .u8 1)], out, A2, c2, rfl, hHr.out, Nat.le_refl _, hHO.out, hHB.out, ?_, ?_⟩
            · rw [encs_snocI]
              exact hpush.out.trans (List.perm_append_comm (l₁ := [(Value.string y, Value.int .u8 1)]) (l₂ := encs strE new))
            · rw [List.map_append, List.filter_append, ← ho.out]
              simp [hu1.out]
          case measure =>
            rw [seen_of hHr.out, hseen0.out]
            exact hsh'.out
        | true =>
          have hev : e.val = .int .u8 3 := by
            rw [hev0]
            have h : useN rs ws y = 3 := by unfold useN; simp [h1, h2]
            rw [h]; rfl
          have hbi : bits BinOp.and IntKind.u8 3 2 = 2 := by decide
          rw [hek, hev] at hnx hent hpush0
          have hpush := hid hpush0
          have hu1 := hid (show memB y ws = true from h2)
          clear hev0 hek hev hpush0 h1 h2
          go_wp2_with (
            at_builtin
            refine wpList_append_rd _ rfl (.tmp 19) (.tmp 21) 25 rfl w.heap.size 9 i0 _ 1 16 Tryz.underlying25 hi0 hz0 hz1 hz2 rfl (by omega) (.slice A2 out.length c2) out.length (strs out) rfl (hHO.out.alloc _) (fun b => b = wn.heap.size) (some ⟨wn.heap.size, 0, none⟩) 1 1 [.string y] rfl (Rd.new _ 9 1 1 #[.string y] _ rfl rfl) (by simp [Value.oneCell']) (by have := hlo.out; simp only [maxLen]; omega) (by have := hlo.out; omega) (by have h1 := hHB.out.size; simp; omega) ?_
            intro v3 w3 hown3 hg3 hat3
            obtain ⟨A3, c3, rfl, hc3, _⟩ := own_form hown3)
          have hr3 : w3.heap[w.heap.size]? = some (.mapIter (some b) clock (seen.push e.born) clock) := (hg3.block _ (by have := hrl.out; simp; omega) (Ne.symm hne.out)).trans ((Below.heap_alloc _ _ _ hrl.out).trans hHr.out)
          go_roundw
          case rel =>
            refine ⟨seen.push e.born, clock, new ++ [(y, .int .u8 3)], out ++ [y], A3, c3, by simp, hr3, Nat.le_refl _, ?_, ?_, ?_, ?_⟩
            · rw [strs_snocI, List.length_append]; exact hown3
            · exact (hHB.out.alloc hHB.out.size _).grown hg3 (by have := hHB.out.size; simp; omega) fun k hk => (hHO.out.lt k hk).1
            · rw [encs_snocI]
              exact hpush.out.trans (List.perm_append_comm (l₁ := [(Value.string y, Value.int .u8 3)]) (l₂ := encs strE new))
            · rw [List.map_append, List.filter_append, ← ho.out]
              simp [hu1.out]
          case measure =>
            rw [seen_of hr3, hseen0.out]
            exact hsh'.out
end
end Go.Proofs.YtdmogoaaecdbaaaGreatDoor

