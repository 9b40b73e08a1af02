/- quorum: Crash. -/
import Derived.Test.YtbgopicpdpkccaaGClr
namespace Go.Proofs.Ytbgopicpdpkccaa
open Go.RowKit
set_option linter.unusedVariables false
set_option linter.unusedSimpArgs false

section
variable {S : Nat → Prop} {w w' : World} {g : Nat} {An Am : Option Addr} {cn cm : Nat} {G : Gr} {a : Ad}
theorem crash_far (n : Int) (h : GAt S w g G) (hn : n < 0 ∨ (G.nds.length : Int) ≤ n) : Calls Try.prog 32 #[.pointer (some ⟨g, 0, none⟩), .int .i64 n] w fun e w' => e = .returned (.bool false) ∧ w' = w := by
  obtain ⟨An, cn, Am, cm, a, q⟩ := h
  have hcn := hid (node_no n q hn)
  clear q
  go_enter Try.func32, Try.ntmps32
  go_wp2_with fail
  refine hcn.out.mono ?_
  rintro e w2 ⟨rfl, rfl⟩
  go_wp2_with fail
  go_ret
  exact ⟨rfl, rfl⟩
theorem crash_down (i : Nat) (h : GAt S w g G) (hi : i < G.nds.length) (hu : (G.nd i).up = false) : Calls Try.prog 32 #[.pointer (some ⟨g, 0, none⟩), .int .i64 i] w fun e w' => e = .returned (.bool false) ∧ w' = w := by
  obtain ⟨An, cn, Am, cm, a, q⟩ := h
  have hcn := hid (node_yes i q hi)
  obtain ⟨n1, n2, n3, n4, _⟩ := q.nd i hi
  have xu : w.cell? ⟨a.nb i, 0, none⟩ = some (.bool false) := by have := n1.cell 0; rwa [hu] at this
  clear q n1 n4 hu
  go_enter Try.func32, Try.ntmps32
  go_wp2_with fail
  refine hcn.out.mono ?_
  rintro e w2 ⟨rfl, rfl⟩
  go_wp2_with fail
  go_ret
  exact ⟨rfl, rfl⟩
/-- under way -/
def CRel (S : Nat → Prop) (w0 : World) (g : Nat) (An : Option Addr) (cn : Nat) (Am : Option Addr) (cm : Nat) (G : Gr) (a : Ad) (i r : Nat) (es : Array MapEntry) (clock : Nat) (wr : World) : Prop :=
  wr.heap[a.mb i]? = some (.map es clock) ∧ ∃ seen c0 d, wr.heap[r]? = some (.mapIter (some (a.mb i)) clock seen c0) ∧ clock ≤ c0 ∧ GIn S wr g An cn Am cm (G.clr i d) a ∧ Upd S w0 wr ∧ ∀ e ∈ es.toList, seen.contains e.born = true → ∀ k, e.key = .int .i64 k → d k = true
set_option maxRecDepth 100000 in
set_option maxHeartbeats 4000000 in
theorem crash_yes (i : Nat) (h : GAt S w g G) (hi : i < G.nds.length) (hu : (G.nd i).up = true) : Calls Try.prog 32 #[.pointer (some ⟨g, 0, none⟩), .int .i64 i] w fun e w' => e = .returned (.bool true) ∧ GGo S w g (G.clr i fun _ => true) w' := by
  obtain ⟨An, cn, Am, cm, a, q⟩ := h
  have hSlt := q.lt
  have hcn := hid (node_yes i q hi)
  obtain ⟨n1, n2, n3, n4, ho⟩ := q.nd i hi
  have xu : w.cell? ⟨a.nb i, 0, none⟩ = some (.bool true) := by have := n1.cell 0; rwa [hu] at this
  have qf := fun j => n1.frozen j
  have hnl := n1.lt
  have hu3 : Upd (fun k => k = a.nb i) w (w.setCell ⟨a.nb i, 0, none⟩ (.bool false)) := (Upd.refl (fun k => k = a.nb i) w).setCell (p := ⟨a.nb i, 0, none⟩) (fun _ => rfl) _
  have q3 := q.up (u := false) hi hu3 (n1.set_ 0 _)
  rw [← clr_none hi] at q3
  have hU3 : Upd S w (w.setCell ⟨a.nb i, 0, none⟩ (.bool false)) := hu3.mono fun k _ h => h ▸ n2
  have hS3 : (w.setCell ⟨a.nb i, 0, none⟩ (.bool false)).heap.size = w.heap.size := by simp
  have HS3 := hid hS3
  clear n1 n4 hu hu3 q hS3
  go_enter Try.func32, Try.ntmps32
  go_wp2_with fail
  refine hcn.out.mono ?_
  rintro e w2 ⟨rfl, rfl⟩
  go_upto_region 5 with fail
  generalize w2.setCell ⟨a.nb i, 0, none⟩ (.bool false) = w3 at *
  clear xu qf
  obtain ⟨n1, _, _, n4, _⟩ := q3.nd i (by rw [clr_len]; exact hi)
  rw [clr_nd hi] at n1 n4
  have x1 : w3.cell? ⟨a.nb i, 1, none⟩ = some (.map (some (a.mb i))) := n1.cell 1
  have hmp : MapIs intE w3 (a.mb i) ((G.nd i).sl.map fun p => (p.1, Value.pointer (some ⟨a.sb i p.1, 0, none⟩))) := by simpa using n4
  have hml := hmp.lt
  obtain ⟨es, clock, hes, hpr, hst⟩ := id hmp
  have hrg := run_range_map (P := Try.prog) w3 65 3 79 (a.mb i) es clock Try.underlying65 hes
  have hq3 := hid q3
  clear n1 n4 q3 hmp
  go_wp2_with fail
  have hSlt' := hid hSlt
  clear hSlt
  go_loopw [] (fun wr => CRel S w2 g An cn Am cm G a i w3.heap.size es clock wr) (fun wr => (leftOf es (wr.iterSeen w3.heap.size)).size)
  case atStart =>
    refine ⟨(((Below.refl _ _).alloc (Nat.le_refl _) _).block _ hml).trans hes, #[], clock, fun _ => false, heap_alloc_new _ _, Nat.le_refl _, hq3.out.below ((Below.refl _ _).alloc (Nat.le_refl _) _), hU3.alloc _, fun x _ h => by simp at h⟩
  case round =>
    clear hrg x1
    obtain ⟨hesr, seen, c0, d, hr, hc0, q, hU, hdone0⟩ := hrel
    have hdone := hid hdone0
    clear hdone0
    obtain ⟨_, _, _, n4, _⟩ := q.nd i (by rw [clr_len]; exact hi)
    rw [clr_nd hi] at n4
    have law := run_next_at (P := Try.prog) wr 0 w3.heap.size (a.mb i) clock c0 seen es clock hr hesr hst.1 hc0
    rcases law with ⟨h0, hrun⟩ | ⟨e, he, w1, hw1, hrun⟩
    · have hnx : ∀ ty, (Instr.next (.pointer (some ⟨w3.heap.size, 0, none⟩)) false ty).run Try.prog wr = .ok (.tuple #[.bool false]) wr := fun _ => hrun
      have hfin : Hid (GGo S w2 g (G.clr i fun _ => true) wr) := hid (by
        have hcg : G.clr i d = G.clr i fun _ => true := clr_congr fun p hp => by
          have hy : (intE.enc p.1, Value.pointer (some ⟨a.sb i p.1, 0, none⟩)) ∈ pairs es.toList := by rw [hpr]; exact List.mem_map.2 ⟨(p.1, _), List.mem_map.2 ⟨p, hp, rfl⟩, rfl⟩
          obtain ⟨e, he, e2⟩ := List.mem_map.1 hy
          injection e2 with e3 _
          exact hdone.out e he (all_seen es seen h0 e he) p.1 e3
        rw [hcg] at q
        exact ⟨S, ⟨An, cn, Am, cm, a, q⟩, fun _ h => .inl h, hU⟩)
      clear q n4 hr hesr hU
      go_wp2_with fail
      refine bodyPost_ret (v := .bool true) (by simp [results, Try.results32, go_sem]) rfl ?_
      exact ⟨rfl, hfin.out⟩
    · have hval : ∃ k x, getA k (G.nd i).sl = some x ∧ e.key = .int .i64 k ∧ e.val = .pointer (some ⟨a.sb i k, 0, none⟩) := by
        have hy2 : (e.key, e.val) ∈ encs intE ((G.nd i).sl.map fun p => (p.1, Value.pointer (some ⟨a.sb i p.1, 0, none⟩))) := by rw [← hpr]; exact List.mem_map.2 ⟨e, (mem_left he).1, rfl⟩
        obtain ⟨p, hp, e2⟩ := List.mem_map.1 hy2
        obtain ⟨q, hq, rfl⟩ := List.mem_map.1 hp
        injection e2 with e3 e4
        exact ⟨q.1, q.2, ho.get hq, e3.symm, e4.symm⟩
      obtain ⟨kk, x, hkx, hek, hev⟩ := hval
      obtain ⟨wn, hwn⟩ : ∃ wn, wn = Go.ChangeMaps.setBlock w1 w3.heap.size (.mapIter (some (a.mb i)) clock (seen.push e.born) clock) := ⟨_, rfl⟩
      rw [← hwn, hev] at hrun
      have hrl : w3.heap.size < wr.heap.size := (Array.getElem?_eq_some_iff.1 hr).1
      have hw1h : w1.heap = wr.heap := by rcases hw1 with rfl | rfl <;> rfl
      have hrn : wn.heap[w3.heap.size]? = some (.mapIter (some (a.mb i)) clock (seen.push e.born) clock) := by rw [hwn]; exact heap_set_eq w1 _ _ (by rw [hw1h]; exact hrl)
      have hun : Upd (fun k => k = w3.heap.size) wr wn := by
        have hb : Upd (fun k => k = w3.heap.size) wr w1 := by
          rcases hw1 with rfl | rfl
          · exact Upd.refl _ _
          · exact .of_below' (Below.refl _ _).drew _
        rw [hwn]
        exact hb.grown (grown_set w1 w3.heap.size _) fun k hk _ => by injection hk with hk; exact hk.symm
      have qn := q.far hun (fun k hk e => by have := hSlt'.out k hk; have := HS3.out; omega)
      have hUn : Upd S w2 wn := hU.trans (hun.mono (M' := fun k => k = w3.heap.size) fun k _ h => h) fun k hk h => by have := HS3.out; omega
      have hmr : a.mb i ≠ w3.heap.size := Nat.ne_of_lt hml
      have hesn : wn.heap[a.mb i]? = some (.map es clock) := (hun.block _ (Array.getElem?_eq_some_iff.1 hesr).1 hmr).trans hesr
      have hent0 := run_entry_at (P := Try.prog) wn w3.heap.size (a.mb i) clock seen es clock e hrn hesn (mem_left he).1 hst.2.1
      rw [hev] at hent0
      have hnx : ∀ ty, (Instr.next (.pointer (some ⟨w3.heap.size, 0, none⟩)) false ty).run Try.prog wr = .ok (.tuple #[.bool true, e.key, .pointer (some ⟨a.sb i kk, 0, none⟩)]) wn := fun _ => hrun
      have hent : (Instr.entry (.pointer (some ⟨w3.heap.size, 0, none⟩))).run Try.prog wn = .ok (.tuple #[e.key, .pointer (some ⟨a.sb i kk, 0, none⟩)]) wn := hent0
      have hpush := left_shrinks es seen e he
      have hseen0 := hid (iterSeen_of hr)
      have hm := mem_left he
      have hx0 : getA kk ((G.clr i d).nd i).sl = some (if d kk then x.calm else x) := by rw [clr_get hi, hkx]; rfl
      obtain ⟨kS, hSs, _⟩ := qn.sl i (by rw [clr_len]; exact hi) (kk, if d kk then x.calm else x) (getA_mem hx0)
      have hSs : S (a.sb i kk) := hSs
      have kS : Blk wn (a.sb i kk) 74 ((if d kk then x.calm else x).cells (a.bb i kk)) := kS
      have qz := fun j => kS.frozen j
      have hsl := kS.lt
      have hus : Upd (fun k => k = a.sb i kk) wn (wn.setCell ⟨a.sb i kk, 8, none⟩ (.pointer none)) := (Upd.refl (fun k => k = a.sb i kk) wn).setCell (p := ⟨a.sb i kk, 8, none⟩) (fun _ => rfl) _
      obtain ⟨u8, s8⟩ : ∃ u, wn.cell? ⟨a.sb i kk, 8, none⟩ = some u := ⟨_, kS.cell 8⟩
      have hfin : Hid (CRel S w2 g An cn Am cm G a i w3.heap.size es clock (wn.setCell ⟨a.sb i kk, 8, none⟩ (.pointer none)) ∧ (wn.setCell ⟨a.sb i kk, 8, none⟩ (.pointer none)).iterSeen w3.heap.size = seen.push e.born) := hid (by
        have hslw := hSlt'.out _ hSs
        have hS3 := HS3.out
        have hr5 : (wn.setCell ⟨a.sb i kk, 8, none⟩ (.pointer none)).heap[w3.heap.size]? = some (.mapIter (some (a.mb i)) clock (seen.push e.born) clock) := by
          rw [Below.heap_setCell _ _ _ _ (by simp only; omega)]; exact hrn
        have hmsb : a.mb i ≠ a.sb i kk := fun e => by
          have h1 := kS
          rw [← e] at h1
          have h2 : wn.heap[a.mb i]? = some (.cells _ _) := h1
          rw [hesn] at h2
          cases h2
        refine ⟨⟨(Below.heap_setCell _ _ _ _ hmsb).trans hesn, seen.push e.born, clock, fun j => decide (j = kk) || d j, hr5, Nat.le_refl _, ?_, hUn.trans (hus.mono (M' := S) fun k _ h => h ▸ hSs) (fun _ _ h => h), fun e' he' hc k hk => ?_⟩, iterSeen_of hr5⟩
        · rw [← clr_set hi ho d hkx]
          have := qn.slot (S' := S) (x' := x.calm) (bb' := a.bb i kk) (ab' := a.ab i kk) (by rw [clr_len]; exact hi) hx0 hus (fun k hk => .inl hk) (fun _ h => h) (fun k hk => by have := hSlt'.out k hk; have := hUn.size; simp; omega) ⟨?_, hSs, fun d' hd' => by cases hd'⟩ (fun h => by cases h)
          · rw [Ad.setB_self] at this; exact this
          · have h8 := kS.set_ 8 (.pointer none)
            have e8 : ((if d kk then x.calm else x).cells (a.bb i kk)).setIfInBounds 8 (.pointer none) = x.calm.cells (a.bb i kk) := by
              cases d kk <;> rfl
            rw [e8] at h8
            exact h8
        · rw [contains_push, Bool.or_eq_true] at hc
          rcases hc with hc | hc
          · show (decide (k = kk) || d k) = true
            rw [hdone.out e' he' hc k hk]; simp
          · have e1 : e' = e := born_inj hst.2.1 he' hm.1 (by simpa using hc)
            subst e1
            rw [hek] at hk
            injection hk with _ hk
            subst hk
            simp)
      clear q n4 hr hesr hwn hw1 hw1h hent0 hrun qn kS hus hUn hun hrn hesn hU
      generalize e.key = ek at *
      go_wp2_with fail
      go_roundw
      case rel => exact hfin.out.1
      case measure => rw [hfin.out.2, hseen0.out]; exact hpush
end

end Go.Proofs.Ytbgopicpdpkccaa
