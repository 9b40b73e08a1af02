/- Texts of the proof, joined: GCrash, GGet, GAct, GCatch, GActW. -/
import Derived.Test.YtbgopicpdpkccaaJ07
import Derived.Test.YtbgopicpdpkccaaJ10
import Derived.Test.YtbgopicpdpkccaaJ09
namespace Go.Proofs.Ytbgopicpdpkccaa
open Go.RowKit
set_option linter.unusedVariables false
set_option linter.unusedSimpArgs false

section
variable {S : Nat → Prop} {w w' : World} {g : Nat} {An Am : Option Addr} {cn cm : Nat} {G : Gr} {a : Ad}
theorem crash_far (n : Int) (h : GAt S w g G) (hn : n < 0 ∨ (G.nds.length : Int) ≤ n) : Calls Try.prog 32 #[.pointer (some ⟨g, 0, none⟩), .int .i64 n] w fun e w' => e = .returned (.bool false) ∧ w' = w := by
  obtain ⟨An, cn, Am, cm, a, q⟩ := h
  have hcn := hid (node_no n q hn)
  clear q
  go_enter Try.func32, Try.ntmps32
  go_wp2_with fail
  refine hcn.out.mono ?_
  rintro e w2 ⟨rfl, rfl⟩
  go_wp2_with fail
  go_ret
  exact ⟨rfl, rfl⟩
theorem crash_down (i : Nat) (h : GAt S w g G) (hi : i < G.nds.length) (hu : (G.nd i).up = false) : Calls Try.prog 32 #[.pointer (some ⟨g, 0, none⟩), .int .i64 i] w fun e w' => e = .returned (.bool false) ∧ w' = w := by
  obtain ⟨An, cn, Am, cm, a, q⟩ := h
  have hcn := hid (node_yes i q hi)
  obtain ⟨n1, n2, n3, n4, _⟩ := q.nd i hi
  have xu : w.cell? ⟨a.nb i, 0, none⟩ = some (.bool false) := by have := n1.cell 0; rwa [hu] at this
  clear q n1 n4 hu
  go_enter Try.func32, Try.ntmps32
  go_wp2_with fail
  refine hcn.out.mono ?_
  rintro e w2 ⟨rfl, rfl⟩
  go_wp2_with fail
  go_ret
  exact ⟨rfl, rfl⟩
/-- under way -/
def CRel (S : Nat → Prop) (w0 : World) (g : Nat) (An : Option Addr) (cn : Nat) (Am : Option Addr) (cm : Nat) (G : Gr) (a : Ad) (i r : Nat) (es : Array MapEntry) (clock : Nat) (wr : World) : Prop :=
  wr.heap[a.mb i]? = some (.map es clock) ∧ ∃ seen c0 d, wr.heap[r]? = some (.mapIter (some (a.mb i)) clock seen c0) ∧ clock ≤ c0 ∧ GIn S wr g An cn Am cm (G.clr i d) a ∧ Upd S w0 wr ∧ ∀ e ∈ es.toList, seen.contains e.born = true → ∀ k, e.key = .int .i64 k → d k = true
set_option maxRecDepth 100000 in
set_option maxHeartbeats 4000000 in
theorem crash_yes (i : Nat) (h : GAt S w g G) (hi : i < G.nds.length) (hu : (G.nd i).up = true) : Calls Try.prog 32 #[.pointer (some ⟨g, 0, none⟩), .int .i64 i] w fun e w' => e = .returned (.bool true) ∧ GGo S w g (G.clr i fun _ => true) w' := by
  obtain ⟨An, cn, Am, cm, a, q⟩ := h
  have hSlt := q.lt
  have hcn := hid (node_yes i q hi)
  obtain ⟨n1, n2, n3, n4, ho⟩ := q.nd i hi
  have xu : w.cell? ⟨a.nb i, 0, none⟩ = some (.bool true) := by have := n1.cell 0; rwa [hu] at this
  have qf := fun j => n1.frozen j
  have hnl := n1.lt
  have hu3 : Upd (fun k => k = a.nb i) w (w.setCell ⟨a.nb i, 0, none⟩ (.bool false)) := (Upd.refl (fun k => k = a.nb i) w).setCell (p := ⟨a.nb i, 0, none⟩) (fun _ => rfl) _
  have q3 := q.up (u := false) hi hu3 (n1.set_ 0 _)
  rw [← clr_none hi] at q3
  have hU3 : Upd S w (w.setCell ⟨a.nb i, 0, none⟩ (.bool false)) := hu3.mono fun k _ h => h ▸ n2
  have hS3 : (w.setCell ⟨a.nb i, 0, none⟩ (.bool false)).heap.size = w.heap.size := by simp
  have HS3 := hid hS3
  clear n1 n4 hu hu3 q hS3
  go_enter Try.func32, Try.ntmps32
  go_wp2_with fail
  refine hcn.out.mono ?_
  rintro e w2 ⟨rfl, rfl⟩
  go_upto_region 5 with fail
  generalize w2.setCell ⟨a.nb i, 0, none⟩ (.bool false) = w3 at *
  clear xu qf
  obtain ⟨n1, _, _, n4, _⟩ := q3.nd i (by rw [clr_len]; exact hi)
  rw [clr_nd hi] at n1 n4
  have x1 : w3.cell? ⟨a.nb i, 1, none⟩ = some (.map (some (a.mb i))) := n1.cell 1
  have hmp : MapIs intE w3 (a.mb i) ((G.nd i).sl.map fun p => (p.1, Value.pointer (some ⟨a.sb i p.1, 0, none⟩))) := by simpa using n4
  have hml := hmp.lt
  obtain ⟨es, clock, hes, hpr, hst⟩ := id hmp
  have hrg := run_range_map (P := Try.prog) w3 65 3 79 (a.mb i) es clock Try.underlying65 hes
  have hq3 := hid q3
  clear n1 n4 q3 hmp
  go_wp2_with fail
  have hSlt' := hid hSlt
  clear hSlt
  go_loopw [] (fun wr => CRel S w2 g An cn Am cm G a i w3.heap.size es clock wr) (fun wr => (leftOf es (wr.iterSeen w3.heap.size)).size)
  case atStart =>
    refine ⟨(((Below.refl _ _).alloc (Nat.le_refl _) _).block _ hml).trans hes, #[], clock, fun _ => false, heap_alloc_new _ _, Nat.le_refl _, hq3.out.below ((Below.refl _ _).alloc (Nat.le_refl _) _), hU3.alloc _, fun x _ h => by simp at h⟩
  case round =>
    clear hrg x1
    obtain ⟨hesr, seen, c0, d, hr, hc0, q, hU, hdone0⟩ := hrel
    have hdone := hid hdone0
    clear hdone0
    obtain ⟨_, _, _, n4, _⟩ := q.nd i (by rw [clr_len]; exact hi)
    rw [clr_nd hi] at n4
    have law := run_next_at (P := Try.prog) wr 0 w3.heap.size (a.mb i) clock c0 seen es clock hr hesr hst.1 hc0
    rcases law with ⟨h0, hrun⟩ | ⟨e, he, w1, hw1, hrun⟩
    · have hnx : ∀ ty, (Instr.next (.pointer (some ⟨w3.heap.size, 0, none⟩)) false ty).run Try.prog wr = .ok (.tuple #[.bool false]) wr := fun _ => hrun
      have hfin : Hid (GGo S w2 g (G.clr i fun _ => true) wr) := hid (by
        have hcg : G.clr i d = G.clr i fun _ => true := clr_congr fun p hp => by
          have hy : (intE.enc p.1, Value.pointer (some ⟨a.sb i p.1, 0, none⟩)) ∈ pairs es.toList := by rw [hpr]; exact List.mem_map.2 ⟨(p.1, _), List.mem_map.2 ⟨p, hp, rfl⟩, rfl⟩
          obtain ⟨e, he, e2⟩ := List.mem_map.1 hy
          injection e2 with e3 _
          exact hdone.out e he (all_seen es seen h0 e he) p.1 e3
        rw [hcg] at q
        exact ⟨S, ⟨An, cn, Am, cm, a, q⟩, fun _ h => .inl h, hU⟩)
      clear q n4 hr hesr hU
      go_wp2_with fail
      refine bodyPost_ret (v := .bool true) (by simp [results, Try.results32, go_sem]) rfl ?_
      exact ⟨rfl, hfin.out⟩
    · have hval : ∃ k x, getA k (G.nd i).sl = some x ∧ e.key = .int .i64 k ∧ e.val = .pointer (some ⟨a.sb i k, 0, none⟩) := by
        have hy2 : (e.key, e.val) ∈ encs intE ((G.nd i).sl.map fun p => (p.1, Value.pointer (some ⟨a.sb i p.1, 0, none⟩))) := by rw [← hpr]; exact List.mem_map.2 ⟨e, (mem_left he).1, rfl⟩
        obtain ⟨p, hp, e2⟩ := List.mem_map.1 hy2
        obtain ⟨q, hq, rfl⟩ := List.mem_map.1 hp
        injection e2 with e3 e4
        exact ⟨q.1, q.2, ho.get hq, e3.symm, e4.symm⟩
      obtain ⟨kk, x, hkx, hek, hev⟩ := hval
      obtain ⟨wn, hwn⟩ : ∃ wn, wn = Go.ChangeMaps.setBlock w1 w3.heap.size (.mapIter (some (a.mb i)) clock (seen.push e.born) clock) := ⟨_, rfl⟩
      rw [← hwn, hev] at hrun
      have hrl : w3.heap.size < wr.heap.size := (Array.getElem?_eq_some_iff.1 hr).1
      have hw1h : w1.heap = wr.heap := by rcases hw1 with rfl | rfl <;> rfl
      have hrn : wn.heap[w3.heap.size]? = some (.mapIter (some (a.mb i)) clock (seen.push e.born) clock) := by rw [hwn]; exact heap_set_eq w1 _ _ (by rw [hw1h]; exact hrl)
      have hun : Upd (fun k => k = w3.heap.size) wr wn := by
        have hb : Upd (fun k => k = w3.heap.size) wr w1 := by
          rcases hw1 with rfl | rfl
          · exact Upd.refl _ _
          · exact .of_below' (Below.refl _ _).drew _
        rw [hwn]
        exact hb.grown (grown_set w1 w3.heap.size _) fun k hk _ => by injection hk with hk; exact hk.symm
      have qn := q.far hun (fun k hk e => by have := hSlt'.out k hk; have := HS3.out; omega)
      have hUn : Upd S w2 wn := hU.trans (hun.mono (M' := fun k => k = w3.heap.size) fun k _ h => h) fun k hk h => by have := HS3.out; omega
      have hmr : a.mb i ≠ w3.heap.size := Nat.ne_of_lt hml
      have hesn : wn.heap[a.mb i]? = some (.map es clock) := (hun.block _ (Array.getElem?_eq_some_iff.1 hesr).1 hmr).trans hesr
      have hent0 := run_entry_at (P := Try.prog) wn w3.heap.size (a.mb i) clock seen es clock e hrn hesn (mem_left he).1 hst.2.1
      rw [hev] at hent0
      have hnx : ∀ ty, (Instr.next (.pointer (some ⟨w3.heap.size, 0, none⟩)) false ty).run Try.prog wr = .ok (.tuple #[.bool true, e.key, .pointer (some ⟨a.sb i kk, 0, none⟩)]) wn := fun _ => hrun
      have hent : (Instr.entry (.pointer (some ⟨w3.heap.size, 0, none⟩))).run Try.prog wn = .ok (.tuple #[e.key, .pointer (some ⟨a.sb i kk, 0, none⟩)]) wn := hent0
      have hpush := left_shrinks es seen e he
      have hseen0 := hid (iterSeen_of hr)
      have hm := mem_left he
      have hx0 : getA kk ((G.clr i d).nd i).sl = some (if d kk then x.calm else x) := by rw [clr_get hi, hkx]; rfl
      obtain ⟨kS, hSs, _⟩ := qn.sl i (by rw [clr_len]; exact hi) (kk, if d kk then x.calm else x) (getA_mem hx0)
      have hSs : S (a.sb i kk) := hSs
      have kS : Blk wn (a.sb i kk) 74 ((if d kk then x.calm else x).cells (a.bb i kk)) := kS
      have qz := fun j => kS.frozen j
      have hsl := kS.lt
      have hus : Upd (fun k => k = a.sb i kk) wn (wn.setCell ⟨a.sb i kk, 8, none⟩ (.pointer none)) := (Upd.refl (fun k => k = a.sb i kk) wn).setCell (p := ⟨a.sb i kk, 8, none⟩) (fun _ => rfl) _
      obtain ⟨u8, s8⟩ : ∃ u, wn.cell? ⟨a.sb i kk, 8, none⟩ = some u := ⟨_, kS.cell 8⟩
      have hfin : Hid (CRel S w2 g An cn Am cm G a i w3.heap.size es clock (wn.setCell ⟨a.sb i kk, 8, none⟩ (.pointer none)) ∧ (wn.setCell ⟨a.sb i kk, 8, none⟩ (.pointer none)).iterSeen w3.heap.size = seen.push e.born) := hid (by
        have hslw := hSlt'.out _ hSs
        have hS3 := HS3.out
        have hr5 : (wn.setCell ⟨a.sb i kk, 8, none⟩ (.pointer none)).heap[w3.heap.size]? = some (.mapIter (some (a.mb i)) clock (seen.push e.born) clock) := by
          rw [Below.heap_setCell _ _ _ _ (by simp only; omega)]; exact hrn
        have hmsb : a.mb i ≠ a.sb i kk := fun e => by
          have h1 := kS
          rw [← e] at h1
          have h2 : wn.heap[a.mb i]? = some (.cells _ _) := h1
          rw [hesn] at h2
          cases h2
        refine ⟨⟨(Below.heap_setCell _ _ _ _ hmsb).trans hesn, seen.push e.born, clock, fun j => decide (j = kk) || d j, hr5, Nat.le_refl _, ?_, hUn.trans (hus.mono (M' := S) fun k _ h => h ▸ hSs) (fun _ _ h => h), fun e' he' hc k hk => ?_⟩, iterSeen_of hr5⟩
        · rw [← clr_set hi ho d hkx]
          have := qn.slot (S' := S) (x' := x.calm) (bb' := a.bb i kk) (ab' := a.ab i kk) (by rw [clr_len]; exact hi) hx0 hus (fun k hk => .inl hk) (fun _ h => h) (fun k hk => by have := hSlt'.out k hk; have := hUn.size; simp; omega) ⟨?_, hSs, fun d' hd' => by cases hd'⟩ (fun h => by cases h)
          · rw [Ad.setB_self] at this; exact this
          · have h8 := kS.set_ 8 (.pointer none)
            have e8 : ((if d kk then x.calm else x).cells (a.bb i kk)).setIfInBounds 8 (.pointer none) = x.calm.cells (a.bb i kk) := by
              cases d kk <;> rfl
            rw [e8] at h8
            exact h8
        · rw [contains_push, Bool.or_eq_true] at hc
          rcases hc with hc | hc
          · show (decide (k = kk) || d k) = true
            rw [hdone.out e' he' hc k hk]; simp
          · have e1 : e' = e := born_inj hst.2.1 he' hm.1 (by simpa using hc)
            subst e1
            rw [hek] at hk
            injection hk with _ hk
            subst hk
            simp)
      clear q n4 hr hesr hwn hw1 hw1h hent0 hrun qn kS hus hUn hun hrn hesn hU
      generalize e.key = ek at *
      go_wp2_with fail
      go_roundw
      case rel => exact hfin.out.1
      case measure => rw [hfin.out.2, hseen0.out]; exact hpush
end

end Go.Proofs.Ytbgopicpdpkccaa

namespace Go.Proofs.Ytbgopicpdpkccaa
open Go.RowKit
set_option linter.unusedVariables false
set_option linter.unusedSimpArgs false

section
variable {S : Nat → Prop} {w : World} {g : Nat} {G : Gr}
theorem promised_any (n s : Int) (h : GAt S w g G) : Calls Try.prog 16 #[.pointer (some ⟨g, 0, none⟩), .int .i64 n, .int .i64 s] w fun e w' => e = .returned (.agg #[.int .i64 (G.st n s).prom.rd, .int .i64 (G.st n s).prom.nd]) ∧ Below w.heap.size w w' :=
  promised_of (some ⟨g, 0, none⟩) (G.st n s) n s w fun w1 hb => state_any n s (h.below hb)
theorem accepted_any (n s : Int) (h : GAt S w g G) : Calls Try.prog 21 #[.pointer (some ⟨g, 0, none⟩), .int .i64 n, .int .i64 s] w fun e w' => e = .returned (.tuple #[.agg #[.int .i64 (G.st n s).accd.bal.rd, .int .i64 (G.st n s).accd.bal.nd], .string (G.st n s).accd.text]) ∧ Below w.heap.size w w' :=
  accepted_of (some ⟨g, 0, none⟩) (G.st n s) n s w fun w1 hb => state_any n s (h.below hb)
def Gr.log (G : Gr) (n : Int) : List ByteArray := logOf fun s => G.st n s
theorem log_any (n : Int) (h : GAt S w g G) : Calls Try.prog 25 #[.pointer (some ⟨g, 0, none⟩), .int .i64 n] w fun e w' => ∃ v, e = .returned v ∧ Cloned 9 1 ((G.log n).map Value.string) (G.log n).length w v w' :=
  log_of (some ⟨g, 0, none⟩) (fun s => G.st n s) n w fun s w1 hb => state_any n s (h.below hb)
def Gr.isUp (G : Gr) (n : Int) : Bool := decide (0 ≤ n ∧ n < G.nds.length) && (G.nd n.toNat).up
set_option maxRecDepth 100000 in
theorem up_any (n : Int) (h : GAt S w g G) : Calls Try.prog 15 #[.pointer (some ⟨g, 0, none⟩), .int .i64 n] w fun e w' => e = .returned (.bool (G.isUp n)) ∧ w' = w := by
  by_cases hn : 0 ≤ n ∧ n < (G.nds.length : Int)
  · obtain ⟨i, rfl⟩ := Int.eq_ofNat_of_zero_le hn.1
    have hi : i < G.nds.length := by omega
    obtain ⟨An, cn, Am, cm, a, q⟩ := h
    have hcn := hid (node_yes i q hi)
    obtain ⟨n1, n2, n3, n4, _⟩ := q.nd i hi
    have e0 : Hid (G.isUp i = (G.nd i).up) := hid (by unfold Gr.isUp; rw [decide_eq_true hn, Int.toNat_natCast]; rfl)
    have xu : w.cell? ⟨a.nb i, 0, none⟩ = some (.bool (G.nd i).up) := n1.cell 0
    clear q n1 n4
    generalize (G.nd i).up = u at *
    go_enter Try.func15, Try.ntmps15
    go_wp2_with fail
    refine hcn.out.mono ?_
    rintro e w2 ⟨rfl, rfl⟩
    go_wp2_with fail
    go_ret
    exact ⟨by rw [e0.out]; rfl, rfl⟩
  · have e0 : Hid (G.isUp n = false) := hid (by unfold Gr.isUp; rw [decide_eq_false hn]; rfl)
    obtain ⟨An, cn, Am, cm, a, q⟩ := h
    have hcn := hid (node_no n q (by omega))
    clear q
    go_enter Try.func15, Try.ntmps15
    go_wp2_with fail
    refine hcn.out.mono ?_
    rintro e w2 ⟨rfl, rfl⟩
    go_wp2_with fail
    go_ret
    exact ⟨by rw [e0.out]; rfl, rfl⟩
end

end Go.Proofs.Ytbgopicpdpkccaa

namespace Go.Proofs.Ytbgopicpdpkccaa
open Go.RowKit
set_option linter.unusedVariables false
set_option linter.unusedSimpArgs false

structure GA where
  kind : Int
  n : Int
  slot : Int
  text : ByteArray
deriving DecidableEq
/-- what Deliver leaves -/
def Gr.DeliverR (G : Gr) (k : Int) (G' : Gr) : Prop := (¬ (0 ≤ k ∧ k < G.mail.length) ∧ G' = G) ∨ ∃ m, 0 ≤ k ∧ G.mail[k.toNat]? = some m ∧ G.Deliver k.toNat m G'
def Gr.Act (G : Gr) (a : GA) (G' : Gr) : Prop :=
  if a.kind = 1 then G' = G.propose a.n a.slot a.text
  else if a.kind = 2 then G.DeliverR a.n G'
  else if a.kind = 3 then G' = G.drop a.n
  else if a.kind = 4 then G' = G.double a.n
  else if a.kind = 5 then G' = G.crash a.n
  else if a.kind = 6 then G' = G.restart a.n
  else if a.kind = 7 then G' = G.catch a.n else G' = G
/-- it proposes -/
def Gr.said (G : Gr) (a : GA) : Bool := decide (a.kind = 1 ∧ G.code a.n a.slot a.text = 0)
section
variable {N : Nat} {K : Int} {G G' : Gr} {s : Int} {pr Kn : ByteArray → Prop} {g : Gho}
theorem Fit.deliver (h : Fit N K G) {k : Int} (hd : G.DeliverR k G') : Fit N K G' := by
  rcases hd with ⟨_, rfl⟩ | ⟨m, h1, h2, h3⟩
  · exact h
  · have hm := List.mem_of_getElem? h2
    have hl := h.len
    have hdst := (h.mail m hm).dst
    obtain ⟨x', new, hr, he⟩ := Deliver_eff (by omega) h3
    exact h.handle hm hr he
theorem Fit.act (h : Fit N K G) (hK : 0 ≤ K) {a : GA} (ha : G.Act a G') : Fit N (K + 1) G' := by
  unfold Gr.Act at ha
  by_cases h1 : a.kind = 1
  · rw [if_pos h1] at ha; rw [ha]; exact h.propose _ _ _
  rw [if_neg h1] at ha
  suffices hs : Fit N K G' from hs.mono (by omega)
  split at ha
  · exact h.deliver ha
  split at ha
  · rw [ha]; exact h.drop _
  split at ha
  · rw [ha]; exact h.double _
  split at ha
  · rw [ha]; exact h.crash _
  split at ha
  · rw [ha]; exact h.restart _
  split at ha
  · rw [ha]; exact h.catch hK _
  · rw [ha]; exact h
/-- nothing is said but the mail is less, or asks; bids may be gone -/
theorem Safe.still (h : Safe s pr G g Kn) (hl : G'.nds.length = G.nds.length) (hat : ∀ j, G'.at_ j s = G.at_ j s ∨ G'.at_ j s = (G.at_ j s).calm) (hm : ∀ m ∈ G'.mail, m ∈ G.mail ∨ m.kind = 6) : Safe s pr G' g Kn := by
  refine h.calm (fun _ => id) hl (fun n => ?_) (fun n => ?_) (fun hg n hn => ?_) fun hg m hm' hs => (hm m hm').imp id fun e => ⟨fun h => by omega, fun h => by omega, fun h => by omega, fun h => by omega⟩
  · rcases hat n with e | e <;> rw [e] <;> exact Int.le_refl _
  · rcases hat n with e | e <;> rw [e] <;> exact Bal.refl _
  · rcases hat n with e | e
    · exact .inl e
    · refine .inr ?_
      rw [e]
      have hk := (h.node n hn).grow hg (pr' := pr) (fun _ => id) (fun _ => id) fun _ _ _ _ => id
      exact ⟨hk.rd0, hk.acc, hk.accp, hk.vote, fun d hd => (by cases hd), hk.lrnd⟩
theorem Safe.deliver (h : Safe s pr G g Kn) (hf : Fit N K G) {k : Int} (hd : G.DeliverR k G') : ∃ g', Safe s pr G' g' Kn := by
  rcases hd with ⟨_, rfl⟩ | ⟨m, h1, h2, h3⟩
  · exact ⟨g, h⟩
  · have hm := List.mem_of_getElem? h2
    have hl := hf.len
    have hdst := (hf.mail m hm).dst
    obtain ⟨x', new, hr, he⟩ := Deliver_eff (by omega) h3
    exact h.handle hm (by omega) rfl hr he
theorem Safe.propose (h : Safe s pr G g Kn) (n s' : Int) (t : ByteArray) : Safe s (fun t' => pr t' ∨ (G.code n s' t = 0 ∧ s' = s) ∧ t' = t) (G.propose n s' t) g Kn := by
  unfold Gr.propose
  split
  case isFalse hc =>
    exact h.calm (fun _ => .inl) rfl (fun _ => Int.le_refl _) (fun _ => Bal.refl _) (fun _ _ _ => .inl rfl) fun _ m hm _ => .inl hm
  case isTrue hc =>
    obtain ⟨h1, h2, h3, h4, h5, h6⟩ := code_ok hc
    have hi : n.toNat < G.nds.length := by omega
    have he := bid_eff (s := s') hi t
    by_cases hs : s' = s
    case neg =>
      have hat : ∀ j, (G.bid n.toNat s' t).at_ j s = G.at_ j s := fun j => by rw [he.at_, if_neg fun e => hs e.2.symm]
      refine h.calm (fun _ => .inl) he.len (fun j => by rw [hat]; exact Int.le_refl _) (fun j => by rw [hat]; exact Bal.refl _) (fun _ j _ => .inl (hat j)) fun _ m hm hms => ?_
      refine (he.mail m hm).imp id fun hn => ?_
      obtain ⟨j, _, rfl⟩ := hn
      exact absurd hms hs
    case pos =>
      subst hs
      have hat : ∀ j, j ≠ n.toNat → (G.bid n.toNat s' t).at_ j s' = G.at_ j s' := fun j hj => by rw [he.at_, if_neg fun e => hj e.1]
      have hati := he.at_ n.toNat s'
      rw [if_pos ⟨rfl, rfl⟩] at hati
      have hx := h.node n.toNat hi
      refine h.calm (fun _ => .inl) he.len (fun j => ?_) (fun j => ?_) (fun hg j hj => ?_) fun hg m hm hms => ?_
      · by_cases e : j = n.toNat
        · rw [e, hati]; simp only; omega
        · rw [hat j e]; exact Int.le_refl _
      · by_cases e : j = n.toNat
        · rw [e, hati]; exact Bal.refl _
        · rw [hat j e]; exact Bal.refl _
      · by_cases e : j = n.toNat
        · subst e
          refine .inr ?_
          rw [hati]
          have hk := hx.grow hg (pr' := fun t' => pr t' ∨ (G.code n s' t = 0 ∧ s' = s') ∧ t' = t) (fun _ => .inl) (fun _ => id) fun _ _ _ _ => id
          have hr0 := hx.rd0
          refine ⟨by simp only; omega, hk.acc, hk.accp, hk.vote, fun d hd => ?_, hk.lrnd⟩
          simp only [Option.some.injEq] at hd
          subst hd
          refine ⟨by simp only, by simp only; omega, by simp only; omega, List.nodup_nil, fun _ => ⟨.inr ⟨⟨hc, rfl⟩, rfl⟩, fun t' ht' => ?_, fun p hp => by cases hp⟩, fun ha => by cases ha⟩
          have := (h.ps _ _ ht').own.2.2.2
          simp only [Int.toNat_natCast] at this
          omega
        · exact .inl (hat j e)
      · refine (he.mail m hm).imp id fun hn => ?_
        obtain ⟨j, _, rfl⟩ := hn
        exact ⟨fun e => by simp at e, fun e => by simp at e, fun e => by simp at e, fun e => by simp at e⟩
theorem Safe.weak {pr' : ByteArray → Prop} (h : Safe s pr G g Kn) (hpr : ∀ t, pr t → pr' t) : Safe s pr' G g Kn :=
  h.calm hpr rfl (fun _ => Int.le_refl _) (fun _ => Bal.refl _) (fun _ _ _ => .inl rfl) fun _ m hm _ => .inl hm
theorem Safe.act (h : Safe s pr G g Kn) (hf : Fit N K G) {a : GA} (ha : G.Act a G') : ∃ g', Safe s (fun t => pr t ∨ (G.said a = true ∧ a.slot = s) ∧ t = a.text) G' g' Kn := by
  unfold Gr.Act at ha
  by_cases h1 : a.kind = 1
  · rw [if_pos h1] at ha
    subst ha
    refine ⟨g, (h.propose a.n a.slot a.text).weak fun t ht => ht.imp id fun ht => ⟨⟨?_, ht.1.2⟩, ht.2⟩⟩
    unfold Gr.said
    exact decide_eq_true ⟨h1, ht.1.1⟩
  rw [if_neg h1] at ha
  suffices hs : ∃ g', Safe s pr G' g' Kn by
    obtain ⟨g', hs⟩ := hs
    exact ⟨g', hs.weak fun _ => .inl⟩
  split at ha
  · exact h.deliver hf ha
  split at ha
  · subst ha; exact ⟨g, h.still (by rw [drop_nds]) (fun j => .inl (Gr.at_nds (drop_nds _) j s)) fun m hm => .inl (drop_mem hm)⟩
  split at ha
  · subst ha; exact ⟨g, h.still (by rw [double_nds]) (fun j => .inl (Gr.at_nds (double_nds _) j s)) fun m hm => .inl (double_mem hm)⟩
  split at ha
  · subst ha
    refine ⟨g, h.still ?_ (fun j => crash_at _ j s) fun m hm => .inl ?_⟩
    · unfold Gr.crash; split
      · exact clr_len _ _ _
      · rfl
    · unfold Gr.crash at hm; split at hm <;> exact hm
  split at ha
  · subst ha; exact ⟨g, h.still (restart_len _) (fun j => .inl (restart_at _ j s)) fun m hm => .inl (by rwa [restart_mail] at hm)⟩
  split at ha
  · subst ha
    refine ⟨g, h.still (by rw [catch_nds]) (fun j => .inl (Gr.at_nds (catch_nds _) j s)) fun m hm => (catch_mem hm).imp id ?_⟩
    rintro ⟨k, s, _, _, _, rfl⟩
    rfl
  · subst ha; exact ⟨g, h⟩
/-- what was promised and accepted -/
def Rise (x x' : Sl) : Prop := Bal.le x.prom x'.prom ∧ Bal.le x.accd.bal x'.accd.bal ∧ Bal.le x'.accd.bal x'.prom
theorem Rise.refl {x : Sl} (h : Bal.le x.accd.bal x.prom) : Rise x x := ⟨Bal.refl _, Bal.refl _, h⟩
theorem HRel.rise {i : Nat} {x x' : Sl} {m : Ml} {new : Ml → Prop} (hr : HRel G i x m x' new) (h : Bal.le x.accd.bal x.prom) : Rise x x' := by
  cases hr with
  | stay => exact .refl h
  | late _ => exact ⟨Bal.refl _, Bal.refl _, h⟩
  | prep _ hc => exact ⟨cmp_le hc, Bal.refl _, Bal.trans h (cmp_le hc)⟩
  | acc _ hc => exact ⟨cmp_le hc, Bal.trans h (cmp_le hc), Bal.refl _⟩
  | ans1 _ _ _ _ => exact ⟨Bal.refl _, Bal.refl _, h⟩
  | won _ _ _ _ _ _ => exact ⟨Bal.refl _, Bal.refl _, h⟩
  | ans2 _ _ _ _ => exact ⟨Bal.refl _, Bal.refl _, h⟩
  | done _ _ _ _ => exact ⟨Bal.refl _, Bal.refl _, h⟩
  | learn _ _ => exact ⟨Bal.refl _, Bal.refl _, h⟩
  | told => exact .refl h
theorem act_rise (hf : Fit N K G) (h : ∀ j t, Bal.le (G.at_ j t).accd.bal (G.at_ j t).prom) {a : GA} (ha : G.Act a G') (j : Nat) (t : Int) : Rise (G.at_ j t) (G'.at_ j t) := by
  have same : G'.at_ j t = G.at_ j t ∨ G'.at_ j t = (G.at_ j t).calm → Rise (G.at_ j t) (G'.at_ j t) := fun e => by
    rcases e with e | e
    · rw [e]; exact .refl (h j t)
    · rw [e]; exact ⟨Bal.refl _, Bal.refl _, h j t⟩
  unfold Gr.Act at ha
  split at ha
  · subst ha
    unfold Gr.propose
    split
    · rename_i hc
      obtain ⟨h1, h2, _⟩ := code_ok hc
      rw [(bid_eff (by omega) a.text).at_]
      split
      · rename_i e
        rw [e.1, e.2]
        exact ⟨Bal.refl _, Bal.refl _, h _ _⟩
      · exact .refl (h j t)
    · exact .refl (h j t)
  split at ha
  · rcases ha with ⟨_, rfl⟩ | ⟨m, h1, h2, h3⟩
    · exact .refl (h j t)
    · have hm := List.mem_of_getElem? h2
      have hl := hf.len
      have hdst := (hf.mail m hm).dst
      obtain ⟨x', new, hr, he⟩ := Deliver_eff (by omega) h3
      rw [he.at_]
      split
      · rename_i e
        rw [e.1, e.2]
        exact hr.rise (h _ _)
      · exact .refl (h j t)
  split at ha
  · subst ha; exact same (.inl (Gr.at_nds (drop_nds _) j t))
  split at ha
  · subst ha; exact same (.inl (Gr.at_nds (double_nds _) j t))
  split at ha
  · subst ha; exact same (crash_at _ j t)
  split at ha
  · subst ha; exact same (.inl (restart_at _ j t))
  split at ha
  · subst ha; exact same (.inl (Gr.at_nds (catch_nds _) j t))
  · subst ha; exact same (.inl rfl)
theorem grN_at (k i : Nat) (s : Int) : (grN k).at_ i s = sl0 := by unfold Gr.at_; rw [grN_nd]; rfl
theorem Fit.new (k : Nat) (hK : 0 ≤ K) : Fit k K (grN k) :=
  ⟨by simp [grN], by simp [grN], fun m hm => by simp [grN] at hm, fun i hi s => by rw [grN_at]; exact ⟨⟨Int.le_refl _, hK⟩, fun h => by cases h⟩⟩
theorem Safe.new (k : Nat) (s : Int) : Safe s (fun _ => False) (grN k) ⟨fun _ _ => False, fun _ _ => False⟩ (fun _ => False) :=
  ⟨fun _ _ h => h.elim, fun _ _ h => h.elim, fun n hn => by
    rw [grN_at]
    exact ⟨Int.le_refl _, .inl rfl, Bal.refl _, fun _ h => h.elim, fun d hd => (by cases hd), fun h => (by cases h)⟩, fun m hm => by simp [grN] at hm, fun _ h => h.elim⟩
theorem act_len (hf : Fit N K G) (hK : 0 ≤ K) {a : GA} (ha : G.Act a G') : G'.nds.length = G.nds.length := by
  rw [(hf.act hK ha).len, hf.len]
end

end Go.Proofs.Ytbgopicpdpkccaa

namespace Go.Proofs.Ytbgopicpdpkccaa
open Go.RowKit
set_option linter.unusedVariables false
set_option linter.unusedSimpArgs false

/-- what missing answers -/
def missV : Option Nat → Value
  | none => .tuple #[.int .i64 0, .bool false]
  | some k => .tuple #[.int .i64 (k : Int), .bool true]
section
variable {S : Nat → Prop} {w : World} {g : Nat} {G : Gr} {An Am : Option Addr} {cn cm : Nat} {a : Ad}
theorem lacks_some {n : Int} {k : Nat} (hk : k < 256) (h : ∀ j : Nat, j < k → (G.st n (j : Int)).is = true) (hf : (G.st n (k : Int)).is = false) : G.lacks n = some k := by
  unfold Gr.lacks
  rw [List.find?_range_eq_some]
  refine ⟨by simp [hf], List.mem_range.2 hk, fun j hj => ?_⟩
  simp [h j hj]
theorem lacks_none {n : Int} (h : ∀ j : Nat, j < 256 → (G.st n (j : Int)).is = true) : G.lacks n = none := by
  unfold Gr.lacks
  rw [List.find?_range_eq_none]
  intro j hj
  simp [h j hj]
set_option maxRecDepth 100000 in
set_option maxHeartbeats 2000000 in
theorem missing_any (i : Nat) (h : GIn S w g An cn Am cm G a) (hi : i < G.nds.length) : Calls Try.prog 42 #[.pointer (some ⟨a.nb i, 0, none⟩)] w fun e w' => e = .returned (missV (G.lacks i)) ∧ w' = w := by
  obtain ⟨n1, n2, n3, n4, ho⟩ := h.nd i hi
  have x1 : w.cell? ⟨a.nb i, 1, none⟩ = some (.map (some (a.mb i))) := n1.cell 1
  have hst0 : ∀ s, G.st i s = G.at_ i s := fun s => by unfold Gr.st; rw [if_pos ⟨by omega, by omega⟩, Int.toNat_natCast]
  have hst := hid hst0
  have hh := hid h
  have hN4 := hid n4
  clear hst0 h n4 n1 n2 n3
  go_enter Try.func42, Try.ntmps42
  go_wp2_with fail
  go_loopw [6] (fun v wr => ∃ k : Nat, v = .int .i64 k ∧ k ≤ 256 ∧ wr = w ∧ ∀ j : Nat, j < k → (G.st i (j : Int)).is = true) (fun v _ => 256 - (intOf v).toNat)
  case atStart => exact ⟨0, rfl, by omega, rfl, fun j hj => by omega⟩
  case round =>
    obtain ⟨k, rfl, hk, rfl, hall0⟩ := hrel
    have hall := hid hall0
    clear hall0
    by_cases hlt : k < 256
    · have i1 : (k : Int) < 256 := by omega
      cases hg : getA (k : Int) (G.nd i).sl with
      | none =>
        have his : Hid ((G.st i (k : Int)).is = false) := hid (by rw [hst.out]; unfold Gr.at_; rw [hg]; rfl)
        have hlk : (Instr.lookup 65 (.map (some (a.mb i))) (.int .i64 (k : Int)) false).run Try.prog wr = .ok (.pointer none) wr := by
          have := hN4.out.lookup Try.underlying65 zero_sptr (k : Int)
          rw [getK_mapk (fun t _ => Value.pointer (some ⟨a.sb i t, 0, none⟩)), hg] at this
          exact this
        go_wp2_with fail
        go_ret2
        exact ⟨by rw [lacks_some hlt hall.out his.out]; rfl, by first | rfl | trivial⟩
      | some x =>
        have hlk : (Instr.lookup 65 (.map (some (a.mb i))) (.int .i64 (k : Int)) false).run Try.prog wr = .ok (.pointer (some ⟨a.sb i k, 0, none⟩)) wr := by
          have := hN4.out.lookup Try.underlying65 zero_sptr (k : Int)
          rw [getK_mapk (fun t _ => Value.pointer (some ⟨a.sb i t, 0, none⟩)), hg] at this
          exact this
        obtain ⟨kS, hSs, _⟩ := hh.out.sl i hi ((k : Int), x) (getA_mem hg)
        have hsis : Hid ((G.st i (k : Int)).is = x.is) := hid (by rw [hst.out]; unfold Gr.at_; rw [hg]; rfl)
        cases his : x.is with
        | false =>
          have s6 : wr.cell? ⟨a.sb i k, 6, none⟩ = some (.bool false) := by have := kS.cell 6; rw [← his]; exact this
          clear kS hSs hg
          have his := hid his
          go_wp2_with fail
          go_ret2
          exact ⟨by rw [lacks_some hlt hall.out (hsis.out.trans his.out)]; rfl, by first | rfl | trivial⟩
        | true =>
          have s6 : wr.cell? ⟨a.sb i k, 6, none⟩ = some (.bool true) := by have := kS.cell 6; rw [← his]; exact this
          clear kS hSs hg
          have hisk : Hid ((G.st i (k : Int)).is = true) := hid (hsis.out.trans his)
          clear his hsis
          go_wp2_with fail
          go_roundw
          case rel =>
            refine ⟨k + 1, by go_num, by omega, by first | rfl | trivial, fun j hj => ?_⟩
            rcases Nat.lt_succ_iff_lt_or_eq.1 hj with h | rfl
            · exact hall.out j h
            · exact hisk.out
          case measure => simp [intOf]; omega
    · obtain rfl : k = 256 := by omega
      go_wp2_with fail
      go_ret2
      exact ⟨by rw [lacks_none hall.out]; rfl, by first | rfl | trivial⟩
/-- what Catch answers -/
def Gr.catchB (G : Gr) (n : Int) : Bool := decide (0 ≤ n ∧ n < G.nds.length ∧ (G.nd n.toNat).up = true ∧ G.mail.length + G.nds.length ≤ 4097 ∧ (G.lacks n).isSome)
theorem catch_far (n : Int) (h : GAt S w g G) (hn : n < 0 ∨ (G.nds.length : Int) ≤ n) : Calls Try.prog 26 #[.pointer (some ⟨g, 0, none⟩), .int .i64 n] w fun e w' => e = .returned (.bool false) ∧ Below w.heap.size w w' := by
  obtain ⟨An, cn, Am, cm, a, q⟩ := h
  have hcn := hid (node_no n q hn)
  clear q
  go_enter Try.func26, Try.ntmps26
  go_wp2_with fail
  refine hcn.out.mono ?_
  rintro e w2 ⟨rfl, rfl⟩
  go_upto_region 2 with fail
  go_quiet (fail)
  go_wp2_with fail
  go_ret
  exact ⟨rfl, below_drewN (Below.refl _ _) _⟩
set_option maxRecDepth 100000 in
theorem catch_down (i : Nat) (h : GAt S w g G) (hi : i < G.nds.length) (hu : (G.nd i).up = false) : Calls Try.prog 26 #[.pointer (some ⟨g, 0, none⟩), .int .i64 i] w fun e w' => e = .returned (.bool false) ∧ Below w.heap.size w w' := by
  obtain ⟨An, cn, Am, cm, a, q⟩ := h
  have hcn := hid (node_yes i q hi)
  obtain ⟨n1, n2, n3, n4, _⟩ := q.nd i hi
  have xu : w.cell? ⟨a.nb i, 0, none⟩ = some (.bool false) := by have := n1.cell 0; rwa [hu] at this
  clear q n1 n4 hu
  go_enter Try.func26, Try.ntmps26
  go_wp2_with fail
  refine hcn.out.mono ?_
  rintro e w2 ⟨rfl, rfl⟩
  go_upto_region 2 with fail
  go_quiet (fail)
  go_wp2_with fail
  go_ret
  exact ⟨rfl, below_drewN (Below.refl _ _) _⟩
set_option maxRecDepth 100000 in
set_option maxHeartbeats 2000000 in
theorem catch_full (i : Nat) (h : GAt S w g G) (hi : i < G.nds.length) (hu : (G.nd i).up = true) (hl : G.mail.length ≤ 1000000 ∧ G.nds.length ≤ 1000) (hf : 4097 < G.mail.length + G.nds.length) : Calls Try.prog 26 #[.pointer (some ⟨g, 0, none⟩), .int .i64 i] w fun e w' => e = .returned (.bool false) ∧ Below w.heap.size w w' := by
  obtain ⟨An, cn, Am, cm, a, q⟩ := h
  have hcn := hid (node_yes i q hi)
  obtain ⟨n1, n2, n3, n4, _⟩ := q.nd i hi
  have xu : w.cell? ⟨a.nb i, 0, none⟩ = some (.bool true) := by have := n1.cell 0; rwa [hu] at this
  obtain ⟨c0, c1⟩ := q.cells
  have hr1 : (G.mail.length : Int) + G.nds.length < 9223372036854775808 := by omega
  have t1 : decide (4096 < (G.mail.length : Int) + G.nds.length - 1) = true := decide_eq_true (by omega)
  clear q n1 n4 hu hf
  go_enter Try.func26, Try.ntmps26
  go_wp2_with fail
  refine hcn.out.mono ?_
  rintro e w2 ⟨rfl, rfl⟩
  go_upto_region 2 with fail
  go_quiet (fail)
  go_wp2_with fail
  go_ret
  exact ⟨rfl, below_drewN (Below.refl _ _) _⟩
set_option maxRecDepth 100000 in
set_option maxHeartbeats 2000000 in
theorem catch_none (i : Nat) (h : GAt S w g G) (hi : i < G.nds.length) (hu : (G.nd i).up = true) (hl : G.mail.length ≤ 1000000 ∧ G.nds.length ≤ 1000) (hf : G.mail.length + G.nds.length ≤ 4097) (hk : G.lacks i = none) : Calls Try.prog 26 #[.pointer (some ⟨g, 0, none⟩), .int .i64 i] w fun e w' => e = .returned (.bool false) ∧ Below w.heap.size w w' := by
  obtain ⟨An, cn, Am, cm, a, q⟩ := h
  have hcn := hid (node_yes i q hi)
  have hq := hid q
  obtain ⟨n1, n2, n3, n4, _⟩ := q.nd i hi
  have xu : w.cell? ⟨a.nb i, 0, none⟩ = some (.bool true) := by have := n1.cell 0; rwa [hu] at this
  obtain ⟨c0, c1⟩ := q.cells
  have hr1 : (G.mail.length : Int) + G.nds.length < 9223372036854775808 := by omega
  have t1 : decide (4096 < (G.mail.length : Int) + G.nds.length - 1) = false := decide_eq_false (by omega)
  have hK := hid hk
  clear q n1 n4 hu hf hk
  go_enter Try.func26, Try.ntmps26
  go_wp2_with fail
  refine hcn.out.mono ?_
  rintro e w2 ⟨rfl, rfl⟩
  go_upto_region 2 with fail
  go_quiet (fail)
  have hB0 : Below w2.heap.size w2 (w2.drewN nq) := below_drewN (Below.refl _ _) _
  generalize w2.drewN nq = w3 at *
  have q3 := hq.out.below hB0
  have hB := hid hB0
  have hms := hid (missing_any i q3 hi)
  clear q3 hB0 c0 c1 xu
  go_wp2_with fail
  refine hms.out.mono ?_
  rintro e w4 ⟨rfl, rfl⟩
  rw [hK.out]
  unfold missV
  go_wp2_with fail
  go_ret
  exact ⟨rfl, hB.out⟩
set_option maxRecDepth 100000 in
set_option maxHeartbeats 2000000 in
theorem catch_yes (i k0 : Nat) (h : GAt S w g G) (hi : i < G.nds.length) (hu : (G.nd i).up = true) (hl : G.mail.length ≤ 1000000 ∧ G.nds.length ≤ 1000) (hf : G.mail.length + G.nds.length ≤ 4097) (hk : G.lacks i = some k0) : Calls Try.prog 26 #[.pointer (some ⟨g, 0, none⟩), .int .i64 i] w fun e w' => e = .returned (.bool true) ∧ GGo S w g (G.askTo i k0 G.nds.length) w' := by
  obtain ⟨An, cn, Am, cm, a, q⟩ := h
  have hcn := hid (node_yes i q hi)
  have hq := hid q
  obtain ⟨n1, n2, n3, n4, _⟩ := q.nd i hi
  have xu : w.cell? ⟨a.nb i, 0, none⟩ = some (.bool true) := by have := n1.cell 0; rwa [hu] at this
  obtain ⟨c0, c1⟩ := q.cells
  have hr1 : (G.mail.length : Int) + G.nds.length < 9223372036854775808 := by omega
  have t1 : decide (4096 < (G.mail.length : Int) + G.nds.length - 1) = false := decide_eq_false (by omega)
  have hK := hid hk
  clear q n1 n4 hu hf hk
  go_enter Try.func26, Try.ntmps26
  go_wp2_with fail
  refine hcn.out.mono ?_
  rintro e w2 ⟨rfl, rfl⟩
  go_upto_region 2 with fail
  go_quiet (fail)
  have hB0 : Below w2.heap.size w2 (w2.drewN nq) := below_drewN (Below.refl _ _) _
  generalize w2.drewN nq = w3 at *
  have q3 := hq.out.below hB0
  have hB := hid hB0
  have hms := hid (missing_any i q3 hi)
  have d0 : w3.cell? ⟨g, 0, none⟩ = some (.slice An G.nds.length cn) := q3.cells.1
  have h3 := hid q3
  clear q3 hB0 c0 c1 xu
  go_wp2_with fail
  refine hms.out.mono ?_
  rintro e w4 ⟨rfl, rfl⟩
  rw [hK.out]
  unfold missV
  go_wp2_with fail
  go_loopw [52] (fun v wr => ∃ (k : Nat) (S' : Nat → Prop), v = .int .i64 k ∧ k ≤ G.nds.length ∧ GAt S' wr g (G.askTo i k0 k) ∧ (∀ k, S' k → S k ∨ w2.heap.size ≤ k) ∧ Upd S w2 wr) (fun v _ => G.nds.length - (intOf v).toNat)
  case atStart => exact ⟨0, S, rfl, Nat.zero_le _, ⟨_, _, _, _, _, h3.out⟩, fun _ h => .inl h, .of_below' hB.out _⟩
  case round =>
    obtain ⟨k, S', rfl, hk, q, hS0, hu0⟩ := hrel
    have hS := hid hS0
    have hu := hid hu0
    clear hS0 hu0 d0
    by_cases hlt : k < G.nds.length
    · have i1 : (k : Int) < (G.nds.length : Int) := by omega
      by_cases hne : (k : Int) = (i : Int)
      · have t2 : decide ((k : Int) = (i : Int)) = true := decide_eq_true hne
        have hat : G.askTo i k0 (k + 1) = G.askTo i k0 k := by rw [Gr.askTo, if_pos hne]
        have q' := hid q
        clear q
        go_wp2_with fail
        go_roundw
        case rel => exact ⟨k + 1, S', by go_num, hlt, by rw [hat]; exact q'.out, hS.out, hu.out⟩
        case measure => simp [intOf]; omega
      · have t2 : decide ((k : Int) = (i : Int)) = false := decide_eq_false hne
        have hat : Hid (G.askTo i k0 (k + 1) = (G.askTo i k0 k).send ⟨6, i, (k : Int), k0, bal0, bal0, ⟨#[]⟩⟩) := hid (by rw [Gr.askTo, if_neg hne])
        have hsd := hid (send_any ⟨6, i, (k : Int), k0, bal0, bal0, ⟨#[]⟩⟩ q)
        have hl2 := hl.2
        clear q t2 hl hr1 hk
        go_wp2_with fail
        refine hsd.out.mono ?_
        rintro e w5 ⟨rfl, S3, h3, hS3, hu3⟩
        have hq5 : Hid (GAt S3 w5 g (G.askTo i k0 (k + 1)) ∧ (∀ k, S3 k → S k ∨ w2.heap.size ≤ k) ∧ Upd S w2 w5) := hid (by
          refine ⟨by rw [hat.out]; exact h3, fun j hj => ?_, hu.out.trans hu3 fun j hj h => ?_⟩
          · rcases hS3 j hj with h | h
            · exact hS.out j h
            · have := hu.out.size; exact .inr (by omega)
          · rcases hS.out j h with h | h
            · exact h
            · omega)
        clear h3 hS3 hu3
        go_wp2_with fail
        go_roundw
        case rel => exact ⟨k + 1, S3, by go_num, hlt, hq5.out.1, hq5.out.2.1, hq5.out.2.2⟩
        case measure => simp [intOf]; omega
    · obtain rfl : k = G.nds.length := by omega
      have q' := hid q
      clear q
      go_wp2_with fail
      go_ret
      exact ⟨rfl, S', q'.out, hS.out, hu.out⟩
theorem catch_any (n : Int) (h : GAt S w g G) (hl : G.mail.length ≤ 1000000 ∧ G.nds.length ≤ 1000) : Calls Try.prog 26 #[.pointer (some ⟨g, 0, none⟩), .int .i64 n] w fun e w' => e = .returned (.bool (G.catchB n)) ∧ GGo S w g (G.catch n) w' := by
  unfold Gr.catchB Gr.catch
  by_cases h1 : 0 ≤ n ∧ n < G.nds.length
  · obtain ⟨i, rfl⟩ := Int.eq_ofNat_of_zero_le h1.1
    have hi : i < G.nds.length := by omega
    rw [Int.toNat_natCast]
    cases hu : (G.nd i).up with
    | false =>
      rw [if_neg (fun hc => by have := hc.2.2.1; cases this), decide_eq_false (fun hc => by have := hc.2.2.1; cases this)]
      exact (catch_down i h hi hu).mono fun e w' ⟨he, hb⟩ => ⟨he, GGo.of_below h hb⟩
    | true =>
      by_cases hf : G.mail.length + G.nds.length ≤ 4097
      · rw [if_pos ⟨h1.1, h1.2, rfl, hf⟩]
        cases hk : G.lacks (i : Int) with
        | none =>
          rw [decide_eq_false (fun hc => by have := hc.2.2.2.2; cases this)]
          exact (catch_none i h hi hu hl hf hk).mono fun e w' ⟨he, hb⟩ => ⟨he, GGo.of_below h hb⟩
        | some k =>
          rw [decide_eq_true ⟨h1.1, h1.2, rfl, hf, rfl⟩]
          exact catch_yes i k h hi hu hl hf hk
      · rw [if_neg (fun hc => hf hc.2.2.2), decide_eq_false (fun hc => hf hc.2.2.2.1)]
        exact (catch_full i h hi hu hl (by omega)).mono fun e w' ⟨he, hb⟩ => ⟨he, GGo.of_below h hb⟩
  · rw [if_neg (fun hc => h1 ⟨hc.1, hc.2.1⟩), decide_eq_false (fun hc => h1 ⟨hc.1, hc.2.1⟩)]
    exact (catch_far n h (by omega)).mono fun e w' ⟨he, hb⟩ => ⟨he, GGo.of_below h hb⟩
end

end Go.Proofs.Ytbgopicpdpkccaa

namespace Go.Proofs.Ytbgopicpdpkccaa
open Go.RowKit
set_option linter.unusedVariables false
set_option linter.unusedSimpArgs false

section
variable {S : Nat → Prop} {w : World} {g : Nat} {G : Gr} {N : Nat} {K : Int}
theorem deliver_any (k : Int) (h : GAt S w g G) (hf : Fit N K G) (hN : N ≤ 9) : Calls Try.prog 19 #[.pointer (some ⟨g, 0, none⟩), .int .i64 k] w fun e w' => e = .returned (.bool (decide (0 ≤ k ∧ k < G.mail.length))) ∧ ∃ G', G.DeliverR k G' ∧ GGo S w g G' w' := by
  have hl := hf.len
  by_cases hk : 0 ≤ k ∧ k < G.mail.length
  · obtain ⟨j, rfl⟩ := Int.eq_ofNat_of_zero_le hk.1
    have hj : j < G.mail.length := by omega
    have hm := hf.mail G.mail[j] (List.getElem_mem hj)
    rw [decide_eq_true hk]
    refine (deliver_yes j G.mail[j] h hj rfl hm.kind (by have := hm.dst; omega) (by have := hm.slot; omega) (by omega) (by have := hf.room; omega)).mono fun e w' ⟨he, G', h1, h2⟩ => ?_
    exact ⟨he, G', .inr ⟨G.mail[j], hk.1, by rw [Int.toNat_natCast]; exact List.getElem?_eq_getElem hj, by rw [Int.toNat_natCast]; exact h1⟩, h2⟩
  · rw [decide_eq_false hk]
    exact (deliver_no k h (by omega)).mono fun e w' ⟨he, hw⟩ => ⟨he, G, .inl ⟨hk, rfl⟩, by subst hw; exact GGo.stay h⟩
theorem crash_any (n : Int) (h : GAt S w g G) : Calls Try.prog 32 #[.pointer (some ⟨g, 0, none⟩), .int .i64 n] w fun e w' => (∃ b, e = .returned (.bool b)) ∧ GGo S w g (G.crash n) w' := by
  unfold Gr.crash
  by_cases h1 : 0 ≤ n ∧ n < G.nds.length
  · obtain ⟨i, rfl⟩ := Int.eq_ofNat_of_zero_le h1.1
    have hi : i < G.nds.length := by omega
    rw [Int.toNat_natCast]
    cases hu : (G.nd i).up with
    | true =>
      rw [if_pos ⟨h1.1, h1.2, rfl⟩]
      exact (crash_yes i h hi hu).mono fun e w' ⟨he, hb⟩ => ⟨⟨_, he⟩, hb⟩
    | false =>
      rw [if_neg (fun hc => by have := hc.2.2; cases this)]
      exact (crash_down i h hi hu).mono fun e w' ⟨he, hb⟩ => ⟨⟨_, he⟩, by subst hb; exact GGo.stay h⟩
  · rw [if_neg (fun hc => h1 ⟨hc.1, hc.2.1⟩)]
    exact (crash_far n h (by omega)).mono fun e w' ⟨he, hb⟩ => ⟨⟨_, he⟩, by subst hb; exact GGo.stay h⟩
set_option maxRecDepth 100000 in
set_option maxHeartbeats 4000000 in
theorem act_any (a : GA) (h : GAt S w g G) (hf : Fit N K G) (hN : N ≤ 9) (hK : K ≤ 100000) : Calls Try.prog 14 #[.pointer (some ⟨g, 0, none⟩), .agg #[.int .i64 a.kind, .int .i64 a.n, .int .i64 a.slot, .string a.text]] w fun e w' => e = .returned (.bool (G.said a)) ∧ ∃ G', G.Act a G' ∧ GGo S w g G' w' := by
  have hB0 : Below w.heap.size w (w.alloc (.cells #[.int .i64 a.kind, .int .i64 a.n, .int .i64 a.slot, .string a.text] 32)) := (Below.refl _ _).alloc (Nat.le_refl _) _
  have kb0 := Blk.new w 32 #[.int .i64 a.kind, .int .i64 a.n, .int .i64 a.slot, .string a.text]
  have h0 := h.below hB0
  have hr : -9223372036854775808 ≤ (G.at_ a.n.toNat a.slot).rd + 1 ∧ (G.at_ a.n.toNat a.slot).rd + 1 < 9223372036854775808 := by
    by_cases hi : a.n.toNat < N
    · have := (hf.node a.n.toNat hi a.slot).rd; omega
    · have : G.at_ a.n.toNat a.slot = sl0 := by
        unfold Gr.at_ Gr.nd
        have hl := hf.len
        rw [List.getD_eq_getElem?_getD, List.getElem?_eq_none (by omega)]
        rfl
      rw [this]; decide
  have hm1 : G.mail.length ≤ 1000000 ∧ G.nds.length ≤ 1000 := by have := hf.room; have := hf.len; omega
  have hm2 : G.mail.length ≤ 100000 := by have := hf.room; omega
  have fin : ∀ (G' : Gr) w', G.Act a G' → GGo S (w.alloc (.cells #[.int .i64 a.kind, .int .i64 a.n, .int .i64 a.slot, .string a.text] 32)) g G' w' → ∃ G', G.Act a G' ∧ GGo S w g G' w' := fun G' w' ha hg => ⟨G', ha, GGo.then ⟨S, fun _ h => .inl h, .of_below' hB0 _, hg⟩⟩
  obtain ⟨kd, n, s, t⟩ := a
  simp only at *
  have hpro := hid (propose_any n s t h0 hm1 hr)
  have hdel := hid (deliver_any n h0 hf hN)
  have hdro := hid (drop_any n h0 hm2)
  have hdou := hid (double_any n h0 hm2)
  have hcra := hid (crash_any n h0)
  have hres := hid (restart_any n h0)
  have hcat := hid (catch_any n h0 hm1)
  have hH := hid h0
  have Fin := hid fin
  have v0 := kb0.cell 0
  have v1 := kb0.cell 1
  have v2 := kb0.cell 2
  have v3 := kb0.cell 3
  simp only [List.getElem?_toArray, List.getElem?_cons_zero, List.getElem?_cons_succ] at v0 v1 v2 v3
  clear h h0 hr hm1 hm2 fin hf kb0 hB0
  by_cases hk1 : kd = 1
  · subst hk1
    have hsaid : Hid (G.said ⟨1, n, s, t⟩ = decide (G.code n s t = 0)) := hid (by unfold Gr.said; simp)
    go_enter Try.func14, Try.ntmps14
    go_wp2_with fail
    refine hpro.out.mono ?_
    rintro e w2 ⟨rfl, hg⟩
    have hg := hid hg
    go_wp2_with (go_at_call 10; refine (num_any _ _).mono ?_; rintro e w' ⟨rfl, rfl⟩)
    go_ret
    exact ⟨by rw [hsaid.out]; rfl, Fin.out _ _ (by unfold Gr.Act; simp) hg.out⟩
  by_cases hk2 : kd = 2
  · subst hk2
    have hsaid : Hid (G.said ⟨2, n, s, t⟩ = false) := hid (by unfold Gr.said; simp)
    go_enter Try.func14, Try.ntmps14
    go_wp2_with fail
    refine hdel.out.mono ?_
    rintro e w2 ⟨rfl, G2, h1, hg⟩
    have hg := hid hg
    have h1 := hid h1
    go_wp2_with fail
    go_ret
    exact ⟨by rw [hsaid.out]; rfl, Fin.out _ _ (by unfold Gr.Act; simp; exact h1.out) hg.out⟩
  by_cases hk3 : kd = 3
  · subst hk3
    have hsaid : Hid (G.said ⟨3, n, s, t⟩ = false) := hid (by unfold Gr.said; simp)
    go_enter Try.func14, Try.ntmps14
    go_wp2_with fail
    refine hdro.out.mono ?_
    rintro e w2 ⟨⟨b, rfl⟩, hg⟩
    have hg := hid hg
    go_wp2_with fail
    go_ret
    exact ⟨by rw [hsaid.out]; rfl, Fin.out _ _ (by unfold Gr.Act; simp) hg.out⟩
  by_cases hk4 : kd = 4
  · subst hk4
    have hsaid : Hid (G.said ⟨4, n, s, t⟩ = false) := hid (by unfold Gr.said; simp)
    go_enter Try.func14, Try.ntmps14
    go_wp2_with fail
    refine hdou.out.mono ?_
    rintro e w2 ⟨⟨b, rfl⟩, hg⟩
    have hg := hid hg
    go_wp2_with fail
    go_ret
    exact ⟨by rw [hsaid.out]; rfl, Fin.out _ _ (by unfold Gr.Act; simp) hg.out⟩
  by_cases hk5 : kd = 5
  · subst hk5
    have hsaid : Hid (G.said ⟨5, n, s, t⟩ = false) := hid (by unfold Gr.said; simp)
    go_enter Try.func14, Try.ntmps14
    go_wp2_with fail
    refine hcra.out.mono ?_
    rintro e w2 ⟨⟨b, rfl⟩, hg⟩
    have hg := hid hg
    go_wp2_with fail
    go_ret
    exact ⟨by rw [hsaid.out]; rfl, Fin.out _ _ (by unfold Gr.Act; simp) hg.out⟩
  by_cases hk6 : kd = 6
  · subst hk6
    have hsaid : Hid (G.said ⟨6, n, s, t⟩ = false) := hid (by unfold Gr.said; simp)
    go_enter Try.func14, Try.ntmps14
    go_wp2_with fail
    refine hres.out.mono ?_
    rintro e w2 ⟨⟨b, rfl⟩, hg⟩
    have hg := hid hg
    go_wp2_with fail
    go_ret
    exact ⟨by rw [hsaid.out]; rfl, Fin.out _ _ (by unfold Gr.Act; simp) hg.out⟩
  by_cases hk7 : kd = 7
  · subst hk7
    have hsaid : Hid (G.said ⟨7, n, s, t⟩ = false) := hid (by unfold Gr.said; simp)
    go_enter Try.func14, Try.ntmps14
    go_wp2_with fail
    refine hcat.out.mono ?_
    rintro e w2 ⟨rfl, hg⟩
    have hg := hid hg
    go_wp2_with fail
    go_ret
    exact ⟨by rw [hsaid.out]; rfl, Fin.out _ _ (by unfold Gr.Act; simp) hg.out⟩
  have hsaid : Hid (G.said ⟨kd, n, s, t⟩ = false) := hid (by unfold Gr.said; exact decide_eq_false fun h => hk1 h.1)
  have hact : Hid (G.Act ⟨kd, n, s, t⟩ G) := hid (by unfold Gr.Act; simp [hk1, hk2, hk3, hk4, hk5, hk6, hk7])
  go_enter Try.func14, Try.ntmps14
  go_wp2_with fail
  go_ret
  exact ⟨by rw [hsaid.out]; rfl, Fin.out _ _ hact.out (GGo.stay hH.out)⟩
end

end Go.Proofs.Ytbgopicpdpkccaa

