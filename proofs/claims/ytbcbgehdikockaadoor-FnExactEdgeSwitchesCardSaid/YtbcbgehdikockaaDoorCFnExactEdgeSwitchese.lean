/- The row of the law FnExactEdgeSwitches: contracts and plain lemmas for the law FnExactEdgeSwitches, part 5 of 5 (what the Go functions answer). -/
import Derived.Laws.BitsLemmas
import Derived.ProofKit
import Derived.OpenShut
import Derived.Deep.Matrix
import Derived.Lib.SmallJoins
import Derived.Test.YtbcbgehdikockaaDoorRows
import Derived.Test.YtbcbgehdikockaaDoorCards
import Derived.Test.YtbcbgehdikockaaDoorTie
import Derived.Deep.DeepHandedRow
import Derived.Lib.LaidTab
import Derived.Stop.LaidErr
import Derived.WalkKit
import Derived.ShutString
import Derived.ChangeOld
import Derived.Below
import Derived.SizedLaws
import Derived.Test.YtbcbgehdikockaaDoorCFnExactEdgeSwitchesa
import Derived.Test.YtbcbgehdikockaaDoorCFnExactEdgeSwitchesb
import Derived.Test.YtbcbgehdikockaaDoorCFnExactEdgeSwitchesc
import Derived.Test.YtbcbgehdikockaaDoorCFnExactEdgeSwitchesd
set_option linter.unusedVariables false
set_option linter.unusedSimpArgs false
namespace Go.Proofs.YtbcbgehdikockaaDoor.P
open Go.RowKit Go.Proofs.YtbcbgehdikockaaDoorW.PrintWords Go.Proofs.YtbcbgehdikockaaDoorW.PrintLast Go.Proofs.YtbcbgehdikockaaDoorW.PrintMore
attribute [local go_sem] max2_int min2_int max_two min_two max_three min_three max_four min_four
mutual
def spec_deSwitches.l0 : Nat → List (List Int) → Int → Int → List Int → Option ((List (List Int)))
 | 0, _, _, _, _ => none
 | k + 1, x3, x4, x578000, x578001 => if x4 < x578000 then (spec_deSwitches.l1 k x3 x4 0 x578000 x578001) else (some x3)
def spec_deSwitches.l1 : Nat → List (List Int) → Int → Int → Int → List Int → Option ((List (List Int)))
 | 0, _, _, _, _, _ => none
 | k + 1, x3, x4, x5, x578000, x578001 => if x5 < x578000 then (spec_deSwitches.l2 k x3 x4 x5 0 x578000 x578001) else (spec_deSwitches.l0 k x3 (wrap64 (x4 + 1)) x578000 x578001)
def spec_deSwitches.l2 : Nat → List (List Int) → Int → Int → Int → Int → List Int → Option ((List (List Int)))
 | 0, _, _, _, _, _, _ => none
 | k + 1, x3, x4, x5, x6, x578000, x578001 => if x6 < x578000 then (spec_deSwitches.l3 k x3 x4 x5 x6 0 x578000 x578001) else (spec_deSwitches.l1 k x3 x4 (wrap64 (x5 + 1)) x578000 x578001)
def spec_deSwitches.l3 : Nat → List (List Int) → Int → Int → Int → Int → Int → List Int → Option ((List (List Int)))
 | 0, _, _, _, _, _, _, _ => none
 | k + 1, x3, x4, x5, x6, x7, x578000, x578001 => if x7 < x578000 then ((some (([x4, x5, x6, x7] : List Int) : List Int)).bind fun y578 => ((spec_deSwitch.f k x578000 x578001 y578).bind fun t581 => (if t581 = true then (if x3.length < 5864062014805 then (spec_deSwitches.l3 k (x3 ++ [y578]) x4 x5 x6 (wrap64 (x7 + 1)) x578000 x578001) else (none)) else (spec_deSwitches.l3 k x3 x4 x5 x6 (wrap64 (x7 + 1)) x578000 x578001)))) else (spec_deSwitches.l2 k x3 x4 x5 (wrap64 (x6 + 1)) x578000 x578001)
end
def spec_deSwitches.f (k : Nat) (a0_0 : Int) (l0_1 : List Int) : Option ((List (List Int))) := spec_deSwitches.l0 k ([] : List (List Int)) 0 a0_0 l0_1
theorem spec_deSwitches.mono_l : ∀ k, (∀ y0 y1 y2 y3, LeO (spec_deSwitches.l0 k y0 y1 y2 y3) (spec_deSwitches.l0 (k + 1) y0 y1 y2 y3)) ∧ (∀ y0 y1 y2 y3 y4, LeO (spec_deSwitches.l1 k y0 y1 y2 y3 y4) (spec_deSwitches.l1 (k + 1) y0 y1 y2 y3 y4)) ∧ (∀ y0 y1 y2 y3 y4 y5, LeO (spec_deSwitches.l2 k y0 y1 y2 y3 y4 y5) (spec_deSwitches.l2 (k + 1) y0 y1 y2 y3 y4 y5)) ∧ (∀ y0 y1 y2 y3 y4 y5 y6, LeO (spec_deSwitches.l3 k y0 y1 y2 y3 y4 y5 y6) (spec_deSwitches.l3 (k + 1) y0 y1 y2 y3 y4 y5 y6))
 | 0 => ⟨fun _ _ _ _ r h => by simp [spec_deSwitches.l0] at h, fun _ _ _ _ _ r h => by simp [spec_deSwitches.l1] at h, fun _ _ _ _ _ _ r h => by simp [spec_deSwitches.l2] at h, fun _ _ _ _ _ _ _ r h => by simp [spec_deSwitches.l3] at h⟩
 | k + 1 => by
  obtain ⟨ih0, ih1, ih2, ih3⟩ := spec_deSwitches.mono_l k
  refine ⟨?_, ?_, ?_, ?_⟩
  ·
   intro y0 y1 y2 y3
   unfold spec_deSwitches.l0
   repeat' first
   | (with_reducible exact ih0 _ _ _ _)
   | (with_reducible exact ih1 _ _ _ _ _)
   | (with_reducible exact ih2 _ _ _ _ _ _)
   | (with_reducible exact ih3 _ _ _ _ _ _ _)
   | (with_reducible exact spec_deSwitch.mono _ _ _ _)
   | (with_reducible exact LeO.refl _)
   | (with_reducible exact LeO.none _)
   | (with_reducible refine LeO.ite ?_ ?_)
   | (with_reducible refine LeO.bind ?_ (fun _ => ?_))
   | exact ih0 _ _ _ _
   | exact ih1 _ _ _ _ _
   | exact ih2 _ _ _ _ _ _
   | exact ih3 _ _ _ _ _ _ _
   | exact spec_deSwitch.mono _ _ _ _
   | exact LeO.none _
   | refine LeO.ite ?_ ?_
   | refine LeO.bind ?_ (fun _ => ?_)
  ·
   intro y0 y1 y2 y3 y4
   unfold spec_deSwitches.l1
   repeat' first
   | (with_reducible exact ih0 _ _ _ _)
   | (with_reducible exact ih1 _ _ _ _ _)
   | (with_reducible exact ih2 _ _ _ _ _ _)
   | (with_reducible exact ih3 _ _ _ _ _ _ _)
   | (with_reducible exact spec_deSwitch.mono _ _ _ _)
   | (with_reducible exact LeO.refl _)
   | (with_reducible exact LeO.none _)
   | (with_reducible refine LeO.ite ?_ ?_)
   | (with_reducible refine LeO.bind ?_ (fun _ => ?_))
   | exact ih0 _ _ _ _
   | exact ih1 _ _ _ _ _
   | exact ih2 _ _ _ _ _ _
   | exact ih3 _ _ _ _ _ _ _
   | exact spec_deSwitch.mono _ _ _ _
   | exact LeO.none _
   | refine LeO.ite ?_ ?_
   | refine LeO.bind ?_ (fun _ => ?_)
  ·
   intro y0 y1 y2 y3 y4 y5
   unfold spec_deSwitches.l2
   repeat' first
   | (with_reducible exact ih0 _ _ _ _)
   | (with_reducible exact ih1 _ _ _ _ _)
   | (with_reducible exact ih2 _ _ _ _ _ _)
   | (with_reducible exact ih3 _ _ _ _ _ _ _)
   | (with_reducible exact spec_deSwitch.mono _ _ _ _)
   | (with_reducible exact LeO.refl _)
   | (with_reducible exact LeO.none _)
   | (with_reducible refine LeO.ite ?_ ?_)
   | (with_reducible refine LeO.bind ?_ (fun _ => ?_))
   | exact ih0 _ _ _ _
   | exact ih1 _ _ _ _ _
   | exact ih2 _ _ _ _ _ _
   | exact ih3 _ _ _ _ _ _ _
   | exact spec_deSwitch.mono _ _ _ _
   | exact LeO.none _
   | refine LeO.ite ?_ ?_
   | refine LeO.bind ?_ (fun _ => ?_)
  ·
   intro y0 y1 y2 y3 y4 y5 y6
   unfold spec_deSwitches.l3
   repeat' first
   | (with_reducible exact ih0 _ _ _ _)
   | (with_reducible exact ih1 _ _ _ _ _)
   | (with_reducible exact ih2 _ _ _ _ _ _)
   | (with_reducible exact ih3 _ _ _ _ _ _ _)
   | (with_reducible exact spec_deSwitch.mono _ _ _ _)
   | (with_reducible exact LeO.refl _)
   | (with_reducible exact LeO.none _)
   | (with_reducible refine LeO.ite ?_ ?_)
   | (with_reducible refine LeO.bind ?_ (fun _ => ?_))
   | exact ih0 _ _ _ _
   | exact ih1 _ _ _ _ _
   | exact ih2 _ _ _ _ _ _
   | exact ih3 _ _ _ _ _ _ _
   | exact spec_deSwitch.mono _ _ _ _
   | exact LeO.none _
   | refine LeO.ite ?_ ?_
   | refine LeO.bind ?_ (fun _ => ?_)
theorem spec_deSwitches.mono : ∀ a0 a1 k, LeO (spec_deSwitches.f k a0 a1) (spec_deSwitches.f (k + 1) a0 a1) := by
 intro a0 a1 k
 obtain ⟨ih0, ih1, ih2, ih3⟩ := spec_deSwitches.mono_l k
 unfold spec_deSwitches.f
 repeat' first
   | (with_reducible exact ih0 _ _ _ _)
   | (with_reducible exact ih1 _ _ _ _ _)
   | (with_reducible exact ih2 _ _ _ _ _ _)
   | (with_reducible exact ih3 _ _ _ _ _ _ _)
   | (with_reducible exact spec_deSwitch.mono _ _ _ _)
   | (with_reducible exact LeO.refl _)
   | (with_reducible exact LeO.none _)
   | (with_reducible refine LeO.ite ?_ ?_)
   | (with_reducible refine LeO.bind ?_ (fun _ => ?_))
   | exact ih0 _ _ _ _
   | exact ih1 _ _ _ _ _
   | exact ih2 _ _ _ _ _ _
   | exact ih3 _ _ _ _ _ _ _
   | exact spec_deSwitch.mono _ _ _ _
   | exact LeO.none _
   | refine LeO.ite ?_ ?_
   | refine LeO.bind ?_ (fun _ => ?_)
set_option maxHeartbeats 8000000 in
set_option maxRecDepth 100000 in
theorem spec_deSwitches.calls (k : Nat) (a0_0 : Int) (A0_1 : Option Addr) (c0_1 : Nat) (l0_1 : List Int) (r : List (List Int)) (w : World) (hr0_1 : Kd.C (Kd.int .i64) w A0_1 l0_1.length l0_1) (hc0_1 : l0_1.length ≤ c0_1) (h : spec_deSwitches.f k a0_0 l0_1 = some r) :
  Calls Tryd.prog 52 #[.agg #[.int .i64 a0_0, .slice A0_1 l0_1.length c0_1]] w fun e w' => ∃ v0_ : Value, e = .returned (v0_) ∧ Kd.S (Kd.slice 3 (Kd.int .i64)) 22 w' w.heap.size (fun _ => True) v0_ r ∧ Below w.heap.size w w' := by
 have hu27 := Tryd.underlying27
 have HR0_1 := Aside0.mk hr0_1
 have HC0_1 := Aside0.mk hc0_1
 clear hr0_1 hc0_1
 have HB := Aside0.mk (Below.refl w.heap.size w)
 have H : (spec_deSwitches.l0 k ([] : List (List Int)) 0 a0_0 l0_1) = some r := h
 clear h
 have H' := Aside0.mk H
 clear H
 go_enter Tryd.func52, Tryd.ntmps52
 go_wp2_with (first | ((with_reducible refine gate_dst (N := 1) rfl ?_); refine box_event ?hg (N := 1) ?hd (cs := #[.int .i64 a0_0, .slice A0_1 l0_1.length c0_1]) (t := 27) ?hr ?_; (case hd => rfl); (case hg => rfl); (case hr => first | (go_simp; done) | (go_simp; rfl)); intro gb577 hg w2 hbox hb; have n0_ := Aside0.mk (below_step (by repeat (first | (with_reducible first | exact HB.out | apply below_alloc | apply pw_below_drewN | apply below_drew1))) hb); have n1_ := Aside0.mk (hbox); have n2_ := Aside0.mk ((by rw [hg]; exact (below_size (by repeat (first | (with_reducible first | exact HB.out | apply below_alloc | apply pw_below_drewN | apply below_drew1)))) : w.heap.size ≤ gb577)); have n3_ := Aside0.mk ((by rw [hg]; exact (below_size (by repeat (first | (with_reducible first | exact HB.out | apply below_alloc | apply pw_below_drewN | apply below_drew1)))) : w.heap.size ≤ gb577)); clear HB; have HB := n0_; have BK577 := n1_; have GW577 := n2_; have GE577 := n3_; clear n0_ n1_ n2_ n3_; clear hb hbox hg))
 go_loopg [3, 4] k (fun kq v3 v4 w' => ∃ (x3_1 : List (List Int)) (x4_1 : Int), v4 = .int .i64 x4_1 ∧ Aside0 (spec_deSwitches.l0 kq x3_1 x4_1 a0_0 l0_1 = some r) ∧ Aside0 (kq ≤ k) ∧ Aside0 (Kd.S (Kd.slice 3 (Kd.int .i64)) 22 w' w.heap.size (fun _ => True) v3 x3_1) ∧ Aside0 (w'.heap[gb577]? = some (.cells #[.int .i64 a0_0, (.slice A0_1 l0_1.length c0_1)] 27 (0, 0))) ∧ Aside0 (Below w.heap.size w w'))
 case atStart => exact ⟨(([] : List (List Int))), (0), (by first | rfl | (simp; done) | (simp [*]; done)), H', ⟨Nat.le_refl _⟩, ⟨by first | exact Kd.S_nil _ _ _ _ _ | exact Kd.N_nil _ _ _ _ _ | exact Kd.V_nil _ _ _ _ _ | exact Kd.Q_nil _ _ _ _ _ | exact Kd.R_nil _ _ _ _ _⟩, ⟨by (with_reducible repeat (first | refine blk_drewN ?_ _ | refine blk_drew ?_ | refine blk_alloc ?_ _)); exact BK577.out⟩, ⟨by repeat (first | (with_reducible first | exact HB.out | apply below_alloc | apply pw_below_drewN | apply below_drew1 | refine below_set ?_ GE577.out) | exact HB.out)⟩⟩
 case round =>
  clear H'
  try clear p2
  obtain ⟨x3_1, x4_1, rfl, HA, HK1, HO_3, BK577, HB⟩ := hrel
  cases gk with
  | zero => exact absurd HA.out (by simp [spec_deSwitches.l0])
  | succ k1 =>
   have H := HA.out
   clear HA
   simp only [spec_deSwitches.l0] at H
   by_cases c3 : x4_1 < a0_0
   ·
    rw [if_pos c3] at H
    have c3b0 : decide (x4_1 < a0_0) = true := decide_eq_true c3
    clear c3
    have H' := Aside0.mk H
    clear H
    have hcz4_0 : wr.cell? ⟨gb577, 0, none⟩ = some (.int .i64 a0_0) := (blk_cell BK577.out 0).trans rfl
    have hcz4_1 : wr.cell? ⟨gb577, 1, none⟩ = some (.slice A0_1 l0_1.length c0_1) := (blk_cell BK577.out 1).trans rfl
    have hfz4_0 := blk_frozen BK577.out 0
    have hfz4_1 := blk_frozen BK577.out 1
    go_wp2
    go_loopg [3, 5] k1 (fun kq v3 v5 w' => ∃ (x3_2 : List (List Int)) (x5_2 : Int), v5 = .int .i64 x5_2 ∧ Aside0 (spec_deSwitches.l1 kq x3_2 x4_1 x5_2 a0_0 l0_1 = some r) ∧ Aside0 (kq ≤ k1) ∧ Aside0 (Kd.S (Kd.slice 3 (Kd.int .i64)) 22 w' w.heap.size (fun _ => True) v3 x3_2) ∧ Aside0 (w'.heap[gb577]? = some (.cells #[.int .i64 a0_0, (.slice A0_1 l0_1.length c0_1)] 27 (0, 0))) ∧ Aside0 (Below w.heap.size w w'))
    case atStart => exact ⟨(x3_1), (0), (by first | rfl | (simp; done) | (simp [*]; done)), H', ⟨Nat.le_refl _⟩, ⟨by (with_reducible repeat (first | apply Kd.S_alloc | apply Kd.S_drewN | apply Kd.S_drew)); exact HO_3.out⟩, ⟨by (with_reducible repeat (first | refine blk_drewN ?_ _ | refine blk_drew ?_ | refine blk_alloc ?_ _)); exact BK577.out⟩, ⟨by repeat (first | (with_reducible first | exact HB.out | apply below_alloc | apply pw_below_drewN | apply below_drew1 | refine below_set ?_ GE577.out) | exact HB.out)⟩⟩
    case round =>
     clear H'
     try clear p2
     try clear c3
     try clear c3b0
     try clear hcz4_0
     try clear hcz4_1
     try clear hfz4_0
     try clear hfz4_1
     try clear p2
     obtain ⟨x3_2, x5_2, rfl, HA, HK2, HO_3, BK577, HB⟩ := hrel
     cases gk with
     | zero => exact absurd HA.out (by simp [spec_deSwitches.l1])
     | succ k2 =>
      have H := HA.out
      clear HA
      simp only [spec_deSwitches.l1] at H
      by_cases c5 : x5_2 < a0_0
      ·
       rw [if_pos c5] at H
       have c5b0 : decide (x5_2 < a0_0) = true := decide_eq_true c5
       clear c5
       have H' := Aside0.mk H
       clear H
       have hcz6_0 : wr.cell? ⟨gb577, 0, none⟩ = some (.int .i64 a0_0) := (blk_cell BK577.out 0).trans rfl
       have hcz6_1 : wr.cell? ⟨gb577, 1, none⟩ = some (.slice A0_1 l0_1.length c0_1) := (blk_cell BK577.out 1).trans rfl
       have hfz6_0 := blk_frozen BK577.out 0
       have hfz6_1 := blk_frozen BK577.out 1
       go_wp2
       go_loopg [3, 6] k2 (fun kq v3 v6 w' => ∃ (x3_3 : List (List Int)) (x6_3 : Int), v6 = .int .i64 x6_3 ∧ Aside0 (spec_deSwitches.l2 kq x3_3 x4_1 x5_2 x6_3 a0_0 l0_1 = some r) ∧ Aside0 (kq ≤ k2) ∧ Aside0 (Kd.S (Kd.slice 3 (Kd.int .i64)) 22 w' w.heap.size (fun _ => True) v3 x3_3) ∧ Aside0 (w'.heap[gb577]? = some (.cells #[.int .i64 a0_0, (.slice A0_1 l0_1.length c0_1)] 27 (0, 0))) ∧ Aside0 (Below w.heap.size w w'))
       case atStart => exact ⟨(x3_2), (0), (by first | rfl | (simp; done) | (simp [*]; done)), H', ⟨Nat.le_refl _⟩, ⟨by (with_reducible repeat (first | apply Kd.S_alloc | apply Kd.S_drewN | apply Kd.S_drew)); exact HO_3.out⟩, ⟨by (with_reducible repeat (first | refine blk_drewN ?_ _ | refine blk_drew ?_ | refine blk_alloc ?_ _)); exact BK577.out⟩, ⟨by repeat (first | (with_reducible first | exact HB.out | apply below_alloc | apply pw_below_drewN | apply below_drew1 | refine below_set ?_ GE577.out) | exact HB.out)⟩⟩
       case round =>
        clear H'
        try clear p2
        try clear c3
        try clear c3b0
        try clear c5
        try clear c5b0
        try clear hcz4_0
        try clear hcz4_1
        try clear hcz6_0
        try clear hcz6_1
        try clear hfz4_0
        try clear hfz4_1
        try clear hfz6_0
        try clear hfz6_1
        try clear p2
        obtain ⟨x3_3, x6_3, rfl, HA, HK3, HO_3, BK577, HB⟩ := hrel
        cases gk with
        | zero => exact absurd HA.out (by simp [spec_deSwitches.l2])
        | succ k3 =>
         have H := HA.out
         clear HA
         simp only [spec_deSwitches.l2] at H
         by_cases c7 : x6_3 < a0_0
         ·
          rw [if_pos c7] at H
          have c7b0 : decide (x6_3 < a0_0) = true := decide_eq_true c7
          clear c7
          have H' := Aside0.mk H
          clear H
          have hcz8_0 : wr.cell? ⟨gb577, 0, none⟩ = some (.int .i64 a0_0) := (blk_cell BK577.out 0).trans rfl
          have hcz8_1 : wr.cell? ⟨gb577, 1, none⟩ = some (.slice A0_1 l0_1.length c0_1) := (blk_cell BK577.out 1).trans rfl
          have hfz8_0 := blk_frozen BK577.out 0
          have hfz8_1 := blk_frozen BK577.out 1
          go_wp2
          go_loopg [3, 7] k3 (fun kq v3 v7 w' => ∃ (x3_4 : List (List Int)) (x7_4 : Int), v7 = .int .i64 x7_4 ∧ Aside0 (spec_deSwitches.l3 kq x3_4 x4_1 x5_2 x6_3 x7_4 a0_0 l0_1 = some r) ∧ Aside0 (kq ≤ k3) ∧ Aside0 (Kd.S (Kd.slice 3 (Kd.int .i64)) 22 w' w.heap.size (fun _ => True) v3 x3_4) ∧ Aside0 (w'.heap[gb577]? = some (.cells #[.int .i64 a0_0, (.slice A0_1 l0_1.length c0_1)] 27 (0, 0))) ∧ Aside0 (Below w.heap.size w w'))
          case atStart => exact ⟨(x3_3), (0), (by first | rfl | (simp; done) | (simp [*]; done)), H', ⟨Nat.le_refl _⟩, ⟨by (with_reducible repeat (first | apply Kd.S_alloc | apply Kd.S_drewN | apply Kd.S_drew)); exact HO_3.out⟩, ⟨by (with_reducible repeat (first | refine blk_drewN ?_ _ | refine blk_drew ?_ | refine blk_alloc ?_ _)); exact BK577.out⟩, ⟨by repeat (first | (with_reducible first | exact HB.out | apply below_alloc | apply pw_below_drewN | apply below_drew1 | refine below_set ?_ GE577.out) | exact HB.out)⟩⟩
          case round =>
           clear H'
           try clear p2
           try clear c3
           try clear c3b0
           try clear c5
           try clear c5b0
           try clear c7
           try clear c7b0
           try clear hcz4_0
           try clear hcz4_1
           try clear hcz6_0
           try clear hcz6_1
           try clear hcz8_0
           try clear hcz8_1
           try clear hfz4_0
           try clear hfz4_1
           try clear hfz6_0
           try clear hfz6_1
           try clear hfz8_0
           try clear hfz8_1
           try clear p2
           obtain ⟨x3_4, x7_4, rfl, HA, HK4, HO_3, BK577, HB⟩ := hrel
           cases gk with
           | zero => exact absurd HA.out (by simp [spec_deSwitches.l3])
           | succ k4 =>
            have H := HA.out
            clear HA
            simp only [spec_deSwitches.l3] at H
            by_cases c9 : x7_4 < a0_0
            ·
             rw [if_pos c9] at H
             have c9b0 : decide (x7_4 < a0_0) = true := decide_eq_true c9
             clear c9
             obtain ⟨y578, hy578⟩ : ∃ y_ : List Int, y_ = (([x4_1, x5_2, x6_3, x7_4] : List Int)) := ⟨_, rfl⟩
             replace H : ((spec_deSwitch.f k4 a0_0 l0_1 y578).bind fun t581 => (if t581 = true then (if x3_4.length < 5864062014805 then (spec_deSwitches.l3 k4 (x3_4 ++ [y578]) x4_1 x5_2 x6_3 (wrap64 (x7_4 + 1)) a0_0 l0_1) else (none)) else (spec_deSwitches.l3 k4 x3_4 x4_1 x5_2 x6_3 (wrap64 (x7_4 + 1)) a0_0 l0_1))) = some r := by first | (rw [hy578]; with_reducible exact H) | (have H2_ := (Option.bind_some _ _).symm.trans H; rw [hy578]; with_reducible exact H2_) | (have H2_ := (Option.bind_some _ _).symm.trans H; with_reducible exact H2_) | with_reducible exact H | (rw [hy578]; exact H) | exact H
             have Ny578 := Aside0.mk hy578
             clear hy578
             replace H := Option.bind_eq_some_iff.mp H
             obtain ⟨t581, A100, H⟩ := H
             replace H : (if t581 = true then (if x3_4.length < 5864062014805 then (spec_deSwitches.l3 k4 (x3_4 ++ [y578]) x4_1 x5_2 x6_3 (wrap64 (x7_4 + 1)) a0_0 l0_1) else (none)) else (spec_deSwitches.l3 k4 x3_4 x4_1 x5_2 x6_3 (wrap64 (x7_4 + 1)) a0_0 l0_1)) = some r := H
             have A10 := Aside0.mk A100
             clear A100
             by_cases c11 : t581 = true
             ·
              subst c11
              have H1 : (if x3_4.length < 5864062014805 then (spec_deSwitches.l3 k4 (x3_4 ++ [y578]) x4_1 x5_2 x6_3 (wrap64 (x7_4 + 1)) a0_0 l0_1) else (none)) = some r := by rw [if_pos rfl] at H; exact H
              clear H
              have H := H1
              clear H1
              by_cases c12 : x3_4.length < 5864062014805
              ·
               rw [if_pos c12] at H
               have LMc12 := Aside0.mk c12
               clear c12
               obtain ⟨y582, hy582⟩ : ∃ y_ : List (List Int), y_ = (x3_4 ++ [y578]) := ⟨_, rfl⟩
               replace H : (spec_deSwitches.l3 k4 y582 x4_1 x5_2 x6_3 (wrap64 (x7_4 + 1)) a0_0 l0_1) = some r := by first | (rw [hy582]; with_reducible exact H) | (have H2_ := (Option.bind_some _ _).symm.trans H; rw [hy582]; with_reducible exact H2_) | (have H2_ := (Option.bind_some _ _).symm.trans H; with_reducible exact H2_) | with_reducible exact H | (rw [hy582]; exact H) | exact H
               have Ny582 := Aside0.mk hy582
               clear hy582
               have H' := Aside0.mk H
               clear H
               have hcz13_0 : wr.cell? ⟨gb577, 0, none⟩ = some (.int .i64 a0_0) := (blk_cell BK577.out 0).trans rfl
               have hcz13_1 : wr.cell? ⟨gb577, 1, none⟩ = some (.slice A0_1 l0_1.length c0_1) := (blk_cell BK577.out 1).trans rfl
               have hfz13_0 := blk_frozen BK577.out 0
               have hfz13_1 := blk_frozen BK577.out 1
               go_wp2_with (first | ((with_reducible refine gate_dst (N := 37) rfl ?_); refine Kd.R_lit (Kd.int .i64) _ 3 ?hg (N := 37) ?hd (xs := ([x4_1, x5_2, x6_3, x7_4] : List Int)) (inner := [.int .i64 x4_1, .int .i64 x5_2, .int .i64 x6_3, .int .i64 x7_4]) (ok := fun _ => True) (okp := fun _ => True) ?hr ?hp (fun _ hk => hk) trivial (Below.refl _ _) (Nat.le_refl _) (by simp) ?_; (case hd => rfl); (case hg => rfl); (case hr => first | (go_simp; done) | (go_simp; rfl)); (case hp => exact (Reps.one (show Kd.M (Kd.int .i64) _ _ _ x4_1 [.int .i64 x4_1] from rfl) (Reps.one (show Kd.M (Kd.int .i64) _ _ _ x5_2 [.int .i64 x5_2] from rfl) (Reps.one (show Kd.M (Kd.int .i64) _ _ _ x6_3 [.int .i64 x6_3] from rfl) (Reps.one (show Kd.M (Kd.int .i64) _ _ _ x7_4 [.int .i64 x7_4] from rfl) (Reps.none _ _)))))); intro v579 w14 ho15 hb hg_ hnew_; clear hg_ hnew_; (first | rw [← Ny578.out] at ho15 | (simp only [Int.reduceToNat] at ho15; rw [← Ny578.out] at ho15)); have n0_ := Aside0.mk (Kd.S_elder' (by (with_reducible repeat (first | apply Kd.S_alloc | apply Kd.S_drewN | apply Kd.S_drew)); exact HO_3.out) (Kd.R_base ho15) hb); have n1_ := Aside0.mk (Kd.R_lower ho15 (below_size (by repeat (first | (with_reducible first | exact HB.out | apply below_alloc | apply pw_below_drewN | apply below_drew1 | refine below_set ?_ GE577.out) | exact HB.out)))); have n2_ := Aside0.mk (blk_below (g := gb577) (o := .cells #[.int .i64 a0_0, .slice A0_1 l0_1.length c0_1] 27 (0, 0)) (by (with_reducible repeat (first | refine blk_drewN ?_ _ | refine blk_drew ?_ | refine blk_alloc ?_ _)); exact BK577.out) hb); have n3_ := Aside0.mk (below_step (by repeat (first | (with_reducible first | exact HB.out | apply below_alloc | apply pw_below_drewN | apply below_drew1 | refine below_set ?_ GE577.out) | exact HB.out)) hb); clear HO_3; clear BK577; clear HB; have HO_3 := n0_; have HO580 := n1_; have BK577 := n2_; have HB := n3_; clear n0_ n1_ n2_ n3_; clear hb ho15; have hcz16_0 : w14.cell? ⟨gb577, 0, none⟩ = some (.int .i64 a0_0) := (blk_cell BK577.out 0).trans rfl; have hcz16_1 : w14.cell? ⟨gb577, 1, none⟩ = some (.slice A0_1 l0_1.length c0_1) := (blk_cell BK577.out 1).trans rfl; have hfz16_0 := blk_frozen BK577.out 0; have hfz16_1 := blk_frozen BK577.out 1; obtain ⟨Ao17, co17, eo17⟩ := Kd.R_slice HO580.out; subst eo17) | ((with_reducible refine gate_callee (f := 48) rfl ?_); refine goesL_ (some 40) rfl rfl Tryd.func48 (by kernel_rfl) rfl #[.agg #[.int .i64 a0_0, .slice A0_1 l0_1.length c0_1], .slice Ao17 y578.length co17] rfl (by (try simp only [List.map_toArray, List.map_cons, List.map_nil]); first | done | rfl) ?_; (with_reducible refine (spec_deSwitch.calls k4 a0_0 _ _ l0_1 _ _ y578 true _ ?side1 ?side2 ?side3 ?side4 A10.out).mono ?_); (case side1 => repeat (first | exact (Kd.C_below HR0_1.out HB.out) | (with_reducible refine Kd.C_alloc ?_ _) | (with_reducible refine Kd.C_drewN ?_ _) | (with_reducible refine Kd.C_drew ?_))); (case side2 => exact HC0_1.out); (case side3 => repeat (first | exact (Kd.R_reads' HO580.out).2.2 | (with_reducible refine Kd.C_alloc ?_ _) | (with_reducible refine Kd.C_drewN ?_ _) | (with_reducible refine Kd.C_drew ?_))); (case side4 => exact (Kd.R_reads' HO580.out).2.1); rintro e w18 ⟨rfl, hb⟩; refine ⟨_, rfl, ?_⟩; have n0_ := Aside0.mk (Kd.S_below (by (with_reducible repeat (first | apply Kd.S_alloc | apply Kd.S_drewN | apply Kd.S_drew)); exact HO_3.out) hb); have n1_ := Aside0.mk (Kd.R_below (by (with_reducible repeat (first | apply Kd.R_alloc | apply Kd.R_drewN | apply Kd.R_drew)); exact HO580.out) hb); have n2_ := Aside0.mk (blk_below (g := gb577) (o := .cells #[.int .i64 a0_0, .slice A0_1 l0_1.length c0_1] 27 (0, 0)) (by (with_reducible repeat (first | refine blk_drewN ?_ _ | refine blk_drew ?_ | refine blk_alloc ?_ _)); exact BK577.out) hb); have n3_ := Aside0.mk (below_step (by repeat (first | (with_reducible first | exact HB.out | apply below_alloc | apply pw_below_drewN | apply below_drew1 | refine below_set ?_ GE577.out) | exact HB.out)) hb); clear HO_3; clear HO580; clear BK577; clear HB; have HO_3 := n0_; have HO580 := n1_; have BK577 := n2_; have HB := n3_; clear n0_ n1_ n2_ n3_; (try clear hb); (try clear hb2); (try clear hk); (try clear hi)) | ((with_reducible refine gate_builtin (b := .append) (xs := #[.tmp 41, .tmp 43]) rfl ?_); at_builtin; refine Kd.S_append (Kd.slice 3 (Kd.int .i64)) (w0 := w) w.heap.size rfl (.tmp 41) (.tmp 43) 50 22 (.slice none 0 0) 24 rfl Tryd.underlying50 info22 rfl (by decide) (by omega) u3 x3_4 y578 [.slice Ao17 y578.length co17] (fun _ => True) (fun k_ => some k_ = (.slice Ao17 y578.length co17 : Value).ownBlock) rfl rfl ?aP (fun k_ hk_ => ((Kd.R_mono (ok' := fun k_ => ((fun _ => True)) k_ ∧ some k_ ≠ (u3 : Value).ownBlock) (Kd.R_apart' (HO580.out) (Kd.S_typed HO_3.out) (by decide)) (fun k_ hk => ⟨trivial, hk.2⟩))).1 k_ hk_.symm) ?aF ?aO ?aB ?aS ?aL ?_; (case aP => exact Kd.M_row (Kd.R_mono (Kd.R_tight rfl (Kd.R_mono (ok' := fun k_ => ((fun _ => True)) k_ ∧ some k_ ≠ (u3 : Value).ownBlock) (Kd.R_apart' (HO580.out) (Kd.S_typed HO_3.out) (by decide)) (fun k_ hk => ⟨trivial, hk.2⟩))) (fun _ h_ => h_))); (case aB => exact (by repeat (first | (with_reducible first | exact HB.out | apply below_alloc | apply pw_below_drewN | apply below_drew1 | refine below_set ?_ GE577.out) | exact HB.out))); (case aF => exact (fun _ _ => trivial)); (case aO => exact (by (with_reducible repeat (first | apply Kd.S_alloc | apply Kd.S_drewN | apply Kd.S_drew)); exact Kd.S_mono HO_3.out (fun k_ hk => ⟨trivial, fun e_ => hk.2 e_⟩))); (case aS => exact (below_size (by repeat (first | (with_reducible first | exact HB.out | apply below_alloc | apply pw_below_drewN | apply below_drew1 | refine below_set ?_ GE577.out) | exact HB.out)))); (case aL => have := LMc12.out; omega); intro v583 w19 ho hb hg hat; rw [← Ny582.out] at ho; have n0_ := Aside0.mk (blk_grown (g := gb577) (o := .cells #[.int .i64 a0_0, .slice A0_1 l0_1.length c0_1] 27 (0, 0)) (by (with_reducible repeat (first | refine blk_drewN ?_ _ | refine blk_drew ?_ | refine blk_alloc ?_ _)); exact BK577.out) hg (Kd.S_ne HO_3.out BK577.out (by decide))); have n1_ := Aside0.mk (hb); have n2_ := Aside0.mk (ho); clear BK577; clear HB; clear HO_3; clear HO580; have BK577 := n0_; have HB := n1_; have HO584 := n2_; clear n0_ n1_ n2_; clear ho hb hg hat))
               go_roundg k4
               case measure => have := HK1.out; have := HK2.out; have := HK3.out; have := HK4.out; omega
               case rel => exact ⟨(y582), (wrap64 (x7_4 + 1)), (by first | rfl | (simp; done) | (simp [*]; done)), H', ⟨by have := HK1.out; have := HK2.out; have := HK3.out; have := HK4.out; omega⟩, ⟨by (with_reducible repeat (first | apply Kd.S_alloc | apply Kd.S_drewN | apply Kd.S_drew)); exact HO584.out⟩, ⟨by (with_reducible repeat (first | refine blk_drewN ?_ _ | refine blk_drew ?_ | refine blk_alloc ?_ _)); exact BK577.out⟩, ⟨by repeat (first | (with_reducible first | exact HB.out | apply below_alloc | apply pw_below_drewN | apply below_drew1 | refine below_set ?_ GE577.out) | exact HB.out)⟩⟩
              ·
               rw [if_neg c12] at H
               exact absurd H (by simp)
             ·
              replace c11 := Bool.eq_false_iff.mpr c11
              subst c11
              have H1 : (spec_deSwitches.l3 k4 x3_4 x4_1 x5_2 x6_3 (wrap64 (x7_4 + 1)) a0_0 l0_1) = some r := by rw [if_neg (show ¬ (false = true) by decide)] at H; exact H
              clear H
              have H := H1
              clear H1
              have H' := Aside0.mk H
              clear H
              have hcz20_0 : wr.cell? ⟨gb577, 0, none⟩ = some (.int .i64 a0_0) := (blk_cell BK577.out 0).trans rfl
              have hcz20_1 : wr.cell? ⟨gb577, 1, none⟩ = some (.slice A0_1 l0_1.length c0_1) := (blk_cell BK577.out 1).trans rfl
              have hfz20_0 := blk_frozen BK577.out 0
              have hfz20_1 := blk_frozen BK577.out 1
              go_wp2_with (first | ((with_reducible refine gate_dst (N := 37) rfl ?_); refine Kd.R_lit (Kd.int .i64) _ 3 ?hg (N := 37) ?hd (xs := ([x4_1, x5_2, x6_3, x7_4] : List Int)) (inner := [.int .i64 x4_1, .int .i64 x5_2, .int .i64 x6_3, .int .i64 x7_4]) (ok := fun _ => True) (okp := fun _ => True) ?hr ?hp (fun _ hk => hk) trivial (Below.refl _ _) (Nat.le_refl _) (by simp) ?_; (case hd => rfl); (case hg => rfl); (case hr => first | (go_simp; done) | (go_simp; rfl)); (case hp => exact (Reps.one (show Kd.M (Kd.int .i64) _ _ _ x4_1 [.int .i64 x4_1] from rfl) (Reps.one (show Kd.M (Kd.int .i64) _ _ _ x5_2 [.int .i64 x5_2] from rfl) (Reps.one (show Kd.M (Kd.int .i64) _ _ _ x6_3 [.int .i64 x6_3] from rfl) (Reps.one (show Kd.M (Kd.int .i64) _ _ _ x7_4 [.int .i64 x7_4] from rfl) (Reps.none _ _)))))); intro v579 w21 ho22 hb hg_ hnew_; clear hg_ hnew_; (first | rw [← Ny578.out] at ho22 | (simp only [Int.reduceToNat] at ho22; rw [← Ny578.out] at ho22)); have n0_ := Aside0.mk (Kd.S_elder' (by (with_reducible repeat (first | apply Kd.S_alloc | apply Kd.S_drewN | apply Kd.S_drew)); exact HO_3.out) (Kd.R_base ho22) hb); have n1_ := Aside0.mk (Kd.R_lower ho22 (below_size (by repeat (first | (with_reducible first | exact HB.out | apply below_alloc | apply pw_below_drewN | apply below_drew1 | refine below_set ?_ GE577.out) | exact HB.out)))); have n2_ := Aside0.mk (blk_below (g := gb577) (o := .cells #[.int .i64 a0_0, .slice A0_1 l0_1.length c0_1] 27 (0, 0)) (by (with_reducible repeat (first | refine blk_drewN ?_ _ | refine blk_drew ?_ | refine blk_alloc ?_ _)); exact BK577.out) hb); have n3_ := Aside0.mk (below_step (by repeat (first | (with_reducible first | exact HB.out | apply below_alloc | apply pw_below_drewN | apply below_drew1 | refine below_set ?_ GE577.out) | exact HB.out)) hb); clear HO_3; clear BK577; clear HB; have HO_3 := n0_; have HO580 := n1_; have BK577 := n2_; have HB := n3_; clear n0_ n1_ n2_ n3_; clear hb ho22; have hcz23_0 : w21.cell? ⟨gb577, 0, none⟩ = some (.int .i64 a0_0) := (blk_cell BK577.out 0).trans rfl; have hcz23_1 : w21.cell? ⟨gb577, 1, none⟩ = some (.slice A0_1 l0_1.length c0_1) := (blk_cell BK577.out 1).trans rfl; have hfz23_0 := blk_frozen BK577.out 0; have hfz23_1 := blk_frozen BK577.out 1; obtain ⟨Ao24, co24, eo24⟩ := Kd.R_slice HO580.out; subst eo24) | ((with_reducible refine gate_callee (f := 48) rfl ?_); refine goesL_ (some 40) rfl rfl Tryd.func48 (by kernel_rfl) rfl #[.agg #[.int .i64 a0_0, .slice A0_1 l0_1.length c0_1], .slice Ao24 y578.length co24] rfl (by (try simp only [List.map_toArray, List.map_cons, List.map_nil]); first | done | rfl) ?_; (with_reducible refine (spec_deSwitch.calls k4 a0_0 _ _ l0_1 _ _ y578 false _ ?side1 ?side2 ?side3 ?side4 A10.out).mono ?_); (case side1 => repeat (first | exact (Kd.C_below HR0_1.out HB.out) | (with_reducible refine Kd.C_alloc ?_ _) | (with_reducible refine Kd.C_drewN ?_ _) | (with_reducible refine Kd.C_drew ?_))); (case side2 => exact HC0_1.out); (case side3 => repeat (first | exact (Kd.R_reads' HO580.out).2.2 | (with_reducible refine Kd.C_alloc ?_ _) | (with_reducible refine Kd.C_drewN ?_ _) | (with_reducible refine Kd.C_drew ?_))); (case side4 => exact (Kd.R_reads' HO580.out).2.1); rintro e w25 ⟨rfl, hb⟩; refine ⟨_, rfl, ?_⟩; have n0_ := Aside0.mk (Kd.S_below (by (with_reducible repeat (first | apply Kd.S_alloc | apply Kd.S_drewN | apply Kd.S_drew)); exact HO_3.out) hb); have n1_ := Aside0.mk (Kd.R_below (by (with_reducible repeat (first | apply Kd.R_alloc | apply Kd.R_drewN | apply Kd.R_drew)); exact HO580.out) hb); have n2_ := Aside0.mk (blk_below (g := gb577) (o := .cells #[.int .i64 a0_0, .slice A0_1 l0_1.length c0_1] 27 (0, 0)) (by (with_reducible repeat (first | refine blk_drewN ?_ _ | refine blk_drew ?_ | refine blk_alloc ?_ _)); exact BK577.out) hb); have n3_ := Aside0.mk (below_step (by repeat (first | (with_reducible first | exact HB.out | apply below_alloc | apply pw_below_drewN | apply below_drew1 | refine below_set ?_ GE577.out) | exact HB.out)) hb); clear HO_3; clear HO580; clear BK577; clear HB; have HO_3 := n0_; have HO580 := n1_; have BK577 := n2_; have HB := n3_; clear n0_ n1_ n2_ n3_; (try clear hb); (try clear hb2); (try clear hk); (try clear hi)))
              go_roundg k4
              case measure => have := HK1.out; have := HK2.out; have := HK3.out; have := HK4.out; omega
              case rel => exact ⟨(x3_4), (wrap64 (x7_4 + 1)), (by first | rfl | (simp; done) | (simp [*]; done)), H', ⟨by have := HK1.out; have := HK2.out; have := HK3.out; have := HK4.out; omega⟩, ⟨by (with_reducible repeat (first | apply Kd.S_alloc | apply Kd.S_drewN | apply Kd.S_drew)); exact Kd.S_mono HO_3.out (fun _ hk => trivial)⟩, ⟨by (with_reducible repeat (first | refine blk_drewN ?_ _ | refine blk_drew ?_ | refine blk_alloc ?_ _)); exact BK577.out⟩, ⟨by repeat (first | (with_reducible first | exact HB.out | apply below_alloc | apply pw_below_drewN | apply below_drew1 | refine below_set ?_ GE577.out) | exact HB.out)⟩⟩
            ·
             rw [if_neg c9] at H
             have c9b0 : decide (x7_4 < a0_0) = false := decide_eq_false c9
             clear c9
             have H' := Aside0.mk H
             clear H
             have hcz26_0 : wr.cell? ⟨gb577, 0, none⟩ = some (.int .i64 a0_0) := (blk_cell BK577.out 0).trans rfl
             have hcz26_1 : wr.cell? ⟨gb577, 1, none⟩ = some (.slice A0_1 l0_1.length c0_1) := (blk_cell BK577.out 1).trans rfl
             have hfz26_0 := blk_frozen BK577.out 0
             have hfz26_1 := blk_frozen BK577.out 1
             go_wp2
             go_roundg k4
             case measure => have := HK1.out; have := HK2.out; have := HK3.out; have := HK4.out; omega
             case rel => exact ⟨(x3_4), (wrap64 (x6_3 + 1)), (by first | rfl | (simp; done) | (simp [*]; done)), H', ⟨by have := HK1.out; have := HK2.out; have := HK3.out; have := HK4.out; omega⟩, ⟨by (with_reducible repeat (first | apply Kd.S_alloc | apply Kd.S_drewN | apply Kd.S_drew)); exact HO_3.out⟩, ⟨by (with_reducible repeat (first | refine blk_drewN ?_ _ | refine blk_drew ?_ | refine blk_alloc ?_ _)); exact BK577.out⟩, ⟨by repeat (first | (with_reducible first | exact HB.out | apply below_alloc | apply pw_below_drewN | apply below_drew1 | refine below_set ?_ GE577.out) | exact HB.out)⟩⟩
         ·
          rw [if_neg c7] at H
          have c7b0 : decide (x6_3 < a0_0) = false := decide_eq_false c7
          clear c7
          have H' := Aside0.mk H
          clear H
          have hcz27_0 : wr.cell? ⟨gb577, 0, none⟩ = some (.int .i64 a0_0) := (blk_cell BK577.out 0).trans rfl
          have hcz27_1 : wr.cell? ⟨gb577, 1, none⟩ = some (.slice A0_1 l0_1.length c0_1) := (blk_cell BK577.out 1).trans rfl
          have hfz27_0 := blk_frozen BK577.out 0
          have hfz27_1 := blk_frozen BK577.out 1
          go_wp2
          go_roundg k3
          case measure => have := HK1.out; have := HK2.out; have := HK3.out; omega
          case rel => exact ⟨(x3_3), (wrap64 (x5_2 + 1)), (by first | rfl | (simp; done) | (simp [*]; done)), H', ⟨by have := HK1.out; have := HK2.out; have := HK3.out; omega⟩, ⟨by (with_reducible repeat (first | apply Kd.S_alloc | apply Kd.S_drewN | apply Kd.S_drew)); exact HO_3.out⟩, ⟨by (with_reducible repeat (first | refine blk_drewN ?_ _ | refine blk_drew ?_ | refine blk_alloc ?_ _)); exact BK577.out⟩, ⟨by repeat (first | (with_reducible first | exact HB.out | apply below_alloc | apply pw_below_drewN | apply below_drew1 | refine below_set ?_ GE577.out) | exact HB.out)⟩⟩
      ·
       rw [if_neg c5] at H
       have c5b0 : decide (x5_2 < a0_0) = false := decide_eq_false c5
       clear c5
       have H' := Aside0.mk H
       clear H
       have hcz28_0 : wr.cell? ⟨gb577, 0, none⟩ = some (.int .i64 a0_0) := (blk_cell BK577.out 0).trans rfl
       have hcz28_1 : wr.cell? ⟨gb577, 1, none⟩ = some (.slice A0_1 l0_1.length c0_1) := (blk_cell BK577.out 1).trans rfl
       have hfz28_0 := blk_frozen BK577.out 0
       have hfz28_1 := blk_frozen BK577.out 1
       go_wp2
       go_roundg k2
       case measure => have := HK1.out; have := HK2.out; omega
       case rel => exact ⟨(x3_2), (wrap64 (x4_1 + 1)), (by first | rfl | (simp; done) | (simp [*]; done)), H', ⟨by have := HK1.out; have := HK2.out; omega⟩, ⟨by (with_reducible repeat (first | apply Kd.S_alloc | apply Kd.S_drewN | apply Kd.S_drew)); exact HO_3.out⟩, ⟨by (with_reducible repeat (first | refine blk_drewN ?_ _ | refine blk_drew ?_ | refine blk_alloc ?_ _)); exact BK577.out⟩, ⟨by repeat (first | (with_reducible first | exact HB.out | apply below_alloc | apply pw_below_drewN | apply below_drew1 | refine below_set ?_ GE577.out) | exact HB.out)⟩⟩
   ·
    rw [if_neg c3] at H
    have c3b0 : decide (x4_1 < a0_0) = false := decide_eq_false c3
    clear c3
    obtain rfl := Option.some.inj H
    have hcz29_0 : wr.cell? ⟨gb577, 0, none⟩ = some (.int .i64 a0_0) := (blk_cell BK577.out 0).trans rfl
    have hcz29_1 : wr.cell? ⟨gb577, 1, none⟩ = some (.slice A0_1 l0_1.length c0_1) := (blk_cell BK577.out 1).trans rfl
    have hfz29_0 := blk_frozen BK577.out 0
    have hfz29_1 := blk_frozen BK577.out 1
    go_wp2
    go_ret
    exact ⟨_, by first | rfl | (simp [errW_none, errW_some] <;> rfl) | (simp [*, errW_none, errW_some] <;> rfl), by (with_reducible repeat (first | apply Kd.S_alloc | apply Kd.S_drewN | apply Kd.S_drew)); exact HO_3.out, by repeat (first | (with_reducible first | exact HB.out | apply below_alloc | apply pw_below_drewN | apply below_drew1 | refine below_set ?_ GE577.out) | exact HB.out)⟩
def spec_EdgeSwitches.f (k : Nat) (a0_0 : Int) (l0_1 : List Int) : Option ((List (List Int)) × Bool) := (spec_deGood.f k a0_0 l0_1).bind fun t586 => (if t586 = true then ((spec_deSwitches.f k a0_0 l0_1).bind fun t587 => (some (t587, true))) else (some (([] : List (List Int)), false)))
theorem spec_EdgeSwitches.mono : ∀ a0 a1 k, LeO (spec_EdgeSwitches.f k a0 a1) (spec_EdgeSwitches.f (k + 1) a0 a1) := by
 intro a0 a1 k
 unfold spec_EdgeSwitches.f
 repeat' first
   | (with_reducible exact spec_deGood.mono _ _ _)
   | (with_reducible exact spec_deSwitches.mono _ _ _)
   | (with_reducible exact LeO.refl _)
   | (with_reducible exact LeO.none _)
   | (with_reducible refine LeO.ite ?_ ?_)
   | (with_reducible refine LeO.bind ?_ (fun _ => ?_))
   | exact spec_deGood.mono _ _ _
   | exact spec_deSwitches.mono _ _ _
   | exact LeO.none _
   | refine LeO.ite ?_ ?_
   | refine LeO.bind ?_ (fun _ => ?_)
set_option maxHeartbeats 8000000 in
set_option maxRecDepth 100000 in
theorem spec_EdgeSwitches.calls (k : Nat) (a0_0 : Int) (A0_1 : Option Addr) (c0_1 : Nat) (l0_1 : List Int) (r1 : List (List Int)) (r2 : Bool) (w : World) (hr0_1 : Kd.C (Kd.int .i64) w A0_1 l0_1.length l0_1) (hc0_1 : l0_1.length ≤ c0_1) (h : spec_EdgeSwitches.f k a0_0 l0_1 = some (r1, r2)) :
  Calls Tryd.prog 32 #[.agg #[.int .i64 a0_0, .slice A0_1 l0_1.length c0_1]] w fun e w' => ∃ v0_ : Value, e = .returned (.tuple #[v0_, .bool r2]) ∧ Kd.S (Kd.slice 3 (Kd.int .i64)) 22 w' w.heap.size (fun _ => True) v0_ r1 ∧ Below w.heap.size w w' := by
 have hu27 := Tryd.underlying27
 have HR0_1 := Aside0.mk hr0_1
 have HC0_1 := Aside0.mk hc0_1
 clear hr0_1 hc0_1
 have HB := Aside0.mk (Below.refl w.heap.size w)
 have H : ((spec_deGood.f k a0_0 l0_1).bind fun t586 => (if t586 = true then ((spec_deSwitches.f k a0_0 l0_1).bind fun t587 => (some (t587, true))) else (some (([] : List (List Int)), false)))) = some (r1, r2) := h
 clear h
 replace H := Option.bind_eq_some_iff.mp H
 obtain ⟨t586, A20, H⟩ := H
 replace H : (if t586 = true then ((spec_deSwitches.f k a0_0 l0_1).bind fun t587 => (some (t587, true))) else (some (([] : List (List Int)), false))) = some (r1, r2) := H
 have A2 := Aside0.mk A20
 clear A20
 by_cases c3 : t586 = true
 ·
  subst c3
  have H1 : ((spec_deSwitches.f k a0_0 l0_1).bind fun t587 => (some (t587, true))) = some (r1, r2) := by rw [if_pos rfl] at H; exact H
  clear H
  have H := H1
  clear H1
  replace H := Option.bind_eq_some_iff.mp H
  obtain ⟨t587, A40, H⟩ := H
  replace H : (some (t587, true)) = some (r1, r2) := H
  have A4 := Aside0.mk A40
  clear A40
  simp only [Option.some.injEq, Prod.mk.injEq] at H
  obtain ⟨rfl, rfl⟩ := H
  go_enter Tryd.func32, Tryd.ntmps32
  go_wp2_with (first | ((with_reducible refine gate_dst (N := 1) rfl ?_); refine box_event ?hg (N := 1) ?hd (cs := #[.int .i64 a0_0, .slice A0_1 l0_1.length c0_1]) (t := 27) ?hr ?_; (case hd => rfl); (case hg => rfl); (case hr => first | (go_simp; done) | (go_simp; rfl)); intro gb585 hg w5 hbox hb; have n0_ := Aside0.mk (below_step (by repeat (first | (with_reducible first | exact HB.out | apply below_alloc | apply pw_below_drewN | apply below_drew1))) hb); have n1_ := Aside0.mk (hbox); have n2_ := Aside0.mk ((by rw [hg]; exact (below_size (by repeat (first | (with_reducible first | exact HB.out | apply below_alloc | apply pw_below_drewN | apply below_drew1)))) : w.heap.size ≤ gb585)); have n3_ := Aside0.mk ((by rw [hg]; exact (below_size (by repeat (first | (with_reducible first | exact HB.out | apply below_alloc | apply pw_below_drewN | apply below_drew1)))) : w.heap.size ≤ gb585)); clear HB; have HB := n0_; have BK585 := n1_; have GW585 := n2_; have GE585 := n3_; clear n0_ n1_ n2_ n3_; clear hb hbox hg; have hcz6_0 : w5.cell? ⟨gb585, 0, none⟩ = some (.int .i64 a0_0) := (blk_cell BK585.out 0).trans rfl; have hcz6_1 : w5.cell? ⟨gb585, 1, none⟩ = some (.slice A0_1 l0_1.length c0_1) := (blk_cell BK585.out 1).trans rfl; have hfz6_0 := blk_frozen BK585.out 0; have hfz6_1 := blk_frozen BK585.out 1) | ((with_reducible refine gate_callee (f := 38) rfl ?_); refine goesL_ (some 5) rfl rfl Tryd.func38 (by kernel_rfl) rfl #[.agg #[.int .i64 a0_0, .slice A0_1 l0_1.length c0_1]] rfl (by (try simp only [List.map_toArray, List.map_cons, List.map_nil]); first | done | rfl) ?_; (with_reducible refine (spec_deGood.calls k a0_0 _ _ l0_1 true _ ?side1 ?side2 A2.out).mono ?_); (case side1 => repeat (first | exact (Kd.C_below HR0_1.out HB.out) | (with_reducible refine Kd.C_alloc ?_ _) | (with_reducible refine Kd.C_drewN ?_ _) | (with_reducible refine Kd.C_drew ?_))); (case side2 => exact HC0_1.out); rintro e w7 ⟨rfl, hb⟩; refine ⟨_, rfl, ?_⟩; have n0_ := Aside0.mk (blk_below (g := gb585) (o := .cells #[.int .i64 a0_0, .slice A0_1 l0_1.length c0_1] 27 (0, 0)) (by (with_reducible repeat (first | refine blk_drewN ?_ _ | refine blk_drew ?_ | refine blk_alloc ?_ _)); exact BK585.out) hb); have n1_ := Aside0.mk (below_step (by repeat (first | (with_reducible first | exact HB.out | apply below_alloc | apply pw_below_drewN | apply below_drew1 | refine below_set ?_ GE585.out) | exact HB.out)) hb); clear BK585; clear HB; have BK585 := n0_; have HB := n1_; clear n0_ n1_; (try clear hb); (try clear hb2); (try clear hk); (try clear hi); have hcz8_0 : w7.cell? ⟨gb585, 0, none⟩ = some (.int .i64 a0_0) := (blk_cell BK585.out 0).trans rfl; have hcz8_1 : w7.cell? ⟨gb585, 1, none⟩ = some (.slice A0_1 l0_1.length c0_1) := (blk_cell BK585.out 1).trans rfl; have hfz8_0 := blk_frozen BK585.out 0; have hfz8_1 := blk_frozen BK585.out 1) | ((with_reducible refine gate_callee (f := 52) rfl ?_); refine goesL_ (some 8) rfl rfl Tryd.func52 (by kernel_rfl) rfl #[.agg #[.int .i64 a0_0, .slice A0_1 l0_1.length c0_1]] rfl (by (try simp only [List.map_toArray, List.map_cons, List.map_nil]); first | done | rfl) ?_; (with_reducible refine (spec_deSwitches.calls k a0_0 _ _ l0_1 t587 _ ?side1 ?side2 A4.out).mono ?_); (case side1 => repeat (first | exact (Kd.C_below HR0_1.out HB.out) | (with_reducible refine Kd.C_alloc ?_ _) | (with_reducible refine Kd.C_drewN ?_ _) | (with_reducible refine Kd.C_drew ?_))); (case side2 => exact HC0_1.out); rintro e w9 ⟨v588, rfl, ho0, hb⟩; refine ⟨_, rfl, ?_⟩; have n0_ := Aside0.mk (Kd.S_lower ho0 (below_size (by repeat (first | (with_reducible first | exact HB.out | apply below_alloc | apply pw_below_drewN | apply below_drew1 | refine below_set ?_ GE585.out) | exact HB.out)))); have n1_ := Aside0.mk (blk_below (g := gb585) (o := .cells #[.int .i64 a0_0, .slice A0_1 l0_1.length c0_1] 27 (0, 0)) (by (with_reducible repeat (first | refine blk_drewN ?_ _ | refine blk_drew ?_ | refine blk_alloc ?_ _)); exact BK585.out) hb); have n2_ := Aside0.mk (below_step (by repeat (first | (with_reducible first | exact HB.out | apply below_alloc | apply pw_below_drewN | apply below_drew1 | refine below_set ?_ GE585.out) | exact HB.out)) hb); clear BK585; clear HB; have HO589 := n0_; have BK585 := n1_; have HB := n2_; clear n0_ n1_ n2_; (try clear hb); (try clear hb2); (try clear hk); (try clear hi); (try clear ho0)))
  go_ret2
  exact ⟨_, by first | rfl | (simp [errW_none, errW_some] <;> rfl) | (simp [*, errW_none, errW_some] <;> rfl), by (with_reducible repeat (first | apply Kd.S_alloc | apply Kd.S_drewN | apply Kd.S_drew)); exact HO589.out, by repeat (first | (with_reducible first | exact HB.out | apply below_alloc | apply pw_below_drewN | apply below_drew1 | refine below_set ?_ GE585.out) | exact HB.out)⟩
 ·
  replace c3 := Bool.eq_false_iff.mpr c3
  subst c3
  have H1 : (some (([] : List (List Int)), false)) = some (r1, r2) := by rw [if_neg (show ¬ (false = true) by decide)] at H; exact H
  clear H
  have H := H1
  clear H1
  simp only [Option.some.injEq, Prod.mk.injEq] at H
  obtain ⟨rfl, rfl⟩ := H
  go_enter Tryd.func32, Tryd.ntmps32
  go_wp2_with (first | ((with_reducible refine gate_dst (N := 1) rfl ?_); refine box_event ?hg (N := 1) ?hd (cs := #[.int .i64 a0_0, .slice A0_1 l0_1.length c0_1]) (t := 27) ?hr ?_; (case hd => rfl); (case hg => rfl); (case hr => first | (go_simp; done) | (go_simp; rfl)); intro gb585 hg w10 hbox hb; have n0_ := Aside0.mk (below_step (by repeat (first | (with_reducible first | exact HB.out | apply below_alloc | apply pw_below_drewN | apply below_drew1))) hb); have n1_ := Aside0.mk (hbox); have n2_ := Aside0.mk ((by rw [hg]; exact (below_size (by repeat (first | (with_reducible first | exact HB.out | apply below_alloc | apply pw_below_drewN | apply below_drew1)))) : w.heap.size ≤ gb585)); have n3_ := Aside0.mk ((by rw [hg]; exact (below_size (by repeat (first | (with_reducible first | exact HB.out | apply below_alloc | apply pw_below_drewN | apply below_drew1)))) : w.heap.size ≤ gb585)); clear HB; have HB := n0_; have BK585 := n1_; have GW585 := n2_; have GE585 := n3_; clear n0_ n1_ n2_ n3_; clear hb hbox hg; have hcz11_0 : w10.cell? ⟨gb585, 0, none⟩ = some (.int .i64 a0_0) := (blk_cell BK585.out 0).trans rfl; have hcz11_1 : w10.cell? ⟨gb585, 1, none⟩ = some (.slice A0_1 l0_1.length c0_1) := (blk_cell BK585.out 1).trans rfl; have hfz11_0 := blk_frozen BK585.out 0; have hfz11_1 := blk_frozen BK585.out 1) | ((with_reducible refine gate_callee (f := 38) rfl ?_); refine goesL_ (some 5) rfl rfl Tryd.func38 (by kernel_rfl) rfl #[.agg #[.int .i64 a0_0, .slice A0_1 l0_1.length c0_1]] rfl (by (try simp only [List.map_toArray, List.map_cons, List.map_nil]); first | done | rfl) ?_; (with_reducible refine (spec_deGood.calls k a0_0 _ _ l0_1 false _ ?side1 ?side2 A2.out).mono ?_); (case side1 => repeat (first | exact (Kd.C_below HR0_1.out HB.out) | (with_reducible refine Kd.C_alloc ?_ _) | (with_reducible refine Kd.C_drewN ?_ _) | (with_reducible refine Kd.C_drew ?_))); (case side2 => exact HC0_1.out); rintro e w12 ⟨rfl, hb⟩; refine ⟨_, rfl, ?_⟩; have n0_ := Aside0.mk (blk_below (g := gb585) (o := .cells #[.int .i64 a0_0, .slice A0_1 l0_1.length c0_1] 27 (0, 0)) (by (with_reducible repeat (first | refine blk_drewN ?_ _ | refine blk_drew ?_ | refine blk_alloc ?_ _)); exact BK585.out) hb); have n1_ := Aside0.mk (below_step (by repeat (first | (with_reducible first | exact HB.out | apply below_alloc | apply pw_below_drewN | apply below_drew1 | refine below_set ?_ GE585.out) | exact HB.out)) hb); clear BK585; clear HB; have BK585 := n0_; have HB := n1_; clear n0_ n1_; (try clear hb); (try clear hb2); (try clear hk); (try clear hi)))
  go_ret2
  exact ⟨_, by first | rfl | (simp [errW_none, errW_some] <;> rfl) | (simp [*, errW_none, errW_some] <;> rfl), by first | exact Kd.S_nil _ _ _ _ _ | exact Kd.N_nil _ _ _ _ _ | exact Kd.V_nil _ _ _ _ _ | exact Kd.Q_nil _ _ _ _ _ | exact Kd.R_nil _ _ _ _ _, by repeat (first | (with_reducible first | exact HB.out | apply below_alloc | apply pw_below_drewN | apply below_drew1 | refine below_set ?_ GE585.out) | exact HB.out)⟩
def laws_FnExactEdgeSwitches.Good (a0 : Int) (l0 : List Int) (r : Bool) : Prop := r = true ∧ ∃ n0 : Int, (laws_szGraph.f a0 l0 1048576 = some n0) ∧ (n0 < 0 ∨ 0 ≤ n0 ∧ ∃ (w0 w0' : List (List Int)) (l0' : List Int) (wb : Bool) (k0 : Int) (m0 : Int), (∃ k, laws_toGraph.f k a0 l0 = some (a0, l0)) ∧ (∃ k, spec_EdgeSwitches.f k a0 l0 = some (w0, wb)) ∧ (∃ k, impl_EdgeSwitches.f k a0 l0 = some (w0, wb)) ∧ (∃ k, laws_eqIntSS.f k w0 w0 = some true) ∧ (∃ k, laws_eqGraph.f k a0 l0 a0 l0 = some true) ∧ (∃ k, laws_markGraph.f k a0 l0 1 = some (k0, l0')) ∧ (laws_markIntSS.f w0 1 = some (m0, w0')) ∧ (∃ k, laws_heldIntSS.f k w0' 1 = some m0) ∧ 0 ≤ k0 ∧ 0 ≤ m0 ∧ w0'.length = w0.length)
end Go.Proofs.YtbcbgehdikockaaDoor.P
namespace Go.Proofs.YtbcbgehdikockaaDoor.K
open Go.RowKit Go.Proofs.YtbcbgehdikockaaDoorW.PrintWords Go.Proofs.YtbcbgehdikockaaDoorW.PrintLast Go.Proofs.YtbcbgehdikockaaDoorW.PrintMore Go.Proofs.YtbcbgehdikockaaDoor.P
structure Ob where
  S : Nat → Prop
  P : World → Prop
def Loc (o : Ob) : Prop := ∀ W W2 : World, (∀ k, o.S k → W2.heap[k]? = W.heap[k]?) → o.P W → o.P W2
def St (W : World) : List Ob → Prop
  | [] => True
  | o :: os => ((∀ k, o.S k → k < W.heap.size) ∧ o.P W ∧ Loc o ∧ ∀ p ∈ os, ∀ k, o.S k → ¬ p.S k) ∧ St W os
theorem St.move {W W2 : World} (hs : W.heap.size ≤ W2.heap.size) : ∀ {os : List Ob}, St W os → (∀ o ∈ os, ∀ k, o.S k → W2.heap[k]? = W.heap[k]?) → St W2 os
  | [], _, _ => trivial
  | o :: os, ⟨⟨h1, h2, h3, h4⟩, h5⟩, hm => ⟨⟨fun k hk => Nat.lt_of_lt_of_le (h1 k hk) hs, h3 W W2 (hm o (by simp)) h2, h3, h4⟩, St.move hs h5 (fun p hp => hm p (by simp [hp]))⟩
theorem St.bound {W : World} : ∀ {os : List Ob}, St W os → ∀ o ∈ os, ∀ k, o.S k → k < W.heap.size
  | [], _, _, ho => by cases ho
  | p :: os, ⟨⟨h1, _⟩, h5⟩, o, ho => by
    rcases List.mem_cons.1 ho with rfl | ho
    · exact h1
    · exact St.bound h5 o ho
theorem St.below {W W2 : World} {os : List Ob} (h : St W os) (hb : Below W.heap.size W W2) : St W2 os :=
  St.move hb.size h (fun o ho k hk => hb.block k (h.bound o ho k hk))
theorem St.get {W : World} : ∀ {os : List Ob}, St W os → ∀ {o : Ob}, o ∈ os → o.P W
  | [], _, _, ho => by cases ho
  | p :: os, ⟨⟨_, h2, _⟩, h5⟩, o, ho => by
    rcases List.mem_cons.1 ho with rfl | ho
    · exact h2
    · exact St.get h5 ho
theorem St.push {W W2 : World} {os : List Ob} (h : St W os) (hb : Below W.heap.size W W2) {o : Ob} (hS : ∀ k, o.S k → W.heap.size ≤ k ∧ k < W2.heap.size) (hP : o.P W2) (hl : Loc o) : St W2 (o :: os) :=
  ⟨⟨fun k hk => (hS k hk).2, hP, hl, fun p hp k hk hk2 => Nat.lt_irrefl _ (Nat.lt_of_lt_of_le (h.bound p hp k hk2) (hS k hk).1)⟩, h.below hb⟩
theorem St.put {W W2 : World} {S : Nat → Prop} {Q P : World → Prop} {post : List Ob} (hk : Kept W W2 S) (hP : P W2) (hl : Loc ⟨S, P⟩) : ∀ (pre : List Ob), St W (pre ++ ⟨S, Q⟩ :: post) → St W2 (pre ++ ⟨S, P⟩ :: post)
  | [], ⟨⟨h1, h2, h3, h4⟩, h5⟩ => ⟨⟨fun k hk1 => Nat.lt_of_lt_of_le (h1 k hk1) hk.1, hP, hl, h4⟩, St.move hk.1 h5 (fun p hp k hk1 => hk.2 k (h5.bound p hp k hk1) (fun h => h4 p hp k h hk1))⟩
  | o :: pre, ⟨⟨h1, h2, h3, h4⟩, h5⟩ => by
    refine ⟨⟨fun k hk1 => Nat.lt_of_lt_of_le (h1 k hk1) hk.1, h3 W W2 (fun k hk1 => hk.2 k (h1 k hk1) (fun h => h4 ⟨S, Q⟩ (by simp) k hk1 h)) h2, h3, fun p hp => ?_⟩, St.put hk hP hl pre h5⟩
    rcases List.mem_append.1 hp with hp | hp
    · exact h4 p (by simp [hp])
    · rcases List.mem_cons.1 hp with rfl | hp
      · exact fun k hk1 hk2 => h4 ⟨S, Q⟩ (by simp) k hk1 hk2
      · exact h4 p (by simp [hp])
def obSS (b : Nat) (S : Nat → Prop) (v : Value) (l : List (List Int)) : Ob := ⟨S, fun W => Kd.S (Kd.slice 3 (Kd.int .i64)) 22 W b S v l⟩
theorem obSS_loc (b : Nat) (S : Nat → Prop) (v : Value) (l : List (List Int)) : Loc (obSS b S v l) := fun W W2 h hS => Kd.S_move hS h
theorem St.pushSS {W W2 : World} {os : List Ob} (h : St W os) (hb : Below W.heap.size W W2) {b : Nat} (hle : b ≤ W.heap.size) {v : Value} {l : List (List Int)} (hS : Kd.S (Kd.slice 3 (Kd.int .i64)) 22 W2 W.heap.size (fun _ => True) v l) : ∃ S, St W2 (obSS b S v l :: os) :=
  ⟨fun k => W.heap.size ≤ k ∧ k < W2.heap.size, St.push h hb (o := obSS b _ v l) (fun k hk => hk) (Kd.S_mono (Kd.S_lower (Kd.S_bound hS) hle) (fun k hk => ⟨hk.2.1, hk.2.2.1⟩)) (obSS_loc _ _ _ _)⟩
theorem St.getSS {W : World} {os : List Ob} {b : Nat} {S : Nat → Prop} {v : Value} {l : List (List Int)} (h : St W os) (ho : obSS b S v l ∈ os) : Kd.S (Kd.slice 3 (Kd.int .i64)) 22 W b S v l := St.get h ho
theorem St.sizeSS {W : World} {os : List Ob} {b : Nat} {S : Nat → Prop} {A : Option Addr} {n c : Nat} {l : List (List Int)} (h : St W os) (ho : obSS b S (.slice A n c) l ∈ os) : n ≤ c := (Kd.S_reads' (h.getSS ho)).2.1
theorem St.readSS {W : World} {os : List Ob} {b : Nat} {S : Nat → Prop} {A : Option Addr} {n c : Nat} {l : List (List Int)} (h : St W os) (ho : obSS b S (.slice A n c) l ∈ os) : Kd.C (Kd.slice 3 (Kd.int .i64)) W A l.length l := (Kd.S_reads' (h.getSS ho)).2.2
def obF {α : Type} (d : Kd α) (e b : Nat) (v : Value) (l : List α) : Ob := ⟨fun k => some k = v.ownBlock, fun W => d.R e W b (fun k => some k = v.ownBlock) v l⟩
section
variable {α β : Type} {d : Kd α} {e b : Nat} {d2 : Kd β} {e2 b2 : Nat}
theorem obF_loc (d : Kd α) (e b : Nat) (v : Value) (l : List α) : Loc (obF d e b v l) := fun W W2 h hS => Kd.R_move hS h
theorem obF_in {W W2 : World} {ok : Nat → Prop} {v : Value} {l : List α} (h : d.R e W2 W.heap.size ok v l) : ∀ k, (obF d e b v l).S k → W.heap.size ≤ k ∧ k < W2.heap.size := fun k hk => ⟨Kd.R_base h k hk.symm, Kd.R_lt h k hk.symm⟩
theorem St.pushF {W W2 : World} {os : List Ob} (h : St W os) (hb : Below W.heap.size W W2) (hE : d.E = []) (hle : b ≤ W.heap.size) {ok : Nat → Prop} {v : Value} {l : List α} (hS : d.R e W2 W.heap.size ok v l) : St W2 (obF d e b v l :: os) :=
  St.push h hb (obF_in hS) (Kd.R_lower (Kd.R_tight hE hS) hle) (obF_loc _ _ _ _ _)
theorem St.getF {W : World} {os : List Ob} {v : Value} {l : List α} (h : St W os) (ho : obF d e b v l ∈ os) : d.R e W b (fun k => some k = v.ownBlock) v l := St.get h ho
theorem St.sizeF {W : World} {os : List Ob} {A : Option Addr} {n c : Nat} {l : List α} (h : St W os) (ho : obF d e b (.slice A n c) l ∈ os) : n ≤ c := (Kd.R_reads' (h.getF ho)).2.1
theorem St.readF {W : World} {os : List Ob} {A : Option Addr} {n c : Nat} {l : List α} (h : St W os) (ho : obF d e b (.slice A n c) l ∈ os) : d.C W A l.length l := (Kd.R_reads' (h.getF ho)).2.2
theorem St.putF {W W2 : World} {v : Value} {l l2 : List α} {post : List Ob} (pre : List Ob) (h : St W (pre ++ obF d e b v l :: post)) (hE : d.E = []) {ok : Nat → Prop} (hk : Kept W W2 (fun k => some k = v.ownBlock)) (hP : d.R e W2 b ok v l2) : St W2 (pre ++ obF d e b v l2 :: post) :=
  St.put hk (Kd.R_tight hE hP) (obF_loc _ _ _ _ _) pre h
end
theorem St.putSS {W W2 : World} {b : Nat} {S : Nat → Prop} {v : Value} {l l2 : List (List Int)} {post : List Ob} (pre : List Ob) (h : St W (pre ++ obSS b S v l :: post)) (hk : Kept W W2 S) (hP : Kd.S (Kd.slice 3 (Kd.int .i64)) 22 W2 b S v l2) : St W2 (pre ++ obSS b S v l2 :: post) :=
  St.put hk hP (obSS_loc _ _ _ _) pre h
def obB (g : Nat) (u0 u1 : Value) : Ob := ⟨fun k => k = g, fun W => W.cell? ⟨g, 0, none⟩ = some u0 ∧ W.cell? ⟨g, 1, none⟩ = some u1⟩
theorem cell_same {W W2 : World} {g i : Nat} (h : W2.heap[g]? = W.heap[g]?) : W2.cell? ⟨g, i, none⟩ = W.cell? ⟨g, i, none⟩ := by
  unfold World.cell?
  simp only [h]
theorem obB_loc (g : Nat) (u0 u1 : Value) : Loc (obB g u0 u1) := fun W W2 h hS => by
  have e := h g rfl
  exact ⟨(cell_same e).trans hS.1, (cell_same e).trans hS.2⟩
theorem St.getB {W : World} {os : List Ob} {g : Nat} {u0 u1 : Value} (h : St W os) (ho : obB g u0 u1 ∈ os) : W.cell? ⟨g, 0, none⟩ = some u0 ∧ W.cell? ⟨g, 1, none⟩ = some u1 := St.get h ho
theorem St.pushBox {W : World} {os : List Ob} {u0 u1 : Value} {t : Nat} (h : St W os) : St (W.alloc (.cells #[u0, u1] t)) (obB W.heap.size u0 u1 :: os) := by
  have h1 : (W.alloc (.cells #[u0, u1] t)).heap.size = W.heap.size + 1 := by rw [← World.alloc_eq]; simp
  refine St.push h (below_alloc (Below.refl W.heap.size W) _) (fun k hk => ?_) ⟨by simp, by simp⟩ (obB_loc _ _ _)
  obtain rfl : k = W.heap.size := hk
  omega
theorem St.pushBoxB {W Wc W2 : World} {os : List Ob} {g t : Nat} {u0 u1 : Value} (hb2 : Below Wc.heap.size Wc W2) (h : St W os) (hb : Below W.heap.size W Wc) (hg : W.heap.size ≤ g) (hbox : Wc.heap[g]? = some (.cells #[u0, u1] t (0, 0))) : St Wc (obB g u0 u1 :: os) := by
  refine St.push h hb (fun k hk => ?_) ⟨(blk_cell hbox 0).trans rfl, (blk_cell hbox 1).trans rfl⟩ (obB_loc _ _ _)
  obtain rfl : k = g := hk
  exact ⟨hg, blk_lt hbox⟩
theorem St.geBox {W W1 : World} {os : List Ob} {g : Nat} (h : St W os) (hb : Below W.heap.size W W1) (hg : g = W1.heap.size) : W.heap.size ≤ g := by
  rw [hg]; exact hb.size
theorem St.belBox {W W1 W2 : World} {os : List Ob} (h : St W os) (hb : Below W.heap.size W W1) (hb2 : Below W1.heap.size W1 W2) : Below W.heap.size W W2 := below_step hb hb2
theorem heldNIntSS (k : Nat) (A0 : Option Addr) (c0 n : Nat) (l0 : List (List Int)) (a1 : Int) (r : Int) (w : World) (hr0 : Kd.C (Kd.slice 3 (Kd.int .i64)) w A0 l0.length l0) (hc0 : n ≤ c0) (h : laws_heldIntSS.f k l0 a1 = some r) (hn : n = l0.length) :
    Calls Tryd.prog 36 #[.slice A0 n c0, .int .i64 a1] w fun e w' => e = .returned (.int .i64 r) ∧ Drawn0 w w' := by subst hn; exact laws_heldIntSS.calls k A0 c0 l0 a1 r w hr0 hc0 h
end Go.Proofs.YtbcbgehdikockaaDoor.K
namespace Go.Proofs.YtbcbgehdikockaaDoor.K
open Go.RowKit Go.Proofs.YtbcbgehdikockaaDoorW.PrintWords
abbrev BM : Nat := 17592186044416
theorem wrap_id {x : Int} (h1 : -9223372036854775808 ≤ x) (h2 : x < 9223372036854775808) : wrap64 x = x := by unfold wrap64; omega
theorem mid (x : Int) (done rest : List Int) (h : (done ++ x :: rest).length ≤ BM) :
    ((done.length : Int) < ((done ++ x :: rest).length : Int)) ∧ 0 ≤ (done.length : Int) ∧ rd (done ++ x :: rest) (done.length : Int) = x ∧ wrap64 ((done.length : Int) + 1) = ((done ++ [x]).length : Int) ∧ done ++ [x] ++ rest = done ++ x :: rest := by
  simp only [BM] at h
  refine ⟨by simp; omega, by omega, by simp [rd], ?_, by simp⟩
  simp at h ⊢
  unfold wrap64; omega
theorem Ev.ite {α : Type} {c : Prop} [Decidable c] {f g : Nat → Option α} {r : α} (h1 : c → Ev f r) (h2 : ¬ c → Ev g r) : Ev (fun k => if c then f k else g k) r := by
  by_cases h : c
  · simpa [h] using h1 h
  · simpa [h] using h2 h
theorem Ev.some {α : Type} {r r' : α} (h : r = r') : Ev (fun _ => Option.some r) r' := h ▸ Ev.now r
theorem Ev.pair {α : Type} {f : Nat → Option α} {r r' : α} (h : Ev f r) (e : r = r') : Ev f r' := e ▸ h
theorem set_mid (y x : Int) (done rest : List Int) : (done ++ y :: rest).set (done.length : Int).toNat x = done ++ [x] ++ rest := by simp
end Go.Proofs.YtbcbgehdikockaaDoor.K
namespace Go.Proofs.YtbcbgehdikockaaDoor.K
open Go.RowKit Go.Proofs.YtbcbgehdikockaaDoorW.PrintWords Go.Proofs.YtbcbgehdikockaaDoor.P
def seqFrom (a : Int) : Nat → List Int
  | 0 => []
  | n + 1 => a :: seqFrom (a + 1) n
theorem seqFrom_length (a : Int) (n : Nat) : (seqFrom a n).length = n := by
  induction n generalizing a with
  | zero => rfl
  | succ n ih => simp [seqFrom, ih]
theorem markIntS_l0 : ∀ (rest done : List Int) (b : Int), (done ++ rest).length ≤ BM → 0 ≤ b → b + rest.length ≤ 4611686018427387904 → Ev (fun k => laws_markIntS.l0 k (done ++ rest) b done.length) (b + rest.length, done ++ seqFrom b rest.length) := by
  intro rest
  induction rest with
  | nil => intro done b h _ _; exact Ev.step (fun k => by simp [laws_markIntS.l0]; rfl) (Ev.some (by simp [seqFrom]))
  | cons x rest ih =>
    intro done b h hb0 hb
    obtain ⟨h1, h2, h3, h4, h5⟩ := mid x done rest h
    have ih' := ih (done ++ [b]) (b + 1) (by simpa using h) (by omega) (by simp at hb; omega)
    refine Ev.step (fun k => by rw [laws_markIntS.l0]) ?_
    have h6 : wrap64 (b + 1) = b + 1 := wrap_id (by omega) (by simp at hb; omega)
    simp only [if_pos h1, if_pos h2, h4, h6, set_mid]
    refine Ev.pair ?_ (show (b + 1 + (rest.length : Int), done ++ [b] ++ seqFrom (b + 1) rest.length) = _ by simp [seqFrom]; omega)
    simpa using ih'
theorem markIntS_f (l : List Int) (a : Int) (h : l.length ≤ BM) (h0 : 0 ≤ a) (ha : a + l.length ≤ 4611686018427387904) : Ev (fun k => laws_markIntS.f k l a) (a + l.length, seqFrom a l.length) := markIntS_l0 l [] a h h0 ha
theorem heldIntS_l0 : ∀ (n : Nat) (done : List Int) (b : Int), (done ++ seqFrom b n).length ≤ BM → 0 ≤ b → b + n ≤ 4611686018427387904 → Ev (fun k => laws_heldIntS.l0 k (done ++ seqFrom b n) b done.length) (b + n) := by
  intro n
  induction n with
  | zero => intro done b h _ _; exact Ev.step (fun k => by simp [laws_heldIntS.l0, seqFrom]; rfl) (Ev.some (by simp))
  | succ n ih =>
    intro done b h hb0 hb
    simp only [seqFrom] at h ⊢
    obtain ⟨h1, h2, h3, h4, h5⟩ := mid b done (seqFrom (b + 1) n) h
    have ih' := ih (done ++ [b]) (b + 1) (by simpa using h) (by omega) (by omega)
    rw [h5] at ih'
    refine Ev.step (fun k => by rw [laws_heldIntS.l0]) ?_
    have h6 : wrap64 (b + 1) = b + 1 := wrap_id (by omega) (by omega)
    simp only [if_pos h1, if_pos h2, h3, h4, h6, if_true]
    exact Ev.pair ih' (by omega)
theorem heldIntS_f (a : Int) (n : Nat) (h : n ≤ BM) (h0 : 0 ≤ a) (ha : a + n ≤ 4611686018427387904) : Ev (fun k => laws_heldIntS.f k (seqFrom a n) a) (a + n) := heldIntS_l0 n [] a (by simpa [seqFrom_length] using h) h0 ha
end Go.Proofs.YtbcbgehdikockaaDoor.K
namespace Go.Proofs.YtbcbgehdikockaaDoor.P
open Go.RowKit Go.Proofs.YtbcbgehdikockaaDoorW.PrintWords Go.Proofs.YtbcbgehdikockaaDoorW.PrintLast Go.Proofs.YtbcbgehdikockaaDoorW.PrintMore Go.Proofs.YtbcbgehdikockaaDoor.K
theorem seqOf_eq (a : Int) (n : Nat) : seqOf a n = seqFrom a n := by
  induction n generalizing a with
  | zero => rfl
  | succ n ih => simp [seqOf, seqFrom, ih]
theorem hm_markIntS (P0_ : Nat → Prop) (u : Value) (l0 : List Int) (a1 : Int) (w0 w : World) (hl : l0.length ≤ 1048576) (h0 : 0 ≤ a1) (h1 : a1 ≤ 1099512676352) (hB : Below w0.heap.size w0 w) (ho0 : Kd.R (Kd.int .i64) 3 w w0.heap.size P0_ u l0) :
    Calls Tryd.prog 25 #[u, .int .i64 a1] w fun e w' => e = .returned (.int .i64 (a1 + l0.length)) ∧ Kd.R (Kd.int .i64) 3 w' w0.heap.size (fun k_ => some k_ = u.ownBlock) u (seqOf a1 l0.length) ∧ Below w0.heap.size w0 w' ∧ Kept w w' (fun k_ => some k_ = u.ownBlock) := by
  obtain ⟨k, hk⟩ := Ev.rounds (markIntS_f l0 a1 (by simp only [BM]; omega) h0 (by omega))
  refine (laws_markIntS.calls k (fun k_ => some k_ = u.ownBlock) u l0 a1 _ _ w0 w hB (Kd.R_tight rfl ho0) hk).mono ?_
  rintro e w' ⟨rfl, h2, h3, h4⟩
  exact ⟨rfl, by rw [seqOf_eq]; exact Kd.R_tight rfl h2, h3, h4⟩
set_option maxHeartbeats 400000 in
set_option maxRecDepth 100000 in
theorem laws_markIntSS.calls (P0_ : Nat → Prop) (u9000_ : Value) (l0 : List (List Int)) (a1 : Int) (r1 : Int) (r2 : List (List Int)) (w0 w : World) (hB : Below w0.heap.size w0 w) (ho0 : Kd.S (Kd.slice 3 (Kd.int .i64)) 22 w w0.heap.size P0_ u9000_ l0) (h : laws_markIntSS.f l0 a1 = some (r1, r2)) :
    Calls Tryd.prog 35 #[u9000_, .int .i64 a1] w fun e w' => e = .returned (.int .i64 r1) ∧ Kd.S (Kd.slice 3 (Kd.int .i64)) 22 w' w0.heap.size P0_ u9000_ r2 ∧ Below w0.heap.size w0 w' ∧ Kept w w' (fun k_ => P0_ k_) := by
  unfold laws_markIntSS.f at h
  split at h
  case isFalse => cases h
  rename_i hb
  have h := Option.some.inj h
  obtain ⟨hb0, hb1, hb2, hb3⟩ := hb
  obtain ⟨A, c, rfl, hlc, hC⟩ := Kd.S_reads ho0
  have HR := Aside0.mk h
  have HB := Aside0.mk hB
  have HS := Aside0.mk ho0
  have H3 := Aside0.mk hb3
  clear h hB ho0 hb3 hC
  go_enter Tryd.func35, Tryd.ntmps35
  go_wp2
  go_loopg [1, 5] l0.length (fun kq v1 v5 w' => ∃ (done rest md : List (List Int)) (b : Int), Aside0 (l0 = done ++ rest) ∧ v1 = .int .i64 b ∧ v5 = .int .i64 (done.length : Int) ∧ Aside0 (md.length = done.length) ∧ Aside0 (0 ≤ b ∧ b ≤ 1048576 + 1048576 * done.length) ∧ Aside0 (r1 = (seqRows b rest).1 ∧ r2 = md ++ (seqRows b rest).2) ∧ Aside0 (kq = rest.length) ∧ Aside0 (Kd.S (Kd.slice 3 (Kd.int .i64)) 22 w' w0.heap.size P0_ (.slice A l0.length c) (md ++ rest)) ∧ Aside0 (Below w0.heap.size w0 w') ∧ Aside0 (Kept w w' (fun k_ => P0_ k_)))
  case atStart => exact ⟨[], l0, [], a1, ⟨rfl⟩, rfl, rfl, ⟨rfl⟩, ⟨⟨hb0, by simp; omega⟩⟩, ⟨by rw [HR.out]; exact ⟨rfl, rfl⟩⟩, ⟨rfl⟩, ⟨HS.out⟩, ⟨HB.out⟩, ⟨Kept.refl _ _⟩⟩
  case round =>
    obtain ⟨done, rest, md, b, HE, rfl, rfl, HM, HBD, HRR, HK, HS1, HB1, HKP⟩ := hrel
    clear HS HB
    cases rest with
    | nil =>
      have hl : done.length = l0.length := by rw [HE.out]; simp
      have c4 : decide ((done.length : Int) < (l0.length : Int)) = false := by simp; omega
      have c5 : decide (done.length < l0.length) = false := by simp; omega
      clear hl
      go_wp2
      go_ret
      have e1 := HRR.out.1
      have e2 := HRR.out.2
      simp only [seqRows] at e1 e2
      subst e1 e2
      refine ⟨rfl, ?_, ?_, ?_⟩
      · repeat (first | exact HS1.out | (with_reducible refine Kd.S_drewN ?_ _) | (with_reducible refine Kd.S_drew ?_))
      · exact below_step HB1.out (by repeat (first | (with_reducible first | exact Below.refl _ _ | apply below_alloc | apply pw_below_drewN | apply below_drew1)))
      · exact HKP.out.below (by repeat (first | (with_reducible first | exact Below.refl _ _ | apply below_alloc | apply pw_below_drewN | apply below_drew1)))
    | cons x rest =>
      have hl : done.length < l0.length := by rw [HE.out]; simp
      cases A with
      | none =>
        exfalso
        have := (Kd.S_reads' HS1.out).2.2
        obtain ⟨_, _, h3⟩ := this
        obtain ⟨ad, h4, _⟩ := h3 (by simp only [List.length_append, List.length_cons]; omega)
        cases h4
      | some ad =>
      obtain ⟨g, rfl⟩ := Kd.R_head (Kd.S_R HS1.out)
      obtain ⟨oki, cs, hcl, hM, hcc, hfr, hok, hH⟩ := Kd.S_elem HS1.out ([] : List Int) (done.length : Int) (by omega) (by omega)
      obtain ⟨v, rfl, hv⟩ := hM
      have hx := hcc 0 v rfl
      simp only [Kd.slice, Nat.mul_one, Nat.add_zero, Int.toNat_natCast] at hx
      have hg : ((md ++ x :: rest).getD (done.length : Int).toNat []) = x := by rw [Int.toNat_natCast, ← HM.out]; simp
      rw [hg] at hv
      have HV := Aside0.mk hv
      have HH := Aside0.mk hH
      clear hv hH hcc hfr hg
      have HX : Aside0 (x.length ≤ 1048576) := ⟨H3.out x (by rw [HE.out]; simp)⟩
      have c4 : decide ((done.length : Int) < (l0.length : Int)) = true := by simp; omega
      have c5 : decide (done.length < l0.length) = true := by simp; omega
      have c6 : (done.length : Int) + 1 ≤ 9223372036854775807 := by omega
      have HB2 : Aside0 (b ≤ 1099512676352) := ⟨by have := HBD.out; omega⟩
      go_wp2_with (first | (go_at_call 25; (with_reducible refine (hm_markIntS oki v x b w0 _ HX.out HBD.out.1 HB2.out ?side1 ?side2).mono ?_); (case side1 => exact below_step HB1.out (by repeat (first | (with_reducible first | exact Below.refl _ _ | apply below_alloc | apply pw_below_drewN | apply below_drew1)))); (case side2 => repeat (first | exact HV.out | (with_reducible refine Kd.R_drewN ?_ _) | (with_reducible refine Kd.R_drew ?_))); rintro e w2 ⟨rfl, hq1, hq2, hq3⟩; have HQ1 := Aside0.mk hq1; have HQ2 := Aside0.mk hq2; have HQ3 := Aside0.mk hq3; clear hq1 hq2 hq3))
      go_roundg rest.length
      case measure => have := HK.out; simp at this; omega
      case rel =>
        have hset : (md ++ x :: rest).set (done.length : Int).toNat (seqOf b x.length) = (md ++ [seqOf b x.length]) ++ rest := by
          rw [Int.toNat_natCast, ← HM.out, List.set_append_right _ _ (Nat.le_refl _), Nat.sub_self]; simp
        have hS2 := Kd.H_back (Kd.H_step HH.out (fun k hk hn hlt => HQ3.out.2 k hlt (fun e => hn (HV.out.1 k e.symm)))) (x' := seqOf b x.length) (okp := fun k_ => some k_ = v.ownBlock) ⟨v, rfl, HQ1.out⟩ (fun k hk => HV.out.1 k hk.symm)
        rw [hset] at hS2
        have hK2 := HKP.out.then_ HQ3.out (fun k hk => .inl (hok k (HV.out.1 k hk.symm)).1)
        have hb := HBD.out
        have hx2 := HX.out
        have hm := HM.out
        have hr := HRR.out
        simp only [seqRows] at hr
        refine ⟨done ++ [x], rest, md ++ [seqOf b x.length], b + x.length, ⟨by rw [HE.out]; simp⟩, rfl, by simp, ⟨by simp [hm]⟩, ⟨⟨by omega, by rw [List.length_append, List.length_singleton]; omega⟩⟩, ⟨⟨hr.1, by rw [hr.2]; simp⟩⟩, ⟨rfl⟩, ⟨?_⟩, ⟨?_⟩, ⟨?_⟩⟩
        · repeat (first | exact hS2 | (with_reducible refine Kd.S_drewN ?_ _) | (with_reducible refine Kd.S_drew ?_))
        · exact below_step HQ2.out (by repeat (first | (with_reducible first | exact Below.refl _ _ | apply below_alloc | apply pw_below_drewN | apply below_drew1)))
        · exact hK2.below (by repeat (first | (with_reducible first | exact Below.refl _ _ | apply below_alloc | apply pw_below_drewN | apply below_drew1)))
end Go.Proofs.YtbcbgehdikockaaDoor.P
namespace Go.Proofs.YtbcbgehdikockaaDoor.P
open Go.RowKit Go.Proofs.YtbcbgehdikockaaDoorW.PrintWords Go.Proofs.YtbcbgehdikockaaDoorW.PrintLast Go.Proofs.YtbcbgehdikockaaDoorW.PrintMore
set_option maxHeartbeats 2000000 in
set_option maxRecDepth 100000 in
theorem laws_FnExactEdgeSwitches.calls (a0 : Int) (A0 : Option Addr) (c0 : Nat) (l0 : List Int) (rr : Bool) (w : World) (hT : K.TabOK w) (hr0 : Kd.C (Kd.int .i64) w A0 l0.length l0) (hc0 : l0.length ≤ c0) (h : laws_FnExactEdgeSwitches.Good a0 l0 rr) :
    Calls Tryd.prog 8 #[.agg #[.int .i64 a0, .slice A0 l0.length c0]] w fun e w' => e = .returned (.bool rr) ∧ Below w.heap.size w w' := by
  have HT := Aside0.mk hT
  clear hT
  obtain ⟨rfl, h⟩ := h
  have HR0 := Aside0.mk hr0
  have HC0 := Aside0.mk hc0
  have HB := Aside0.mk (Below.refl w.heap.size w)
  have HST := Aside0.mk (K.St.pushBox (u0 := .int .i64 a0) (u1 := .slice A0 l0.length c0) (t := 24) (show K.St w [] from trivial))
  clear hr0 hc0
  obtain ⟨n0, hsz0, h⟩ := h
  have HSZ0 := Aside0.mk hsz0
  clear hsz0
  rcases h with hneg | ⟨hpos0, h⟩
  · have b0 : decide (n0 < 0) = true := decide_eq_true hneg
    clear hneg
    go_enter Tryd.func8, Tryd.ntmps8
    go_wp2_with (first | (go_at_call 9; (with_reducible refine (laws_szGraph.calls a0 _ _ l0 _ _ _ ?c0 ?l0 HSZ0.out).mono ?_); (case c0 => first | exact Kd.C_below HR0.out (below_step HB.out (by repeat (first | (with_reducible first | exact HBX.out | exact Below.refl _ _ | apply below_alloc | apply pw_below_drewN | apply below_drew1 | refine below_set ?_ GX.out) | exact HBX.out))) | exact K.St.readSS (HST.out.below (by repeat (first | (with_reducible first | exact HBX.out | exact Below.refl _ _ | apply below_alloc | apply pw_below_drewN | apply below_drew1 | refine below_set ?_ GX.out) | exact HBX.out))) (by repeat (first | (with_reducible exact List.mem_cons_self) | apply List.mem_cons_of_mem)) | exact K.St.readF (HST.out.below (by repeat (first | (with_reducible first | exact HBX.out | exact Below.refl _ _ | apply below_alloc | apply pw_below_drewN | apply below_drew1 | refine below_set ?_ GX.out) | exact HBX.out))) (by repeat (first | (with_reducible exact List.mem_cons_self) | apply List.mem_cons_of_mem))); (case l0 => first | exact HC0.out | exact K.St.sizeSS (HST.out.below (by repeat (first | (with_reducible first | exact HBX.out | exact Below.refl _ _ | apply below_alloc | apply pw_below_drewN | apply below_drew1 | refine below_set ?_ GX.out) | exact HBX.out))) (by repeat (first | (with_reducible exact List.mem_cons_self) | apply List.mem_cons_of_mem)) | exact K.St.sizeF (HST.out.below (by repeat (first | (with_reducible first | exact HBX.out | exact Below.refl _ _ | apply below_alloc | apply pw_below_drewN | apply below_drew1 | refine below_set ?_ GX.out) | exact HBX.out))) (by repeat (first | (with_reducible exact List.mem_cons_self) | apply List.mem_cons_of_mem))); rintro e w' ⟨rfl, hb⟩; have n0_ := Aside0.mk ((HST.out.below (by repeat (first | (with_reducible first | exact HBX.out | exact Below.refl _ _ | apply below_alloc | apply pw_below_drewN | apply below_drew1 | refine below_set ?_ GX.out) | exact HBX.out))).below hb); have n1_ := Aside0.mk (below_step (below_step HB.out (by repeat (first | (with_reducible first | exact HBX.out | exact Below.refl _ _ | apply below_alloc | apply pw_below_drewN | apply below_drew1 | refine below_set ?_ GX.out) | exact HBX.out))) hb); clear HST HB hb; have HST := n0_; have HB := n1_; clear n0_ n1_; (try clear hx0 hx1); (try clear hy0 hy1); obtain ⟨hx0, hx1⟩ := K.St.getB (g := w.heap.size) HST.out (by repeat (first | (with_reducible exact List.mem_cons_self) | apply List.mem_cons_of_mem)); (first | (have hq_ : Nat := g1; clear hq_; obtain ⟨hy0, hy1⟩ := K.St.getB (g := g1) HST.out (by repeat (first | (with_reducible exact List.mem_cons_self) | apply List.mem_cons_of_mem))) | skip)))
    go_ret
    exact ⟨rfl, below_step HB.out (by repeat (first | (with_reducible first | exact HBX.out | exact Below.refl _ _ | apply below_alloc | apply pw_below_drewN | apply below_drew1 | refine below_set ?_ GX.out) | exact HBX.out))⟩
  · have f0 : decide (n0 < 0) = false := decide_eq_false (by omega)
    clear hpos0
    obtain ⟨w0, w0', l0', wb, k0, m0, ⟨k_hto0, hto0⟩, ⟨k_hsp, hsp⟩, ⟨k_him, him⟩, ⟨k_hew0, hew0⟩, ⟨k_hel0, hel0⟩, ⟨k_hmk0, hmk0⟩, hmm0, ⟨k_hh0, hh0⟩, hkk, hp0, hlw0⟩ := h
    have HTO0 := Aside0.mk hto0
    have HSP := Aside0.mk hsp
    have HIM := Aside0.mk him
    have HEW0 := Aside0.mk hew0
    have HEL0 := Aside0.mk hel0
    have HMK0 := Aside0.mk hmk0
    have HMM0 := Aside0.mk hmm0
    have HH0 := Aside0.mk hh0
    have HLEN0 := Aside0.mk hlw0
    have b1 : decide (k0 < 0) = false := decide_eq_false (by omega)
    have b2_0 : decide (m0 < 0) = false := decide_eq_false (by omega)
    have b3 : (m0 != m0) = false := bne_self_eq_false _
    have b4 : (wb != wb) = false := bne_self_eq_false wb
    clear hto0 hsp him hew0 hel0 hmk0 hmm0 hh0 hkk hp0 hlw0
    go_enter Tryd.func8, Tryd.ntmps8
    go_wp2_with (first | ((with_reducible refine gate_dst (N := 6) rfl ?_); refine box_event ?hg (N := 6) ?hd (cs := #[.int .i64 0, .slice none 0 0]) (t := 27) ?hr ?_; (case hd => rfl); (case hg => rfl); (case hr => first | (go_simp; done) | (go_simp; rfl)); intro g1 hg1 w4 hbox hb; have GX := Aside0.mk (K.St.geBox HST.out (by repeat (first | (with_reducible first | exact HBX.out | exact Below.refl _ _ | apply below_alloc | apply pw_below_drewN | apply below_drew1 | refine below_set ?_ GX.out) | exact HBX.out)) hg1); have HBX := Aside0.mk (K.St.belBox HST.out (by repeat (first | (with_reducible first | exact HBX.out | exact Below.refl _ _ | apply below_alloc | apply pw_below_drewN | apply below_drew1 | refine below_set ?_ GX.out) | exact HBX.out)) hb); have HBOX := Aside0.mk hbox; have hlt := Nat.lt_of_lt_of_le (K.St.bound HST.out (K.obB w.heap.size (.int .i64 a0) (.slice A0 l0.length c0)) (by repeat (first | (with_reducible exact List.mem_cons_self) | apply List.mem_cons_of_mem)) w.heap.size rfl) GX.out; have hnb := Nat.ne_of_gt hlt; have hnc := Nat.ne_of_lt hlt; have hy0 : w4.cell? ⟨g1, 0, none⟩ = some (.int .i64 0) := (blk_cell hbox 0).trans rfl; have hy1 : w4.cell? ⟨g1, 1, none⟩ = some (.slice none 0 0) := (blk_cell hbox 1).trans rfl; have hfz0 := blk_frozen hbox 0; have hfz1 := blk_frozen hbox 1; clear hlt hb hg1 hbox) | (go_at_call 9; (with_reducible refine (laws_szGraph.calls a0 _ _ l0 _ _ _ ?c0 ?l0 HSZ0.out).mono ?_); (case c0 => first | exact Kd.C_below HR0.out (below_step HB.out (by repeat (first | (with_reducible first | exact HBX.out | exact Below.refl _ _ | apply below_alloc | apply pw_below_drewN | apply below_drew1 | refine below_set ?_ GX.out) | exact HBX.out))) | exact K.St.readSS (HST.out.below (by repeat (first | (with_reducible first | exact HBX.out | exact Below.refl _ _ | apply below_alloc | apply pw_below_drewN | apply below_drew1 | refine below_set ?_ GX.out) | exact HBX.out))) (by repeat (first | (with_reducible exact List.mem_cons_self) | apply List.mem_cons_of_mem)) | exact K.St.readF (HST.out.below (by repeat (first | (with_reducible first | exact HBX.out | exact Below.refl _ _ | apply below_alloc | apply pw_below_drewN | apply below_drew1 | refine below_set ?_ GX.out) | exact HBX.out))) (by repeat (first | (with_reducible exact List.mem_cons_self) | apply List.mem_cons_of_mem))); (case l0 => first | exact HC0.out | exact K.St.sizeSS (HST.out.below (by repeat (first | (with_reducible first | exact HBX.out | exact Below.refl _ _ | apply below_alloc | apply pw_below_drewN | apply below_drew1 | refine below_set ?_ GX.out) | exact HBX.out))) (by repeat (first | (with_reducible exact List.mem_cons_self) | apply List.mem_cons_of_mem)) | exact K.St.sizeF (HST.out.below (by repeat (first | (with_reducible first | exact HBX.out | exact Below.refl _ _ | apply below_alloc | apply pw_below_drewN | apply below_drew1 | refine below_set ?_ GX.out) | exact HBX.out))) (by repeat (first | (with_reducible exact List.mem_cons_self) | apply List.mem_cons_of_mem))); rintro e w' ⟨rfl, hb⟩; have n0_ := Aside0.mk ((HST.out.below (by repeat (first | (with_reducible first | exact HBX.out | exact Below.refl _ _ | apply below_alloc | apply pw_below_drewN | apply below_drew1 | refine below_set ?_ GX.out) | exact HBX.out))).below hb); have n1_ := Aside0.mk (below_step (below_step HB.out (by repeat (first | (with_reducible first | exact HBX.out | exact Below.refl _ _ | apply below_alloc | apply pw_below_drewN | apply below_drew1 | refine below_set ?_ GX.out) | exact HBX.out))) hb); clear HST HB hb; have HST := n0_; have HB := n1_; clear n0_ n1_; (try clear hx0 hx1); (try clear hy0 hy1); obtain ⟨hx0, hx1⟩ := K.St.getB (g := w.heap.size) HST.out (by repeat (first | (with_reducible exact List.mem_cons_self) | apply List.mem_cons_of_mem)); (first | (have hq_ : Nat := g1; clear hq_; obtain ⟨hy0, hy1⟩ := K.St.getB (g := g1) HST.out (by repeat (first | (with_reducible exact List.mem_cons_self) | apply List.mem_cons_of_mem))) | skip)) | (go_at_call 11; (with_reducible refine (laws_toGraph.calls _ a0 _ _ l0 _ _ _ ?c0 ?l0 HTO0.out).mono ?_); (case c0 => first | exact Kd.C_below HR0.out (below_step HB.out (by repeat (first | (with_reducible first | exact HBX.out | exact Below.refl _ _ | apply below_alloc | apply pw_below_drewN | apply below_drew1 | refine below_set ?_ GX.out) | exact HBX.out))) | exact K.St.readSS (HST.out.below (by repeat (first | (with_reducible first | exact HBX.out | exact Below.refl _ _ | apply below_alloc | apply pw_below_drewN | apply below_drew1 | refine below_set ?_ GX.out) | exact HBX.out))) (by repeat (first | (with_reducible exact List.mem_cons_self) | apply List.mem_cons_of_mem)) | exact K.St.readF (HST.out.below (by repeat (first | (with_reducible first | exact HBX.out | exact Below.refl _ _ | apply below_alloc | apply pw_below_drewN | apply below_drew1 | refine below_set ?_ GX.out) | exact HBX.out))) (by repeat (first | (with_reducible exact List.mem_cons_self) | apply List.mem_cons_of_mem))); (case l0 => first | exact HC0.out | exact K.St.sizeSS (HST.out.below (by repeat (first | (with_reducible first | exact HBX.out | exact Below.refl _ _ | apply below_alloc | apply pw_below_drewN | apply below_drew1 | refine below_set ?_ GX.out) | exact HBX.out))) (by repeat (first | (with_reducible exact List.mem_cons_self) | apply List.mem_cons_of_mem)) | exact K.St.sizeF (HST.out.below (by repeat (first | (with_reducible first | exact HBX.out | exact Below.refl _ _ | apply below_alloc | apply pw_below_drewN | apply below_drew1 | refine below_set ?_ GX.out) | exact HBX.out))) (by repeat (first | (with_reducible exact List.mem_cons_self) | apply List.mem_cons_of_mem))); rintro e w' ⟨v0, rfl, hs0, hb⟩; obtain ⟨AX_, cX_, rfl, -, -⟩ := Kd.R_reads hs0; have n0_ := Aside0.mk (K.St.pushF (b := w.heap.size) (HST.out.below (by repeat (first | (with_reducible first | exact HBX.out | exact Below.refl _ _ | apply below_alloc | apply pw_below_drewN | apply below_drew1 | refine below_set ?_ GX.out) | exact HBX.out))) hb rfl (below_size (below_step HB.out (by repeat (first | (with_reducible first | exact HBX.out | exact Below.refl _ _ | apply below_alloc | apply pw_below_drewN | apply below_drew1 | refine below_set ?_ GX.out) | exact HBX.out)))) hs0); have n1_ := Aside0.mk (below_step (below_step HB.out (by repeat (first | (with_reducible first | exact HBX.out | exact Below.refl _ _ | apply below_alloc | apply pw_below_drewN | apply below_drew1 | refine below_set ?_ GX.out) | exact HBX.out))) hb); clear HST HB hs0 hb; have HST := n0_; have HB := n1_; clear n0_ n1_; (try clear hx0 hx1); (try clear hy0 hy1); obtain ⟨hx0, hx1⟩ := K.St.getB (g := w.heap.size) HST.out (by repeat (first | (with_reducible exact List.mem_cons_self) | apply List.mem_cons_of_mem)); (first | (have hq_ : Nat := g1; clear hq_; obtain ⟨hy0, hy1⟩ := K.St.getB (g := g1) HST.out (by repeat (first | (with_reducible exact List.mem_cons_self) | apply List.mem_cons_of_mem))) | skip)) | (go_at_call 32; (with_reducible refine (spec_EdgeSwitches.calls _ a0 _ _ l0 _ _ _ ?c0 ?l0 HSP.out).mono ?_); (case c0 => first | exact Kd.C_below HR0.out (below_step HB.out (by repeat (first | (with_reducible first | exact HBX.out | exact Below.refl _ _ | apply below_alloc | apply pw_below_drewN | apply below_drew1 | refine below_set ?_ GX.out) | exact HBX.out))) | exact K.St.readSS (HST.out.below (by repeat (first | (with_reducible first | exact HBX.out | exact Below.refl _ _ | apply below_alloc | apply pw_below_drewN | apply below_drew1 | refine below_set ?_ GX.out) | exact HBX.out))) (by repeat (first | (with_reducible exact List.mem_cons_self) | apply List.mem_cons_of_mem)) | exact K.St.readF (HST.out.below (by repeat (first | (with_reducible first | exact HBX.out | exact Below.refl _ _ | apply below_alloc | apply pw_below_drewN | apply below_drew1 | refine below_set ?_ GX.out) | exact HBX.out))) (by repeat (first | (with_reducible exact List.mem_cons_self) | apply List.mem_cons_of_mem))); (case l0 => first | exact HC0.out | exact K.St.sizeSS (HST.out.below (by repeat (first | (with_reducible first | exact HBX.out | exact Below.refl _ _ | apply below_alloc | apply pw_below_drewN | apply below_drew1 | refine below_set ?_ GX.out) | exact HBX.out))) (by repeat (first | (with_reducible exact List.mem_cons_self) | apply List.mem_cons_of_mem)) | exact K.St.sizeF (HST.out.below (by repeat (first | (with_reducible first | exact HBX.out | exact Below.refl _ _ | apply below_alloc | apply pw_below_drewN | apply below_drew1 | refine below_set ?_ GX.out) | exact HBX.out))) (by repeat (first | (with_reducible exact List.mem_cons_self) | apply List.mem_cons_of_mem))); rintro e w' ⟨v0, rfl, hs0, hb⟩; obtain ⟨A0_, c0_, rfl, -, -⟩ := Kd.S_reads hs0; obtain ⟨S1_, n0_⟩ := K.St.pushSS (b := w.heap.size) (HST.out.below (by repeat (first | (with_reducible first | exact HBX.out | exact Below.refl _ _ | apply below_alloc | apply pw_below_drewN | apply below_drew1 | refine below_set ?_ GX.out) | exact HBX.out))) hb (below_size (below_step HB.out (by repeat (first | (with_reducible first | exact HBX.out | exact Below.refl _ _ | apply below_alloc | apply pw_below_drewN | apply below_drew1 | refine below_set ?_ GX.out) | exact HBX.out)))) hs0; replace n0_ := Aside0.mk n0_; have n1_ := Aside0.mk (below_step (below_step HB.out (by repeat (first | (with_reducible first | exact HBX.out | exact Below.refl _ _ | apply below_alloc | apply pw_below_drewN | apply below_drew1 | refine below_set ?_ GX.out) | exact HBX.out))) hb); clear HST HB hs0 hb; have HST := n0_; have HB := n1_; clear n0_ n1_; (try clear hx0 hx1); (try clear hy0 hy1); obtain ⟨hx0, hx1⟩ := K.St.getB (g := w.heap.size) HST.out (by repeat (first | (with_reducible exact List.mem_cons_self) | apply List.mem_cons_of_mem)); (first | (have hq_ : Nat := g1; clear hq_; obtain ⟨hy0, hy1⟩ := K.St.getB (g := g1) HST.out (by repeat (first | (with_reducible exact List.mem_cons_self) | apply List.mem_cons_of_mem))) | skip)) | (go_at_call 33; (with_reducible refine (impl_EdgeSwitches.calls _ a0 _ _ l0 _ _ _ ?sideT ?c0 ?l0 HIM.out).mono ?_); (case sideT => exact HT.out.below (below_step HB.out (by repeat (first | (with_reducible first | exact HBX.out | exact Below.refl _ _ | apply below_alloc | apply pw_below_drewN | apply below_drew1 | refine below_set ?_ GX.out) | exact HBX.out)))); (case c0 => first | exact Kd.C_below HR0.out (below_step HB.out (by repeat (first | (with_reducible first | exact HBX.out | exact Below.refl _ _ | apply below_alloc | apply pw_below_drewN | apply below_drew1 | refine below_set ?_ GX.out) | exact HBX.out))) | exact K.St.readSS (HST.out.below (by repeat (first | (with_reducible first | exact HBX.out | exact Below.refl _ _ | apply below_alloc | apply pw_below_drewN | apply below_drew1 | refine below_set ?_ GX.out) | exact HBX.out))) (by repeat (first | (with_reducible exact List.mem_cons_self) | apply List.mem_cons_of_mem)) | exact K.St.readF (HST.out.below (by repeat (first | (with_reducible first | exact HBX.out | exact Below.refl _ _ | apply below_alloc | apply pw_below_drewN | apply below_drew1 | refine below_set ?_ GX.out) | exact HBX.out))) (by repeat (first | (with_reducible exact List.mem_cons_self) | apply List.mem_cons_of_mem))); (case l0 => first | exact HC0.out | exact K.St.sizeSS (HST.out.below (by repeat (first | (with_reducible first | exact HBX.out | exact Below.refl _ _ | apply below_alloc | apply pw_below_drewN | apply below_drew1 | refine below_set ?_ GX.out) | exact HBX.out))) (by repeat (first | (with_reducible exact List.mem_cons_self) | apply List.mem_cons_of_mem)) | exact K.St.sizeF (HST.out.below (by repeat (first | (with_reducible first | exact HBX.out | exact Below.refl _ _ | apply below_alloc | apply pw_below_drewN | apply below_drew1 | refine below_set ?_ GX.out) | exact HBX.out))) (by repeat (first | (with_reducible exact List.mem_cons_self) | apply List.mem_cons_of_mem))); rintro e w' ⟨v0, rfl, hs0, hb⟩; have n2_ := Aside0.mk (K.St.pushBoxB (t := 27) (u0 := .int .i64 a0) (u1 := .slice AX_ l0.length cX_) hb HST.out (by repeat (first | (with_reducible first | exact HBX.out | exact Below.refl _ _ | apply below_alloc | apply pw_below_drewN | apply below_drew1 | refine below_set ?_ GX.out) | exact HBX.out)) GX.out (by (with_reducible repeat (first | refine blk_drewN ?_ _ | refine blk_drew ?_ | refine blk_alloc ?_ _)); refine blk_put (cs := #[.int .i64 a0, .slice none 0 0]) ?_ 1 _ rfl; (with_reducible repeat (first | refine blk_drewN ?_ _ | refine blk_drew ?_ | refine blk_alloc ?_ _)); refine blk_put (cs := #[.int .i64 0, .slice none 0 0]) ?_ 0 _ rfl; (with_reducible repeat (first | refine blk_drewN ?_ _ | refine blk_drew ?_ | refine blk_alloc ?_ _)); exact HBOX.out)); clear HST; have HST := n2_; clear n2_; obtain ⟨A0_, c0_, rfl, -, -⟩ := Kd.S_reads hs0; obtain ⟨S1_, n0_⟩ := K.St.pushSS (b := w.heap.size) (HST.out.below (by repeat (first | (with_reducible first | exact HBX.out | exact Below.refl _ _ | apply below_alloc | apply pw_below_drewN | apply below_drew1 | refine below_set ?_ GX.out) | exact HBX.out))) hb (below_size (below_step HB.out (by repeat (first | (with_reducible first | exact HBX.out | exact Below.refl _ _ | apply below_alloc | apply pw_below_drewN | apply below_drew1 | refine below_set ?_ GX.out) | exact HBX.out)))) hs0; replace n0_ := Aside0.mk n0_; have n1_ := Aside0.mk (below_step (below_step HB.out (by repeat (first | (with_reducible first | exact HBX.out | exact Below.refl _ _ | apply below_alloc | apply pw_below_drewN | apply below_drew1 | refine below_set ?_ GX.out) | exact HBX.out))) hb); clear HST HB hs0 hb; have HST := n0_; have HB := n1_; clear n0_ n1_; (try clear hx0 hx1); (try clear hy0 hy1); obtain ⟨hx0, hx1⟩ := K.St.getB (g := w.heap.size) HST.out (by repeat (first | (with_reducible exact List.mem_cons_self) | apply List.mem_cons_of_mem)); (first | (have hq_ : Nat := g1; clear hq_; obtain ⟨hy0, hy1⟩ := K.St.getB (g := g1) HST.out (by repeat (first | (with_reducible exact List.mem_cons_self) | apply List.mem_cons_of_mem))) | skip); clear HBX GX HBOX) | (go_at_call 33; (with_reducible refine (impl_EdgeSwitches.calls _ a0 _ _ l0 _ _ _ ?sideT ?c0 ?l0 HIM.out).mono ?_); (case sideT => exact HT.out.below (below_step HB.out (by repeat (first | (with_reducible first | exact HBX.out | exact Below.refl _ _ | apply below_alloc | apply pw_below_drewN | apply below_drew1 | refine below_set ?_ GX.out) | exact HBX.out)))); (case c0 => first | exact Kd.C_below HR0.out (below_step HB.out (by repeat (first | (with_reducible first | exact HBX.out | exact Below.refl _ _ | apply below_alloc | apply pw_below_drewN | apply below_drew1 | refine below_set ?_ GX.out) | exact HBX.out))) | exact K.St.readSS (HST.out.below (by repeat (first | (with_reducible first | exact HBX.out | exact Below.refl _ _ | apply below_alloc | apply pw_below_drewN | apply below_drew1 | refine below_set ?_ GX.out) | exact HBX.out))) (by repeat (first | (with_reducible exact List.mem_cons_self) | apply List.mem_cons_of_mem)) | exact K.St.readF (HST.out.below (by repeat (first | (with_reducible first | exact HBX.out | exact Below.refl _ _ | apply below_alloc | apply pw_below_drewN | apply below_drew1 | refine below_set ?_ GX.out) | exact HBX.out))) (by repeat (first | (with_reducible exact List.mem_cons_self) | apply List.mem_cons_of_mem))); (case l0 => first | exact HC0.out | exact K.St.sizeSS (HST.out.below (by repeat (first | (with_reducible first | exact HBX.out | exact Below.refl _ _ | apply below_alloc | apply pw_below_drewN | apply below_drew1 | refine below_set ?_ GX.out) | exact HBX.out))) (by repeat (first | (with_reducible exact List.mem_cons_self) | apply List.mem_cons_of_mem)) | exact K.St.sizeF (HST.out.below (by repeat (first | (with_reducible first | exact HBX.out | exact Below.refl _ _ | apply below_alloc | apply pw_below_drewN | apply below_drew1 | refine below_set ?_ GX.out) | exact HBX.out))) (by repeat (first | (with_reducible exact List.mem_cons_self) | apply List.mem_cons_of_mem))); rintro e w' ⟨v0, rfl, hs0, hb⟩; obtain ⟨A0_, c0_, rfl, -, -⟩ := Kd.S_reads hs0; obtain ⟨S1_, n0_⟩ := K.St.pushSS (b := w.heap.size) (HST.out.below (by repeat (first | (with_reducible first | exact HBX.out | exact Below.refl _ _ | apply below_alloc | apply pw_below_drewN | apply below_drew1 | refine below_set ?_ GX.out) | exact HBX.out))) hb (below_size (below_step HB.out (by repeat (first | (with_reducible first | exact HBX.out | exact Below.refl _ _ | apply below_alloc | apply pw_below_drewN | apply below_drew1 | refine below_set ?_ GX.out) | exact HBX.out)))) hs0; replace n0_ := Aside0.mk n0_; have n1_ := Aside0.mk (below_step (below_step HB.out (by repeat (first | (with_reducible first | exact HBX.out | exact Below.refl _ _ | apply below_alloc | apply pw_below_drewN | apply below_drew1 | refine below_set ?_ GX.out) | exact HBX.out))) hb); clear HST HB hs0 hb; have HST := n0_; have HB := n1_; clear n0_ n1_; (try clear hx0 hx1); (try clear hy0 hy1); obtain ⟨hx0, hx1⟩ := K.St.getB (g := w.heap.size) HST.out (by repeat (first | (with_reducible exact List.mem_cons_self) | apply List.mem_cons_of_mem)); (first | (have hq_ : Nat := g1; clear hq_; obtain ⟨hy0, hy1⟩ := K.St.getB (g := g1) HST.out (by repeat (first | (with_reducible exact List.mem_cons_self) | apply List.mem_cons_of_mem))) | skip)) | (go_at_call 34; (with_reducible refine (laws_eqIntSS.calls _ _ _ w0 _ _ w0 _ _ ?c0 ?l0 ?c1 ?l1 HEW0.out).mono ?_); (case c0 => first | exact Kd.C_below HR0.out (below_step HB.out (by repeat (first | (with_reducible first | exact HBX.out | exact Below.refl _ _ | apply below_alloc | apply pw_below_drewN | apply below_drew1 | refine below_set ?_ GX.out) | exact HBX.out))) | exact K.St.readSS (HST.out.below (by repeat (first | (with_reducible first | exact HBX.out | exact Below.refl _ _ | apply below_alloc | apply pw_below_drewN | apply below_drew1 | refine below_set ?_ GX.out) | exact HBX.out))) (by repeat (first | (with_reducible exact List.mem_cons_self) | apply List.mem_cons_of_mem)) | exact K.St.readF (HST.out.below (by repeat (first | (with_reducible first | exact HBX.out | exact Below.refl _ _ | apply below_alloc | apply pw_below_drewN | apply below_drew1 | refine below_set ?_ GX.out) | exact HBX.out))) (by repeat (first | (with_reducible exact List.mem_cons_self) | apply List.mem_cons_of_mem))); (case l0 => first | exact HC0.out | exact K.St.sizeSS (HST.out.below (by repeat (first | (with_reducible first | exact HBX.out | exact Below.refl _ _ | apply below_alloc | apply pw_below_drewN | apply below_drew1 | refine below_set ?_ GX.out) | exact HBX.out))) (by repeat (first | (with_reducible exact List.mem_cons_self) | apply List.mem_cons_of_mem)) | exact K.St.sizeF (HST.out.below (by repeat (first | (with_reducible first | exact HBX.out | exact Below.refl _ _ | apply below_alloc | apply pw_below_drewN | apply below_drew1 | refine below_set ?_ GX.out) | exact HBX.out))) (by repeat (first | (with_reducible exact List.mem_cons_self) | apply List.mem_cons_of_mem))); (case c1 => first | exact Kd.C_below HR0.out (below_step HB.out (by repeat (first | (with_reducible first | exact HBX.out | exact Below.refl _ _ | apply below_alloc | apply pw_below_drewN | apply below_drew1 | refine below_set ?_ GX.out) | exact HBX.out))) | exact K.St.readSS (HST.out.below (by repeat (first | (with_reducible first | exact HBX.out | exact Below.refl _ _ | apply below_alloc | apply pw_below_drewN | apply below_drew1 | refine below_set ?_ GX.out) | exact HBX.out))) (by repeat (first | (with_reducible exact List.mem_cons_self) | apply List.mem_cons_of_mem)) | exact K.St.readF (HST.out.below (by repeat (first | (with_reducible first | exact HBX.out | exact Below.refl _ _ | apply below_alloc | apply pw_below_drewN | apply below_drew1 | refine below_set ?_ GX.out) | exact HBX.out))) (by repeat (first | (with_reducible exact List.mem_cons_self) | apply List.mem_cons_of_mem))); (case l1 => first | exact HC0.out | exact K.St.sizeSS (HST.out.below (by repeat (first | (with_reducible first | exact HBX.out | exact Below.refl _ _ | apply below_alloc | apply pw_below_drewN | apply below_drew1 | refine below_set ?_ GX.out) | exact HBX.out))) (by repeat (first | (with_reducible exact List.mem_cons_self) | apply List.mem_cons_of_mem)) | exact K.St.sizeF (HST.out.below (by repeat (first | (with_reducible first | exact HBX.out | exact Below.refl _ _ | apply below_alloc | apply pw_below_drewN | apply below_drew1 | refine below_set ?_ GX.out) | exact HBX.out))) (by repeat (first | (with_reducible exact List.mem_cons_self) | apply List.mem_cons_of_mem))); rintro e w' ⟨rfl, ⟨nd, rfl⟩⟩) | (go_at_call 13; (with_reducible refine (laws_eqGraph.calls _ a0 _ _ l0 a0 _ _ l0 _ _ ?c0 ?l0 ?c1 ?l1 HEL0.out).mono ?_); (case c0 => first | exact Kd.C_below HR0.out (below_step HB.out (by repeat (first | (with_reducible first | exact HBX.out | exact Below.refl _ _ | apply below_alloc | apply pw_below_drewN | apply below_drew1 | refine below_set ?_ GX.out) | exact HBX.out))) | exact K.St.readSS (HST.out.below (by repeat (first | (with_reducible first | exact HBX.out | exact Below.refl _ _ | apply below_alloc | apply pw_below_drewN | apply below_drew1 | refine below_set ?_ GX.out) | exact HBX.out))) (by repeat (first | (with_reducible exact List.mem_cons_self) | apply List.mem_cons_of_mem)) | exact K.St.readF (HST.out.below (by repeat (first | (with_reducible first | exact HBX.out | exact Below.refl _ _ | apply below_alloc | apply pw_below_drewN | apply below_drew1 | refine below_set ?_ GX.out) | exact HBX.out))) (by repeat (first | (with_reducible exact List.mem_cons_self) | apply List.mem_cons_of_mem))); (case l0 => first | exact HC0.out | exact K.St.sizeSS (HST.out.below (by repeat (first | (with_reducible first | exact HBX.out | exact Below.refl _ _ | apply below_alloc | apply pw_below_drewN | apply below_drew1 | refine below_set ?_ GX.out) | exact HBX.out))) (by repeat (first | (with_reducible exact List.mem_cons_self) | apply List.mem_cons_of_mem)) | exact K.St.sizeF (HST.out.below (by repeat (first | (with_reducible first | exact HBX.out | exact Below.refl _ _ | apply below_alloc | apply pw_below_drewN | apply below_drew1 | refine below_set ?_ GX.out) | exact HBX.out))) (by repeat (first | (with_reducible exact List.mem_cons_self) | apply List.mem_cons_of_mem))); (case c1 => first | exact Kd.C_below HR0.out (below_step HB.out (by repeat (first | (with_reducible first | exact HBX.out | exact Below.refl _ _ | apply below_alloc | apply pw_below_drewN | apply below_drew1 | refine below_set ?_ GX.out) | exact HBX.out))) | exact K.St.readSS (HST.out.below (by repeat (first | (with_reducible first | exact HBX.out | exact Below.refl _ _ | apply below_alloc | apply pw_below_drewN | apply below_drew1 | refine below_set ?_ GX.out) | exact HBX.out))) (by repeat (first | (with_reducible exact List.mem_cons_self) | apply List.mem_cons_of_mem)) | exact K.St.readF (HST.out.below (by repeat (first | (with_reducible first | exact HBX.out | exact Below.refl _ _ | apply below_alloc | apply pw_below_drewN | apply below_drew1 | refine below_set ?_ GX.out) | exact HBX.out))) (by repeat (first | (with_reducible exact List.mem_cons_self) | apply List.mem_cons_of_mem))); (case l1 => first | exact HC0.out | exact K.St.sizeSS (HST.out.below (by repeat (first | (with_reducible first | exact HBX.out | exact Below.refl _ _ | apply below_alloc | apply pw_below_drewN | apply below_drew1 | refine below_set ?_ GX.out) | exact HBX.out))) (by repeat (first | (with_reducible exact List.mem_cons_self) | apply List.mem_cons_of_mem)) | exact K.St.sizeF (HST.out.below (by repeat (first | (with_reducible first | exact HBX.out | exact Below.refl _ _ | apply below_alloc | apply pw_below_drewN | apply below_drew1 | refine below_set ?_ GX.out) | exact HBX.out))) (by repeat (first | (with_reducible exact List.mem_cons_self) | apply List.mem_cons_of_mem))); rintro e w' ⟨rfl, hb⟩; have n0_ := Aside0.mk ((HST.out.below (by repeat (first | (with_reducible first | exact HBX.out | exact Below.refl _ _ | apply below_alloc | apply pw_below_drewN | apply below_drew1 | refine below_set ?_ GX.out) | exact HBX.out))).below hb); have n1_ := Aside0.mk (below_step (below_step HB.out (by repeat (first | (with_reducible first | exact HBX.out | exact Below.refl _ _ | apply below_alloc | apply pw_below_drewN | apply below_drew1 | refine below_set ?_ GX.out) | exact HBX.out))) hb); clear HST HB hb; have HST := n0_; have HB := n1_; clear n0_ n1_; (try clear hx0 hx1); (try clear hy0 hy1); obtain ⟨hx0, hx1⟩ := K.St.getB (g := w.heap.size) HST.out (by repeat (first | (with_reducible exact List.mem_cons_self) | apply List.mem_cons_of_mem)); (first | (have hq_ : Nat := g1; clear hq_; obtain ⟨hy0, hy1⟩ := K.St.getB (g := g1) HST.out (by repeat (first | (with_reducible exact List.mem_cons_self) | apply List.mem_cons_of_mem))) | skip)) | (go_at_call 16; (with_reducible refine (laws_markGraph.calls _ a0 _ _ l0 _ _ _ w _ (below_step HB.out (by repeat (first | (with_reducible first | exact HBX.out | exact Below.refl _ _ | apply below_alloc | apply pw_below_drewN | apply below_drew1 | refine below_set ?_ GX.out) | exact HBX.out))) (K.St.getF (HST.out.below (by repeat (first | (with_reducible first | exact HBX.out | exact Below.refl _ _ | apply below_alloc | apply pw_below_drewN | apply below_drew1 | refine below_set ?_ GX.out) | exact HBX.out))) (List.mem_cons_of_mem _ (List.mem_cons_of_mem _ (List.mem_cons_of_mem _ List.mem_cons_self)))) HMK0.out).mono ?_); rintro e w' ⟨rfl, hs, hb, hk⟩; have n0_ := (K.St.putF [_, _, _] (HST.out.below (by repeat (first | (with_reducible first | exact HBX.out | exact Below.refl _ _ | apply below_alloc | apply pw_below_drewN | apply below_drew1 | refine below_set ?_ GX.out) | exact HBX.out))) rfl hk hs); simp only [List.cons_append, List.nil_append] at n0_; replace n0_ := Aside0.mk n0_; have n1_ := Aside0.mk hb; clear HST HB hs hb hk; have HST := n0_; have HB := n1_; clear n0_ n1_; (try clear hx0 hx1); (try clear hy0 hy1); obtain ⟨hx0, hx1⟩ := K.St.getB (g := w.heap.size) HST.out (by repeat (first | (with_reducible exact List.mem_cons_self) | apply List.mem_cons_of_mem)); (first | (have hq_ : Nat := g1; clear hq_; obtain ⟨hy0, hy1⟩ := K.St.getB (g := g1) HST.out (by repeat (first | (with_reducible exact List.mem_cons_self) | apply List.mem_cons_of_mem))) | skip)) | (go_at_call 35; (with_reducible refine (laws_markIntSS.calls _ _ w0 _ _ _ w _ (below_step HB.out (by repeat (first | (with_reducible first | exact HBX.out | exact Below.refl _ _ | apply below_alloc | apply pw_below_drewN | apply below_drew1 | refine below_set ?_ GX.out) | exact HBX.out))) (K.St.getSS (HST.out.below (by repeat (first | (with_reducible first | exact HBX.out | exact Below.refl _ _ | apply below_alloc | apply pw_below_drewN | apply below_drew1 | refine below_set ?_ GX.out) | exact HBX.out))) (List.mem_cons_of_mem _ List.mem_cons_self)) HMM0.out).mono ?_); rintro e w' ⟨rfl, hs, hb, hk⟩; have n0_ := (K.St.putSS [_] (HST.out.below (by repeat (first | (with_reducible first | exact HBX.out | exact Below.refl _ _ | apply below_alloc | apply pw_below_drewN | apply below_drew1 | refine below_set ?_ GX.out) | exact HBX.out))) hk hs); simp only [List.cons_append, List.nil_append] at n0_; replace n0_ := Aside0.mk n0_; have n1_ := Aside0.mk hb; clear HST HB hs hb hk; have HST := n0_; have HB := n1_; clear n0_ n1_; (try clear hx0 hx1); (try clear hy0 hy1); obtain ⟨hx0, hx1⟩ := K.St.getB (g := w.heap.size) HST.out (by repeat (first | (with_reducible exact List.mem_cons_self) | apply List.mem_cons_of_mem)); (first | (have hq_ : Nat := g1; clear hq_; obtain ⟨hy0, hy1⟩ := K.St.getB (g := g1) HST.out (by repeat (first | (with_reducible exact List.mem_cons_self) | apply List.mem_cons_of_mem))) | skip)) | (go_at_call 36; (with_reducible refine (K.heldNIntSS _ _ _ w0.length w0' _ _ _ ?c0 ?l0 HH0.out HLEN0.out.symm).mono ?_); (case c0 => first | exact Kd.C_below HR0.out (below_step HB.out (by repeat (first | (with_reducible first | exact HBX.out | exact Below.refl _ _ | apply below_alloc | apply pw_below_drewN | apply below_drew1 | refine below_set ?_ GX.out) | exact HBX.out))) | exact K.St.readSS (HST.out.below (by repeat (first | (with_reducible first | exact HBX.out | exact Below.refl _ _ | apply below_alloc | apply pw_below_drewN | apply below_drew1 | refine below_set ?_ GX.out) | exact HBX.out))) (by repeat (first | (with_reducible exact List.mem_cons_self) | apply List.mem_cons_of_mem)) | exact K.St.readF (HST.out.below (by repeat (first | (with_reducible first | exact HBX.out | exact Below.refl _ _ | apply below_alloc | apply pw_below_drewN | apply below_drew1 | refine below_set ?_ GX.out) | exact HBX.out))) (by repeat (first | (with_reducible exact List.mem_cons_self) | apply List.mem_cons_of_mem))); (case l0 => first | exact HC0.out | exact K.St.sizeSS (HST.out.below (by repeat (first | (with_reducible first | exact HBX.out | exact Below.refl _ _ | apply below_alloc | apply pw_below_drewN | apply below_drew1 | refine below_set ?_ GX.out) | exact HBX.out))) (by repeat (first | (with_reducible exact List.mem_cons_self) | apply List.mem_cons_of_mem)) | exact K.St.sizeF (HST.out.below (by repeat (first | (with_reducible first | exact HBX.out | exact Below.refl _ _ | apply below_alloc | apply pw_below_drewN | apply below_drew1 | refine below_set ?_ GX.out) | exact HBX.out))) (by repeat (first | (with_reducible exact List.mem_cons_self) | apply List.mem_cons_of_mem))); rintro e w' ⟨rfl, ⟨nd, rfl⟩⟩))
    go_region_held3 (fun w' => (w'.cell? ⟨w.heap.size, 0, none⟩ = some (.int .i64 a0) ∧ w'.cell? ⟨w.heap.size, 1, none⟩ = some (.slice A0 l0.length c0)) ∧ (w'.cell? ⟨g1, 0, none⟩ = some (.int .i64 a0) ∧ w'.cell? ⟨g1, 1, none⟩ = some (.slice AX_ l0.length cX_))) (exact ⟨K.St.getB (HST.out.below (by repeat (first | (with_reducible first | exact HBX.out | exact Below.refl _ _ | apply below_alloc | apply pw_below_drewN | apply below_drew1 | refine below_set ?_ GX.out) | exact HBX.out))) (by repeat (first | (with_reducible exact List.mem_cons_self) | apply List.mem_cons_of_mem)), K.St.getB (HST.out.below (by repeat (first | (with_reducible first | exact HBX.out | exact Below.refl _ _ | apply below_alloc | apply pw_below_drewN | apply below_drew1 | refine below_set ?_ GX.out) | exact HBX.out))) (by repeat (first | (with_reducible exact List.mem_cons_self) | apply List.mem_cons_of_mem))⟩) (first | ((with_reducible refine gate_dst (N := 6) rfl ?_); refine box_event ?hg (N := 6) ?hd (cs := #[.int .i64 0, .slice none 0 0]) (t := 27) ?hr ?_; (case hd => rfl); (case hg => rfl); (case hr => first | (go_simp; done) | (go_simp; rfl)); intro g1 hg1 w4 hbox hb; have GX := Aside0.mk (K.St.geBox HST.out (by repeat (first | (with_reducible first | exact HBX.out | exact Below.refl _ _ | apply below_alloc | apply pw_below_drewN | apply below_drew1 | refine below_set ?_ GX.out) | exact HBX.out)) hg1); have HBX := Aside0.mk (K.St.belBox HST.out (by repeat (first | (with_reducible first | exact HBX.out | exact Below.refl _ _ | apply below_alloc | apply pw_below_drewN | apply below_drew1 | refine below_set ?_ GX.out) | exact HBX.out)) hb); have HBOX := Aside0.mk hbox; have hlt := Nat.lt_of_lt_of_le (K.St.bound HST.out (K.obB w.heap.size (.int .i64 a0) (.slice A0 l0.length c0)) (by repeat (first | (with_reducible exact List.mem_cons_self) | apply List.mem_cons_of_mem)) w.heap.size rfl) GX.out; have hnb := Nat.ne_of_gt hlt; have hnc := Nat.ne_of_lt hlt; have hy0 : w4.cell? ⟨g1, 0, none⟩ = some (.int .i64 0) := (blk_cell hbox 0).trans rfl; have hy1 : w4.cell? ⟨g1, 1, none⟩ = some (.slice none 0 0) := (blk_cell hbox 1).trans rfl; have hfz0 := blk_frozen hbox 0; have hfz1 := blk_frozen hbox 1; clear hlt hb hg1 hbox) | (go_at_call 9; (with_reducible refine (laws_szGraph.calls a0 _ _ l0 _ _ _ ?c0 ?l0 HSZ0.out).mono ?_); (case c0 => first | exact Kd.C_below HR0.out (below_step HB.out (by repeat (first | (with_reducible first | exact HBX.out | exact Below.refl _ _ | apply below_alloc | apply pw_below_drewN | apply below_drew1 | refine below_set ?_ GX.out) | exact HBX.out))) | exact K.St.readSS (HST.out.below (by repeat (first | (with_reducible first | exact HBX.out | exact Below.refl _ _ | apply below_alloc | apply pw_below_drewN | apply below_drew1 | refine below_set ?_ GX.out) | exact HBX.out))) (by repeat (first | (with_reducible exact List.mem_cons_self) | apply List.mem_cons_of_mem)) | exact K.St.readF (HST.out.below (by repeat (first | (with_reducible first | exact HBX.out | exact Below.refl _ _ | apply below_alloc | apply pw_below_drewN | apply below_drew1 | refine below_set ?_ GX.out) | exact HBX.out))) (by repeat (first | (with_reducible exact List.mem_cons_self) | apply List.mem_cons_of_mem))); (case l0 => first | exact HC0.out | exact K.St.sizeSS (HST.out.below (by repeat (first | (with_reducible first | exact HBX.out | exact Below.refl _ _ | apply below_alloc | apply pw_below_drewN | apply below_drew1 | refine below_set ?_ GX.out) | exact HBX.out))) (by repeat (first | (with_reducible exact List.mem_cons_self) | apply List.mem_cons_of_mem)) | exact K.St.sizeF (HST.out.below (by repeat (first | (with_reducible first | exact HBX.out | exact Below.refl _ _ | apply below_alloc | apply pw_below_drewN | apply below_drew1 | refine below_set ?_ GX.out) | exact HBX.out))) (by repeat (first | (with_reducible exact List.mem_cons_self) | apply List.mem_cons_of_mem))); rintro e w' ⟨rfl, hb⟩; have n0_ := Aside0.mk ((HST.out.below (by repeat (first | (with_reducible first | exact HBX.out | exact Below.refl _ _ | apply below_alloc | apply pw_below_drewN | apply below_drew1 | refine below_set ?_ GX.out) | exact HBX.out))).below hb); have n1_ := Aside0.mk (below_step (below_step HB.out (by repeat (first | (with_reducible first | exact HBX.out | exact Below.refl _ _ | apply below_alloc | apply pw_below_drewN | apply below_drew1 | refine below_set ?_ GX.out) | exact HBX.out))) hb); clear HST HB hb; have HST := n0_; have HB := n1_; clear n0_ n1_; (try clear hx0 hx1); (try clear hy0 hy1); obtain ⟨hx0, hx1⟩ := K.St.getB (g := w.heap.size) HST.out (by repeat (first | (with_reducible exact List.mem_cons_self) | apply List.mem_cons_of_mem)); (first | (have hq_ : Nat := g1; clear hq_; obtain ⟨hy0, hy1⟩ := K.St.getB (g := g1) HST.out (by repeat (first | (with_reducible exact List.mem_cons_self) | apply List.mem_cons_of_mem))) | skip)) | (go_at_call 11; (with_reducible refine (laws_toGraph.calls _ a0 _ _ l0 _ _ _ ?c0 ?l0 HTO0.out).mono ?_); (case c0 => first | exact Kd.C_below HR0.out (below_step HB.out (by repeat (first | (with_reducible first | exact HBX.out | exact Below.refl _ _ | apply below_alloc | apply pw_below_drewN | apply below_drew1 | refine below_set ?_ GX.out) | exact HBX.out))) | exact K.St.readSS (HST.out.below (by repeat (first | (with_reducible first | exact HBX.out | exact Below.refl _ _ | apply below_alloc | apply pw_below_drewN | apply below_drew1 | refine below_set ?_ GX.out) | exact HBX.out))) (by repeat (first | (with_reducible exact List.mem_cons_self) | apply List.mem_cons_of_mem)) | exact K.St.readF (HST.out.below (by repeat (first | (with_reducible first | exact HBX.out | exact Below.refl _ _ | apply below_alloc | apply pw_below_drewN | apply below_drew1 | refine below_set ?_ GX.out) | exact HBX.out))) (by repeat (first | (with_reducible exact List.mem_cons_self) | apply List.mem_cons_of_mem))); (case l0 => first | exact HC0.out | exact K.St.sizeSS (HST.out.below (by repeat (first | (with_reducible first | exact HBX.out | exact Below.refl _ _ | apply below_alloc | apply pw_below_drewN | apply below_drew1 | refine below_set ?_ GX.out) | exact HBX.out))) (by repeat (first | (with_reducible exact List.mem_cons_self) | apply List.mem_cons_of_mem)) | exact K.St.sizeF (HST.out.below (by repeat (first | (with_reducible first | exact HBX.out | exact Below.refl _ _ | apply below_alloc | apply pw_below_drewN | apply below_drew1 | refine below_set ?_ GX.out) | exact HBX.out))) (by repeat (first | (with_reducible exact List.mem_cons_self) | apply List.mem_cons_of_mem))); rintro e w' ⟨v0, rfl, hs0, hb⟩; obtain ⟨AX_, cX_, rfl, -, -⟩ := Kd.R_reads hs0; have n0_ := Aside0.mk (K.St.pushF (b := w.heap.size) (HST.out.below (by repeat (first | (with_reducible first | exact HBX.out | exact Below.refl _ _ | apply below_alloc | apply pw_below_drewN | apply below_drew1 | refine below_set ?_ GX.out) | exact HBX.out))) hb rfl (below_size (below_step HB.out (by repeat (first | (with_reducible first | exact HBX.out | exact Below.refl _ _ | apply below_alloc | apply pw_below_drewN | apply below_drew1 | refine below_set ?_ GX.out) | exact HBX.out)))) hs0); have n1_ := Aside0.mk (below_step (below_step HB.out (by repeat (first | (with_reducible first | exact HBX.out | exact Below.refl _ _ | apply below_alloc | apply pw_below_drewN | apply below_drew1 | refine below_set ?_ GX.out) | exact HBX.out))) hb); clear HST HB hs0 hb; have HST := n0_; have HB := n1_; clear n0_ n1_; (try clear hx0 hx1); (try clear hy0 hy1); obtain ⟨hx0, hx1⟩ := K.St.getB (g := w.heap.size) HST.out (by repeat (first | (with_reducible exact List.mem_cons_self) | apply List.mem_cons_of_mem)); (first | (have hq_ : Nat := g1; clear hq_; obtain ⟨hy0, hy1⟩ := K.St.getB (g := g1) HST.out (by repeat (first | (with_reducible exact List.mem_cons_self) | apply List.mem_cons_of_mem))) | skip)) | (go_at_call 32; (with_reducible refine (spec_EdgeSwitches.calls _ a0 _ _ l0 _ _ _ ?c0 ?l0 HSP.out).mono ?_); (case c0 => first | exact Kd.C_below HR0.out (below_step HB.out (by repeat (first | (with_reducible first | exact HBX.out | exact Below.refl _ _ | apply below_alloc | apply pw_below_drewN | apply below_drew1 | refine below_set ?_ GX.out) | exact HBX.out))) | exact K.St.readSS (HST.out.below (by repeat (first | (with_reducible first | exact HBX.out | exact Below.refl _ _ | apply below_alloc | apply pw_below_drewN | apply below_drew1 | refine below_set ?_ GX.out) | exact HBX.out))) (by repeat (first | (with_reducible exact List.mem_cons_self) | apply List.mem_cons_of_mem)) | exact K.St.readF (HST.out.below (by repeat (first | (with_reducible first | exact HBX.out | exact Below.refl _ _ | apply below_alloc | apply pw_below_drewN | apply below_drew1 | refine below_set ?_ GX.out) | exact HBX.out))) (by repeat (first | (with_reducible exact List.mem_cons_self) | apply List.mem_cons_of_mem))); (case l0 => first | exact HC0.out | exact K.St.sizeSS (HST.out.below (by repeat (first | (with_reducible first | exact HBX.out | exact Below.refl _ _ | apply below_alloc | apply pw_below_drewN | apply below_drew1 | refine below_set ?_ GX.out) | exact HBX.out))) (by repeat (first | (with_reducible exact List.mem_cons_self) | apply List.mem_cons_of_mem)) | exact K.St.sizeF (HST.out.below (by repeat (first | (with_reducible first | exact HBX.out | exact Below.refl _ _ | apply below_alloc | apply pw_below_drewN | apply below_drew1 | refine below_set ?_ GX.out) | exact HBX.out))) (by repeat (first | (with_reducible exact List.mem_cons_self) | apply List.mem_cons_of_mem))); rintro e w' ⟨v0, rfl, hs0, hb⟩; obtain ⟨A0_, c0_, rfl, -, -⟩ := Kd.S_reads hs0; obtain ⟨S1_, n0_⟩ := K.St.pushSS (b := w.heap.size) (HST.out.below (by repeat (first | (with_reducible first | exact HBX.out | exact Below.refl _ _ | apply below_alloc | apply pw_below_drewN | apply below_drew1 | refine below_set ?_ GX.out) | exact HBX.out))) hb (below_size (below_step HB.out (by repeat (first | (with_reducible first | exact HBX.out | exact Below.refl _ _ | apply below_alloc | apply pw_below_drewN | apply below_drew1 | refine below_set ?_ GX.out) | exact HBX.out)))) hs0; replace n0_ := Aside0.mk n0_; have n1_ := Aside0.mk (below_step (below_step HB.out (by repeat (first | (with_reducible first | exact HBX.out | exact Below.refl _ _ | apply below_alloc | apply pw_below_drewN | apply below_drew1 | refine below_set ?_ GX.out) | exact HBX.out))) hb); clear HST HB hs0 hb; have HST := n0_; have HB := n1_; clear n0_ n1_; (try clear hx0 hx1); (try clear hy0 hy1); obtain ⟨hx0, hx1⟩ := K.St.getB (g := w.heap.size) HST.out (by repeat (first | (with_reducible exact List.mem_cons_self) | apply List.mem_cons_of_mem)); (first | (have hq_ : Nat := g1; clear hq_; obtain ⟨hy0, hy1⟩ := K.St.getB (g := g1) HST.out (by repeat (first | (with_reducible exact List.mem_cons_self) | apply List.mem_cons_of_mem))) | skip)) | (go_at_call 33; (with_reducible refine (impl_EdgeSwitches.calls _ a0 _ _ l0 _ _ _ ?sideT ?c0 ?l0 HIM.out).mono ?_); (case sideT => exact HT.out.below (below_step HB.out (by repeat (first | (with_reducible first | exact HBX.out | exact Below.refl _ _ | apply below_alloc | apply pw_below_drewN | apply below_drew1 | refine below_set ?_ GX.out) | exact HBX.out)))); (case c0 => first | exact Kd.C_below HR0.out (below_step HB.out (by repeat (first | (with_reducible first | exact HBX.out | exact Below.refl _ _ | apply below_alloc | apply pw_below_drewN | apply below_drew1 | refine below_set ?_ GX.out) | exact HBX.out))) | exact K.St.readSS (HST.out.below (by repeat (first | (with_reducible first | exact HBX.out | exact Below.refl _ _ | apply below_alloc | apply pw_below_drewN | apply below_drew1 | refine below_set ?_ GX.out) | exact HBX.out))) (by repeat (first | (with_reducible exact List.mem_cons_self) | apply List.mem_cons_of_mem)) | exact K.St.readF (HST.out.below (by repeat (first | (with_reducible first | exact HBX.out | exact Below.refl _ _ | apply below_alloc | apply pw_below_drewN | apply below_drew1 | refine below_set ?_ GX.out) | exact HBX.out))) (by repeat (first | (with_reducible exact List.mem_cons_self) | apply List.mem_cons_of_mem))); (case l0 => first | exact HC0.out | exact K.St.sizeSS (HST.out.below (by repeat (first | (with_reducible first | exact HBX.out | exact Below.refl _ _ | apply below_alloc | apply pw_below_drewN | apply below_drew1 | refine below_set ?_ GX.out) | exact HBX.out))) (by repeat (first | (with_reducible exact List.mem_cons_self) | apply List.mem_cons_of_mem)) | exact K.St.sizeF (HST.out.below (by repeat (first | (with_reducible first | exact HBX.out | exact Below.refl _ _ | apply below_alloc | apply pw_below_drewN | apply below_drew1 | refine below_set ?_ GX.out) | exact HBX.out))) (by repeat (first | (with_reducible exact List.mem_cons_self) | apply List.mem_cons_of_mem))); rintro e w' ⟨v0, rfl, hs0, hb⟩; have n2_ := Aside0.mk (K.St.pushBoxB (t := 27) (u0 := .int .i64 a0) (u1 := .slice AX_ l0.length cX_) hb HST.out (by repeat (first | (with_reducible first | exact HBX.out | exact Below.refl _ _ | apply below_alloc | apply pw_below_drewN | apply below_drew1 | refine below_set ?_ GX.out) | exact HBX.out)) GX.out (by (with_reducible repeat (first | refine blk_drewN ?_ _ | refine blk_drew ?_ | refine blk_alloc ?_ _)); refine blk_put (cs := #[.int .i64 a0, .slice none 0 0]) ?_ 1 _ rfl; (with_reducible repeat (first | refine blk_drewN ?_ _ | refine blk_drew ?_ | refine blk_alloc ?_ _)); refine blk_put (cs := #[.int .i64 0, .slice none 0 0]) ?_ 0 _ rfl; (with_reducible repeat (first | refine blk_drewN ?_ _ | refine blk_drew ?_ | refine blk_alloc ?_ _)); exact HBOX.out)); clear HST; have HST := n2_; clear n2_; obtain ⟨A0_, c0_, rfl, -, -⟩ := Kd.S_reads hs0; obtain ⟨S1_, n0_⟩ := K.St.pushSS (b := w.heap.size) (HST.out.below (by repeat (first | (with_reducible first | exact HBX.out | exact Below.refl _ _ | apply below_alloc | apply pw_below_drewN | apply below_drew1 | refine below_set ?_ GX.out) | exact HBX.out))) hb (below_size (below_step HB.out (by repeat (first | (with_reducible first | exact HBX.out | exact Below.refl _ _ | apply below_alloc | apply pw_below_drewN | apply below_drew1 | refine below_set ?_ GX.out) | exact HBX.out)))) hs0; replace n0_ := Aside0.mk n0_; have n1_ := Aside0.mk (below_step (below_step HB.out (by repeat (first | (with_reducible first | exact HBX.out | exact Below.refl _ _ | apply below_alloc | apply pw_below_drewN | apply below_drew1 | refine below_set ?_ GX.out) | exact HBX.out))) hb); clear HST HB hs0 hb; have HST := n0_; have HB := n1_; clear n0_ n1_; (try clear hx0 hx1); (try clear hy0 hy1); obtain ⟨hx0, hx1⟩ := K.St.getB (g := w.heap.size) HST.out (by repeat (first | (with_reducible exact List.mem_cons_self) | apply List.mem_cons_of_mem)); (first | (have hq_ : Nat := g1; clear hq_; obtain ⟨hy0, hy1⟩ := K.St.getB (g := g1) HST.out (by repeat (first | (with_reducible exact List.mem_cons_self) | apply List.mem_cons_of_mem))) | skip); clear HBX GX HBOX) | (go_at_call 33; (with_reducible refine (impl_EdgeSwitches.calls _ a0 _ _ l0 _ _ _ ?sideT ?c0 ?l0 HIM.out).mono ?_); (case sideT => exact HT.out.below (below_step HB.out (by repeat (first | (with_reducible first | exact HBX.out | exact Below.refl _ _ | apply below_alloc | apply pw_below_drewN | apply below_drew1 | refine below_set ?_ GX.out) | exact HBX.out)))); (case c0 => first | exact Kd.C_below HR0.out (below_step HB.out (by repeat (first | (with_reducible first | exact HBX.out | exact Below.refl _ _ | apply below_alloc | apply pw_below_drewN | apply below_drew1 | refine below_set ?_ GX.out) | exact HBX.out))) | exact K.St.readSS (HST.out.below (by repeat (first | (with_reducible first | exact HBX.out | exact Below.refl _ _ | apply below_alloc | apply pw_below_drewN | apply below_drew1 | refine below_set ?_ GX.out) | exact HBX.out))) (by repeat (first | (with_reducible exact List.mem_cons_self) | apply List.mem_cons_of_mem)) | exact K.St.readF (HST.out.below (by repeat (first | (with_reducible first | exact HBX.out | exact Below.refl _ _ | apply below_alloc | apply pw_below_drewN | apply below_drew1 | refine below_set ?_ GX.out) | exact HBX.out))) (by repeat (first | (with_reducible exact List.mem_cons_self) | apply List.mem_cons_of_mem))); (case l0 => first | exact HC0.out | exact K.St.sizeSS (HST.out.below (by repeat (first | (with_reducible first | exact HBX.out | exact Below.refl _ _ | apply below_alloc | apply pw_below_drewN | apply below_drew1 | refine below_set ?_ GX.out) | exact HBX.out))) (by repeat (first | (with_reducible exact List.mem_cons_self) | apply List.mem_cons_of_mem)) | exact K.St.sizeF (HST.out.below (by repeat (first | (with_reducible first | exact HBX.out | exact Below.refl _ _ | apply below_alloc | apply pw_below_drewN | apply below_drew1 | refine below_set ?_ GX.out) | exact HBX.out))) (by repeat (first | (with_reducible exact List.mem_cons_self) | apply List.mem_cons_of_mem))); rintro e w' ⟨v0, rfl, hs0, hb⟩; obtain ⟨A0_, c0_, rfl, -, -⟩ := Kd.S_reads hs0; obtain ⟨S1_, n0_⟩ := K.St.pushSS (b := w.heap.size) (HST.out.below (by repeat (first | (with_reducible first | exact HBX.out | exact Below.refl _ _ | apply below_alloc | apply pw_below_drewN | apply below_drew1 | refine below_set ?_ GX.out) | exact HBX.out))) hb (below_size (below_step HB.out (by repeat (first | (with_reducible first | exact HBX.out | exact Below.refl _ _ | apply below_alloc | apply pw_below_drewN | apply below_drew1 | refine below_set ?_ GX.out) | exact HBX.out)))) hs0; replace n0_ := Aside0.mk n0_; have n1_ := Aside0.mk (below_step (below_step HB.out (by repeat (first | (with_reducible first | exact HBX.out | exact Below.refl _ _ | apply below_alloc | apply pw_below_drewN | apply below_drew1 | refine below_set ?_ GX.out) | exact HBX.out))) hb); clear HST HB hs0 hb; have HST := n0_; have HB := n1_; clear n0_ n1_; (try clear hx0 hx1); (try clear hy0 hy1); obtain ⟨hx0, hx1⟩ := K.St.getB (g := w.heap.size) HST.out (by repeat (first | (with_reducible exact List.mem_cons_self) | apply List.mem_cons_of_mem)); (first | (have hq_ : Nat := g1; clear hq_; obtain ⟨hy0, hy1⟩ := K.St.getB (g := g1) HST.out (by repeat (first | (with_reducible exact List.mem_cons_self) | apply List.mem_cons_of_mem))) | skip)) | (go_at_call 34; (with_reducible refine (laws_eqIntSS.calls _ _ _ w0 _ _ w0 _ _ ?c0 ?l0 ?c1 ?l1 HEW0.out).mono ?_); (case c0 => first | exact Kd.C_below HR0.out (below_step HB.out (by repeat (first | (with_reducible first | exact HBX.out | exact Below.refl _ _ | apply below_alloc | apply pw_below_drewN | apply below_drew1 | refine below_set ?_ GX.out) | exact HBX.out))) | exact K.St.readSS (HST.out.below (by repeat (first | (with_reducible first | exact HBX.out | exact Below.refl _ _ | apply below_alloc | apply pw_below_drewN | apply below_drew1 | refine below_set ?_ GX.out) | exact HBX.out))) (by repeat (first | (with_reducible exact List.mem_cons_self) | apply List.mem_cons_of_mem)) | exact K.St.readF (HST.out.below (by repeat (first | (with_reducible first | exact HBX.out | exact Below.refl _ _ | apply below_alloc | apply pw_below_drewN | apply below_drew1 | refine below_set ?_ GX.out) | exact HBX.out))) (by repeat (first | (with_reducible exact List.mem_cons_self) | apply List.mem_cons_of_mem))); (case l0 => first | exact HC0.out | exact K.St.sizeSS (HST.out.below (by repeat (first | (with_reducible first | exact HBX.out | exact Below.refl _ _ | apply below_alloc | apply pw_below_drewN | apply below_drew1 | refine below_set ?_ GX.out) | exact HBX.out))) (by repeat (first | (with_reducible exact List.mem_cons_self) | apply List.mem_cons_of_mem)) | exact K.St.sizeF (HST.out.below (by repeat (first | (with_reducible first | exact HBX.out | exact Below.refl _ _ | apply below_alloc | apply pw_below_drewN | apply below_drew1 | refine below_set ?_ GX.out) | exact HBX.out))) (by repeat (first | (with_reducible exact List.mem_cons_self) | apply List.mem_cons_of_mem))); (case c1 => first | exact Kd.C_below HR0.out (below_step HB.out (by repeat (first | (with_reducible first | exact HBX.out | exact Below.refl _ _ | apply below_alloc | apply pw_below_drewN | apply below_drew1 | refine below_set ?_ GX.out) | exact HBX.out))) | exact K.St.readSS (HST.out.below (by repeat (first | (with_reducible first | exact HBX.out | exact Below.refl _ _ | apply below_alloc | apply pw_below_drewN | apply below_drew1 | refine below_set ?_ GX.out) | exact HBX.out))) (by repeat (first | (with_reducible exact List.mem_cons_self) | apply List.mem_cons_of_mem)) | exact K.St.readF (HST.out.below (by repeat (first | (with_reducible first | exact HBX.out | exact Below.refl _ _ | apply below_alloc | apply pw_below_drewN | apply below_drew1 | refine below_set ?_ GX.out) | exact HBX.out))) (by repeat (first | (with_reducible exact List.mem_cons_self) | apply List.mem_cons_of_mem))); (case l1 => first | exact HC0.out | exact K.St.sizeSS (HST.out.below (by repeat (first | (with_reducible first | exact HBX.out | exact Below.refl _ _ | apply below_alloc | apply pw_below_drewN | apply below_drew1 | refine below_set ?_ GX.out) | exact HBX.out))) (by repeat (first | (with_reducible exact List.mem_cons_self) | apply List.mem_cons_of_mem)) | exact K.St.sizeF (HST.out.below (by repeat (first | (with_reducible first | exact HBX.out | exact Below.refl _ _ | apply below_alloc | apply pw_below_drewN | apply below_drew1 | refine below_set ?_ GX.out) | exact HBX.out))) (by repeat (first | (with_reducible exact List.mem_cons_self) | apply List.mem_cons_of_mem))); rintro e w' ⟨rfl, ⟨nd, rfl⟩⟩) | (go_at_call 13; (with_reducible refine (laws_eqGraph.calls _ a0 _ _ l0 a0 _ _ l0 _ _ ?c0 ?l0 ?c1 ?l1 HEL0.out).mono ?_); (case c0 => first | exact Kd.C_below HR0.out (below_step HB.out (by repeat (first | (with_reducible first | exact HBX.out | exact Below.refl _ _ | apply below_alloc | apply pw_below_drewN | apply below_drew1 | refine below_set ?_ GX.out) | exact HBX.out))) | exact K.St.readSS (HST.out.below (by repeat (first | (with_reducible first | exact HBX.out | exact Below.refl _ _ | apply below_alloc | apply pw_below_drewN | apply below_drew1 | refine below_set ?_ GX.out) | exact HBX.out))) (by repeat (first | (with_reducible exact List.mem_cons_self) | apply List.mem_cons_of_mem)) | exact K.St.readF (HST.out.below (by repeat (first | (with_reducible first | exact HBX.out | exact Below.refl _ _ | apply below_alloc | apply pw_below_drewN | apply below_drew1 | refine below_set ?_ GX.out) | exact HBX.out))) (by repeat (first | (with_reducible exact List.mem_cons_self) | apply List.mem_cons_of_mem))); (case l0 => first | exact HC0.out | exact K.St.sizeSS (HST.out.below (by repeat (first | (with_reducible first | exact HBX.out | exact Below.refl _ _ | apply below_alloc | apply pw_below_drewN | apply below_drew1 | refine below_set ?_ GX.out) | exact HBX.out))) (by repeat (first | (with_reducible exact List.mem_cons_self) | apply List.mem_cons_of_mem)) | exact K.St.sizeF (HST.out.below (by repeat (first | (with_reducible first | exact HBX.out | exact Below.refl _ _ | apply below_alloc | apply pw_below_drewN | apply below_drew1 | refine below_set ?_ GX.out) | exact HBX.out))) (by repeat (first | (with_reducible exact List.mem_cons_self) | apply List.mem_cons_of_mem))); (case c1 => first | exact Kd.C_below HR0.out (below_step HB.out (by repeat (first | (with_reducible first | exact HBX.out | exact Below.refl _ _ | apply below_alloc | apply pw_below_drewN | apply below_drew1 | refine below_set ?_ GX.out) | exact HBX.out))) | exact K.St.readSS (HST.out.below (by repeat (first | (with_reducible first | exact HBX.out | exact Below.refl _ _ | apply below_alloc | apply pw_below_drewN | apply below_drew1 | refine below_set ?_ GX.out) | exact HBX.out))) (by repeat (first | (with_reducible exact List.mem_cons_self) | apply List.mem_cons_of_mem)) | exact K.St.readF (HST.out.below (by repeat (first | (with_reducible first | exact HBX.out | exact Below.refl _ _ | apply below_alloc | apply pw_below_drewN | apply below_drew1 | refine below_set ?_ GX.out) | exact HBX.out))) (by repeat (first | (with_reducible exact List.mem_cons_self) | apply List.mem_cons_of_mem))); (case l1 => first | exact HC0.out | exact K.St.sizeSS (HST.out.below (by repeat (first | (with_reducible first | exact HBX.out | exact Below.refl _ _ | apply below_alloc | apply pw_below_drewN | apply below_drew1 | refine below_set ?_ GX.out) | exact HBX.out))) (by repeat (first | (with_reducible exact List.mem_cons_self) | apply List.mem_cons_of_mem)) | exact K.St.sizeF (HST.out.below (by repeat (first | (with_reducible first | exact HBX.out | exact Below.refl _ _ | apply below_alloc | apply pw_below_drewN | apply below_drew1 | refine below_set ?_ GX.out) | exact HBX.out))) (by repeat (first | (with_reducible exact List.mem_cons_self) | apply List.mem_cons_of_mem))); rintro e w' ⟨rfl, hb⟩; have n0_ := Aside0.mk ((HST.out.below (by repeat (first | (with_reducible first | exact HBX.out | exact Below.refl _ _ | apply below_alloc | apply pw_below_drewN | apply below_drew1 | refine below_set ?_ GX.out) | exact HBX.out))).below hb); have n1_ := Aside0.mk (below_step (below_step HB.out (by repeat (first | (with_reducible first | exact HBX.out | exact Below.refl _ _ | apply below_alloc | apply pw_below_drewN | apply below_drew1 | refine below_set ?_ GX.out) | exact HBX.out))) hb); clear HST HB hb; have HST := n0_; have HB := n1_; clear n0_ n1_; (try clear hx0 hx1); (try clear hy0 hy1); obtain ⟨hx0, hx1⟩ := K.St.getB (g := w.heap.size) HST.out (by repeat (first | (with_reducible exact List.mem_cons_self) | apply List.mem_cons_of_mem)); (first | (have hq_ : Nat := g1; clear hq_; obtain ⟨hy0, hy1⟩ := K.St.getB (g := g1) HST.out (by repeat (first | (with_reducible exact List.mem_cons_self) | apply List.mem_cons_of_mem))) | skip)) | (go_at_call 16; (with_reducible refine (laws_markGraph.calls _ a0 _ _ l0 _ _ _ w _ (below_step HB.out (by repeat (first | (with_reducible first | exact HBX.out | exact Below.refl _ _ | apply below_alloc | apply pw_below_drewN | apply below_drew1 | refine below_set ?_ GX.out) | exact HBX.out))) (K.St.getF (HST.out.below (by repeat (first | (with_reducible first | exact HBX.out | exact Below.refl _ _ | apply below_alloc | apply pw_below_drewN | apply below_drew1 | refine below_set ?_ GX.out) | exact HBX.out))) (List.mem_cons_of_mem _ (List.mem_cons_of_mem _ (List.mem_cons_of_mem _ List.mem_cons_self)))) HMK0.out).mono ?_); rintro e w' ⟨rfl, hs, hb, hk⟩; have n0_ := (K.St.putF [_, _, _] (HST.out.below (by repeat (first | (with_reducible first | exact HBX.out | exact Below.refl _ _ | apply below_alloc | apply pw_below_drewN | apply below_drew1 | refine below_set ?_ GX.out) | exact HBX.out))) rfl hk hs); simp only [List.cons_append, List.nil_append] at n0_; replace n0_ := Aside0.mk n0_; have n1_ := Aside0.mk hb; clear HST HB hs hb hk; have HST := n0_; have HB := n1_; clear n0_ n1_; (try clear hx0 hx1); (try clear hy0 hy1); obtain ⟨hx0, hx1⟩ := K.St.getB (g := w.heap.size) HST.out (by repeat (first | (with_reducible exact List.mem_cons_self) | apply List.mem_cons_of_mem)); (first | (have hq_ : Nat := g1; clear hq_; obtain ⟨hy0, hy1⟩ := K.St.getB (g := g1) HST.out (by repeat (first | (with_reducible exact List.mem_cons_self) | apply List.mem_cons_of_mem))) | skip)) | (go_at_call 35; (with_reducible refine (laws_markIntSS.calls _ _ w0 _ _ _ w _ (below_step HB.out (by repeat (first | (with_reducible first | exact HBX.out | exact Below.refl _ _ | apply below_alloc | apply pw_below_drewN | apply below_drew1 | refine below_set ?_ GX.out) | exact HBX.out))) (K.St.getSS (HST.out.below (by repeat (first | (with_reducible first | exact HBX.out | exact Below.refl _ _ | apply below_alloc | apply pw_below_drewN | apply below_drew1 | refine below_set ?_ GX.out) | exact HBX.out))) (List.mem_cons_of_mem _ List.mem_cons_self)) HMM0.out).mono ?_); rintro e w' ⟨rfl, hs, hb, hk⟩; have n0_ := (K.St.putSS [_] (HST.out.below (by repeat (first | (with_reducible first | exact HBX.out | exact Below.refl _ _ | apply below_alloc | apply pw_below_drewN | apply below_drew1 | refine below_set ?_ GX.out) | exact HBX.out))) hk hs); simp only [List.cons_append, List.nil_append] at n0_; replace n0_ := Aside0.mk n0_; have n1_ := Aside0.mk hb; clear HST HB hs hb hk; have HST := n0_; have HB := n1_; clear n0_ n1_; (try clear hx0 hx1); (try clear hy0 hy1); obtain ⟨hx0, hx1⟩ := K.St.getB (g := w.heap.size) HST.out (by repeat (first | (with_reducible exact List.mem_cons_self) | apply List.mem_cons_of_mem)); (first | (have hq_ : Nat := g1; clear hq_; obtain ⟨hy0, hy1⟩ := K.St.getB (g := g1) HST.out (by repeat (first | (with_reducible exact List.mem_cons_self) | apply List.mem_cons_of_mem))) | skip)) | (go_at_call 36; (with_reducible refine (K.heldNIntSS _ _ _ w0.length w0' _ _ _ ?c0 ?l0 HH0.out HLEN0.out.symm).mono ?_); (case c0 => first | exact Kd.C_below HR0.out (below_step HB.out (by repeat (first | (with_reducible first | exact HBX.out | exact Below.refl _ _ | apply below_alloc | apply pw_below_drewN | apply below_drew1 | refine below_set ?_ GX.out) | exact HBX.out))) | exact K.St.readSS (HST.out.below (by repeat (first | (with_reducible first | exact HBX.out | exact Below.refl _ _ | apply below_alloc | apply pw_below_drewN | apply below_drew1 | refine below_set ?_ GX.out) | exact HBX.out))) (by repeat (first | (with_reducible exact List.mem_cons_self) | apply List.mem_cons_of_mem)) | exact K.St.readF (HST.out.below (by repeat (first | (with_reducible first | exact HBX.out | exact Below.refl _ _ | apply below_alloc | apply pw_below_drewN | apply below_drew1 | refine below_set ?_ GX.out) | exact HBX.out))) (by repeat (first | (with_reducible exact List.mem_cons_self) | apply List.mem_cons_of_mem))); (case l0 => first | exact HC0.out | exact K.St.sizeSS (HST.out.below (by repeat (first | (with_reducible first | exact HBX.out | exact Below.refl _ _ | apply below_alloc | apply pw_below_drewN | apply below_drew1 | refine below_set ?_ GX.out) | exact HBX.out))) (by repeat (first | (with_reducible exact List.mem_cons_self) | apply List.mem_cons_of_mem)) | exact K.St.sizeF (HST.out.below (by repeat (first | (with_reducible first | exact HBX.out | exact Below.refl _ _ | apply below_alloc | apply pw_below_drewN | apply below_drew1 | refine below_set ?_ GX.out) | exact HBX.out))) (by repeat (first | (with_reducible exact List.mem_cons_self) | apply List.mem_cons_of_mem))); rintro e w' ⟨rfl, ⟨nd, rfl⟩⟩))
    all_goals (go_wp2_with (first | ((with_reducible refine gate_dst (N := 6) rfl ?_); refine box_event ?hg (N := 6) ?hd (cs := #[.int .i64 0, .slice none 0 0]) (t := 27) ?hr ?_; (case hd => rfl); (case hg => rfl); (case hr => first | (go_simp; done) | (go_simp; rfl)); intro g1 hg1 w4 hbox hb; have GX := Aside0.mk (K.St.geBox HST.out (by repeat (first | (with_reducible first | exact HBX.out | exact Below.refl _ _ | apply below_alloc | apply pw_below_drewN | apply below_drew1 | refine below_set ?_ GX.out) | exact HBX.out)) hg1); have HBX := Aside0.mk (K.St.belBox HST.out (by repeat (first | (with_reducible first | exact HBX.out | exact Below.refl _ _ | apply below_alloc | apply pw_below_drewN | apply below_drew1 | refine below_set ?_ GX.out) | exact HBX.out)) hb); have HBOX := Aside0.mk hbox; have hlt := Nat.lt_of_lt_of_le (K.St.bound HST.out (K.obB w.heap.size (.int .i64 a0) (.slice A0 l0.length c0)) (by repeat (first | (with_reducible exact List.mem_cons_self) | apply List.mem_cons_of_mem)) w.heap.size rfl) GX.out; have hnb := Nat.ne_of_gt hlt; have hnc := Nat.ne_of_lt hlt; have hy0 : w4.cell? ⟨g1, 0, none⟩ = some (.int .i64 0) := (blk_cell hbox 0).trans rfl; have hy1 : w4.cell? ⟨g1, 1, none⟩ = some (.slice none 0 0) := (blk_cell hbox 1).trans rfl; have hfz0 := blk_frozen hbox 0; have hfz1 := blk_frozen hbox 1; clear hlt hb hg1 hbox) | (go_at_call 9; (with_reducible refine (laws_szGraph.calls a0 _ _ l0 _ _ _ ?c0 ?l0 HSZ0.out).mono ?_); (case c0 => first | exact Kd.C_below HR0.out (below_step HB.out (by repeat (first | (with_reducible first | exact HBX.out | exact Below.refl _ _ | apply below_alloc | apply pw_below_drewN | apply below_drew1 | refine below_set ?_ GX.out) | exact HBX.out))) | exact K.St.readSS (HST.out.below (by repeat (first | (with_reducible first | exact HBX.out | exact Below.refl _ _ | apply below_alloc | apply pw_below_drewN | apply below_drew1 | refine below_set ?_ GX.out) | exact HBX.out))) (by repeat (first | (with_reducible exact List.mem_cons_self) | apply List.mem_cons_of_mem)) | exact K.St.readF (HST.out.below (by repeat (first | (with_reducible first | exact HBX.out | exact Below.refl _ _ | apply below_alloc | apply pw_below_drewN | apply below_drew1 | refine below_set ?_ GX.out) | exact HBX.out))) (by repeat (first | (with_reducible exact List.mem_cons_self) | apply List.mem_cons_of_mem))); (case l0 => first | exact HC0.out | exact K.St.sizeSS (HST.out.below (by repeat (first | (with_reducible first | exact HBX.out | exact Below.refl _ _ | apply below_alloc | apply pw_below_drewN | apply below_drew1 | refine below_set ?_ GX.out) | exact HBX.out))) (by repeat (first | (with_reducible exact List.mem_cons_self) | apply List.mem_cons_of_mem)) | exact K.St.sizeF (HST.out.below (by repeat (first | (with_reducible first | exact HBX.out | exact Below.refl _ _ | apply below_alloc | apply pw_below_drewN | apply below_drew1 | refine below_set ?_ GX.out) | exact HBX.out))) (by repeat (first | (with_reducible exact List.mem_cons_self) | apply List.mem_cons_of_mem))); rintro e w' ⟨rfl, hb⟩; have n0_ := Aside0.mk ((HST.out.below (by repeat (first | (with_reducible first | exact HBX.out | exact Below.refl _ _ | apply below_alloc | apply pw_below_drewN | apply below_drew1 | refine below_set ?_ GX.out) | exact HBX.out))).below hb); have n1_ := Aside0.mk (below_step (below_step HB.out (by repeat (first | (with_reducible first | exact HBX.out | exact Below.refl _ _ | apply below_alloc | apply pw_below_drewN | apply below_drew1 | refine below_set ?_ GX.out) | exact HBX.out))) hb); clear HST HB hb; have HST := n0_; have HB := n1_; clear n0_ n1_; (try clear hx0 hx1); (try clear hy0 hy1); obtain ⟨hx0, hx1⟩ := K.St.getB (g := w.heap.size) HST.out (by repeat (first | (with_reducible exact List.mem_cons_self) | apply List.mem_cons_of_mem)); (first | (have hq_ : Nat := g1; clear hq_; obtain ⟨hy0, hy1⟩ := K.St.getB (g := g1) HST.out (by repeat (first | (with_reducible exact List.mem_cons_self) | apply List.mem_cons_of_mem))) | skip)) | (go_at_call 11; (with_reducible refine (laws_toGraph.calls _ a0 _ _ l0 _ _ _ ?c0 ?l0 HTO0.out).mono ?_); (case c0 => first | exact Kd.C_below HR0.out (below_step HB.out (by repeat (first | (with_reducible first | exact HBX.out | exact Below.refl _ _ | apply below_alloc | apply pw_below_drewN | apply below_drew1 | refine below_set ?_ GX.out) | exact HBX.out))) | exact K.St.readSS (HST.out.below (by repeat (first | (with_reducible first | exact HBX.out | exact Below.refl _ _ | apply below_alloc | apply pw_below_drewN | apply below_drew1 | refine below_set ?_ GX.out) | exact HBX.out))) (by repeat (first | (with_reducible exact List.mem_cons_self) | apply List.mem_cons_of_mem)) | exact K.St.readF (HST.out.below (by repeat (first | (with_reducible first | exact HBX.out | exact Below.refl _ _ | apply below_alloc | apply pw_below_drewN | apply below_drew1 | refine below_set ?_ GX.out) | exact HBX.out))) (by repeat (first | (with_reducible exact List.mem_cons_self) | apply List.mem_cons_of_mem))); (case l0 => first | exact HC0.out | exact K.St.sizeSS (HST.out.below (by repeat (first | (with_reducible first | exact HBX.out | exact Below.refl _ _ | apply below_alloc | apply pw_below_drewN | apply below_drew1 | refine below_set ?_ GX.out) | exact HBX.out))) (by repeat (first | (with_reducible exact List.mem_cons_self) | apply List.mem_cons_of_mem)) | exact K.St.sizeF (HST.out.below (by repeat (first | (with_reducible first | exact HBX.out | exact Below.refl _ _ | apply below_alloc | apply pw_below_drewN | apply below_drew1 | refine below_set ?_ GX.out) | exact HBX.out))) (by repeat (first | (with_reducible exact List.mem_cons_self) | apply List.mem_cons_of_mem))); rintro e w' ⟨v0, rfl, hs0, hb⟩; obtain ⟨AX_, cX_, rfl, -, -⟩ := Kd.R_reads hs0; have n0_ := Aside0.mk (K.St.pushF (b := w.heap.size) (HST.out.below (by repeat (first | (with_reducible first | exact HBX.out | exact Below.refl _ _ | apply below_alloc | apply pw_below_drewN | apply below_drew1 | refine below_set ?_ GX.out) | exact HBX.out))) hb rfl (below_size (below_step HB.out (by repeat (first | (with_reducible first | exact HBX.out | exact Below.refl _ _ | apply below_alloc | apply pw_below_drewN | apply below_drew1 | refine below_set ?_ GX.out) | exact HBX.out)))) hs0); have n1_ := Aside0.mk (below_step (below_step HB.out (by repeat (first | (with_reducible first | exact HBX.out | exact Below.refl _ _ | apply below_alloc | apply pw_below_drewN | apply below_drew1 | refine below_set ?_ GX.out) | exact HBX.out))) hb); clear HST HB hs0 hb; have HST := n0_; have HB := n1_; clear n0_ n1_; (try clear hx0 hx1); (try clear hy0 hy1); obtain ⟨hx0, hx1⟩ := K.St.getB (g := w.heap.size) HST.out (by repeat (first | (with_reducible exact List.mem_cons_self) | apply List.mem_cons_of_mem)); (first | (have hq_ : Nat := g1; clear hq_; obtain ⟨hy0, hy1⟩ := K.St.getB (g := g1) HST.out (by repeat (first | (with_reducible exact List.mem_cons_self) | apply List.mem_cons_of_mem))) | skip)) | (go_at_call 32; (with_reducible refine (spec_EdgeSwitches.calls _ a0 _ _ l0 _ _ _ ?c0 ?l0 HSP.out).mono ?_); (case c0 => first | exact Kd.C_below HR0.out (below_step HB.out (by repeat (first | (with_reducible first | exact HBX.out | exact Below.refl _ _ | apply below_alloc | apply pw_below_drewN | apply below_drew1 | refine below_set ?_ GX.out) | exact HBX.out))) | exact K.St.readSS (HST.out.below (by repeat (first | (with_reducible first | exact HBX.out | exact Below.refl _ _ | apply below_alloc | apply pw_below_drewN | apply below_drew1 | refine below_set ?_ GX.out) | exact HBX.out))) (by repeat (first | (with_reducible exact List.mem_cons_self) | apply List.mem_cons_of_mem)) | exact K.St.readF (HST.out.below (by repeat (first | (with_reducible first | exact HBX.out | exact Below.refl _ _ | apply below_alloc | apply pw_below_drewN | apply below_drew1 | refine below_set ?_ GX.out) | exact HBX.out))) (by repeat (first | (with_reducible exact List.mem_cons_self) | apply List.mem_cons_of_mem))); (case l0 => first | exact HC0.out | exact K.St.sizeSS (HST.out.below (by repeat (first | (with_reducible first | exact HBX.out | exact Below.refl _ _ | apply below_alloc | apply pw_below_drewN | apply below_drew1 | refine below_set ?_ GX.out) | exact HBX.out))) (by repeat (first | (with_reducible exact List.mem_cons_self) | apply List.mem_cons_of_mem)) | exact K.St.sizeF (HST.out.below (by repeat (first | (with_reducible first | exact HBX.out | exact Below.refl _ _ | apply below_alloc | apply pw_below_drewN | apply below_drew1 | refine below_set ?_ GX.out) | exact HBX.out))) (by repeat (first | (with_reducible exact List.mem_cons_self) | apply List.mem_cons_of_mem))); rintro e w' ⟨v0, rfl, hs0, hb⟩; obtain ⟨A0_, c0_, rfl, -, -⟩ := Kd.S_reads hs0; obtain ⟨S1_, n0_⟩ := K.St.pushSS (b := w.heap.size) (HST.out.below (by repeat (first | (with_reducible first | exact HBX.out | exact Below.refl _ _ | apply below_alloc | apply pw_below_drewN | apply below_drew1 | refine below_set ?_ GX.out) | exact HBX.out))) hb (below_size (below_step HB.out (by repeat (first | (with_reducible first | exact HBX.out | exact Below.refl _ _ | apply below_alloc | apply pw_below_drewN | apply below_drew1 | refine below_set ?_ GX.out) | exact HBX.out)))) hs0; replace n0_ := Aside0.mk n0_; have n1_ := Aside0.mk (below_step (below_step HB.out (by repeat (first | (with_reducible first | exact HBX.out | exact Below.refl _ _ | apply below_alloc | apply pw_below_drewN | apply below_drew1 | refine below_set ?_ GX.out) | exact HBX.out))) hb); clear HST HB hs0 hb; have HST := n0_; have HB := n1_; clear n0_ n1_; (try clear hx0 hx1); (try clear hy0 hy1); obtain ⟨hx0, hx1⟩ := K.St.getB (g := w.heap.size) HST.out (by repeat (first | (with_reducible exact List.mem_cons_self) | apply List.mem_cons_of_mem)); (first | (have hq_ : Nat := g1; clear hq_; obtain ⟨hy0, hy1⟩ := K.St.getB (g := g1) HST.out (by repeat (first | (with_reducible exact List.mem_cons_self) | apply List.mem_cons_of_mem))) | skip)) | (go_at_call 33; (with_reducible refine (impl_EdgeSwitches.calls _ a0 _ _ l0 _ _ _ ?sideT ?c0 ?l0 HIM.out).mono ?_); (case sideT => exact HT.out.below (below_step HB.out (by repeat (first | (with_reducible first | exact HBX.out | exact Below.refl _ _ | apply below_alloc | apply pw_below_drewN | apply below_drew1 | refine below_set ?_ GX.out) | exact HBX.out)))); (case c0 => first | exact Kd.C_below HR0.out (below_step HB.out (by repeat (first | (with_reducible first | exact HBX.out | exact Below.refl _ _ | apply below_alloc | apply pw_below_drewN | apply below_drew1 | refine below_set ?_ GX.out) | exact HBX.out))) | exact K.St.readSS (HST.out.below (by repeat (first | (with_reducible first | exact HBX.out | exact Below.refl _ _ | apply below_alloc | apply pw_below_drewN | apply below_drew1 | refine below_set ?_ GX.out) | exact HBX.out))) (by repeat (first | (with_reducible exact List.mem_cons_self) | apply List.mem_cons_of_mem)) | exact K.St.readF (HST.out.below (by repeat (first | (with_reducible first | exact HBX.out | exact Below.refl _ _ | apply below_alloc | apply pw_below_drewN | apply below_drew1 | refine below_set ?_ GX.out) | exact HBX.out))) (by repeat (first | (with_reducible exact List.mem_cons_self) | apply List.mem_cons_of_mem))); (case l0 => first | exact HC0.out | exact K.St.sizeSS (HST.out.below (by repeat (first | (with_reducible first | exact HBX.out | exact Below.refl _ _ | apply below_alloc | apply pw_below_drewN | apply below_drew1 | refine below_set ?_ GX.out) | exact HBX.out))) (by repeat (first | (with_reducible exact List.mem_cons_self) | apply List.mem_cons_of_mem)) | exact K.St.sizeF (HST.out.below (by repeat (first | (with_reducible first | exact HBX.out | exact Below.refl _ _ | apply below_alloc | apply pw_below_drewN | apply below_drew1 | refine below_set ?_ GX.out) | exact HBX.out))) (by repeat (first | (with_reducible exact List.mem_cons_self) | apply List.mem_cons_of_mem))); rintro e w' ⟨v0, rfl, hs0, hb⟩; have n2_ := Aside0.mk (K.St.pushBoxB (t := 27) (u0 := .int .i64 a0) (u1 := .slice AX_ l0.length cX_) hb HST.out (by repeat (first | (with_reducible first | exact HBX.out | exact Below.refl _ _ | apply below_alloc | apply pw_below_drewN | apply below_drew1 | refine below_set ?_ GX.out) | exact HBX.out)) GX.out (by (with_reducible repeat (first | refine blk_drewN ?_ _ | refine blk_drew ?_ | refine blk_alloc ?_ _)); refine blk_put (cs := #[.int .i64 a0, .slice none 0 0]) ?_ 1 _ rfl; (with_reducible repeat (first | refine blk_drewN ?_ _ | refine blk_drew ?_ | refine blk_alloc ?_ _)); refine blk_put (cs := #[.int .i64 0, .slice none 0 0]) ?_ 0 _ rfl; (with_reducible repeat (first | refine blk_drewN ?_ _ | refine blk_drew ?_ | refine blk_alloc ?_ _)); exact HBOX.out)); clear HST; have HST := n2_; clear n2_; obtain ⟨A0_, c0_, rfl, -, -⟩ := Kd.S_reads hs0; obtain ⟨S1_, n0_⟩ := K.St.pushSS (b := w.heap.size) (HST.out.below (by repeat (first | (with_reducible first | exact HBX.out | exact Below.refl _ _ | apply below_alloc | apply pw_below_drewN | apply below_drew1 | refine below_set ?_ GX.out) | exact HBX.out))) hb (below_size (below_step HB.out (by repeat (first | (with_reducible first | exact HBX.out | exact Below.refl _ _ | apply below_alloc | apply pw_below_drewN | apply below_drew1 | refine below_set ?_ GX.out) | exact HBX.out)))) hs0; replace n0_ := Aside0.mk n0_; have n1_ := Aside0.mk (below_step (below_step HB.out (by repeat (first | (with_reducible first | exact HBX.out | exact Below.refl _ _ | apply below_alloc | apply pw_below_drewN | apply below_drew1 | refine below_set ?_ GX.out) | exact HBX.out))) hb); clear HST HB hs0 hb; have HST := n0_; have HB := n1_; clear n0_ n1_; (try clear hx0 hx1); (try clear hy0 hy1); obtain ⟨hx0, hx1⟩ := K.St.getB (g := w.heap.size) HST.out (by repeat (first | (with_reducible exact List.mem_cons_self) | apply List.mem_cons_of_mem)); (first | (have hq_ : Nat := g1; clear hq_; obtain ⟨hy0, hy1⟩ := K.St.getB (g := g1) HST.out (by repeat (first | (with_reducible exact List.mem_cons_self) | apply List.mem_cons_of_mem))) | skip); clear HBX GX HBOX) | (go_at_call 33; (with_reducible refine (impl_EdgeSwitches.calls _ a0 _ _ l0 _ _ _ ?sideT ?c0 ?l0 HIM.out).mono ?_); (case sideT => exact HT.out.below (below_step HB.out (by repeat (first | (with_reducible first | exact HBX.out | exact Below.refl _ _ | apply below_alloc | apply pw_below_drewN | apply below_drew1 | refine below_set ?_ GX.out) | exact HBX.out)))); (case c0 => first | exact Kd.C_below HR0.out (below_step HB.out (by repeat (first | (with_reducible first | exact HBX.out | exact Below.refl _ _ | apply below_alloc | apply pw_below_drewN | apply below_drew1 | refine below_set ?_ GX.out) | exact HBX.out))) | exact K.St.readSS (HST.out.below (by repeat (first | (with_reducible first | exact HBX.out | exact Below.refl _ _ | apply below_alloc | apply pw_below_drewN | apply below_drew1 | refine below_set ?_ GX.out) | exact HBX.out))) (by repeat (first | (with_reducible exact List.mem_cons_self) | apply List.mem_cons_of_mem)) | exact K.St.readF (HST.out.below (by repeat (first | (with_reducible first | exact HBX.out | exact Below.refl _ _ | apply below_alloc | apply pw_below_drewN | apply below_drew1 | refine below_set ?_ GX.out) | exact HBX.out))) (by repeat (first | (with_reducible exact List.mem_cons_self) | apply List.mem_cons_of_mem))); (case l0 => first | exact HC0.out | exact K.St.sizeSS (HST.out.below (by repeat (first | (with_reducible first | exact HBX.out | exact Below.refl _ _ | apply below_alloc | apply pw_below_drewN | apply below_drew1 | refine below_set ?_ GX.out) | exact HBX.out))) (by repeat (first | (with_reducible exact List.mem_cons_self) | apply List.mem_cons_of_mem)) | exact K.St.sizeF (HST.out.below (by repeat (first | (with_reducible first | exact HBX.out | exact Below.refl _ _ | apply below_alloc | apply pw_below_drewN | apply below_drew1 | refine below_set ?_ GX.out) | exact HBX.out))) (by repeat (first | (with_reducible exact List.mem_cons_self) | apply List.mem_cons_of_mem))); rintro e w' ⟨v0, rfl, hs0, hb⟩; obtain ⟨A0_, c0_, rfl, -, -⟩ := Kd.S_reads hs0; obtain ⟨S1_, n0_⟩ := K.St.pushSS (b := w.heap.size) (HST.out.below (by repeat (first | (with_reducible first | exact HBX.out | exact Below.refl _ _ | apply below_alloc | apply pw_below_drewN | apply below_drew1 | refine below_set ?_ GX.out) | exact HBX.out))) hb (below_size (below_step HB.out (by repeat (first | (with_reducible first | exact HBX.out | exact Below.refl _ _ | apply below_alloc | apply pw_below_drewN | apply below_drew1 | refine below_set ?_ GX.out) | exact HBX.out)))) hs0; replace n0_ := Aside0.mk n0_; have n1_ := Aside0.mk (below_step (below_step HB.out (by repeat (first | (with_reducible first | exact HBX.out | exact Below.refl _ _ | apply below_alloc | apply pw_below_drewN | apply below_drew1 | refine below_set ?_ GX.out) | exact HBX.out))) hb); clear HST HB hs0 hb; have HST := n0_; have HB := n1_; clear n0_ n1_; (try clear hx0 hx1); (try clear hy0 hy1); obtain ⟨hx0, hx1⟩ := K.St.getB (g := w.heap.size) HST.out (by repeat (first | (with_reducible exact List.mem_cons_self) | apply List.mem_cons_of_mem)); (first | (have hq_ : Nat := g1; clear hq_; obtain ⟨hy0, hy1⟩ := K.St.getB (g := g1) HST.out (by repeat (first | (with_reducible exact List.mem_cons_self) | apply List.mem_cons_of_mem))) | skip)) | (go_at_call 34; (with_reducible refine (laws_eqIntSS.calls _ _ _ w0 _ _ w0 _ _ ?c0 ?l0 ?c1 ?l1 HEW0.out).mono ?_); (case c0 => first | exact Kd.C_below HR0.out (below_step HB.out (by repeat (first | (with_reducible first | exact HBX.out | exact Below.refl _ _ | apply below_alloc | apply pw_below_drewN | apply below_drew1 | refine below_set ?_ GX.out) | exact HBX.out))) | exact K.St.readSS (HST.out.below (by repeat (first | (with_reducible first | exact HBX.out | exact Below.refl _ _ | apply below_alloc | apply pw_below_drewN | apply below_drew1 | refine below_set ?_ GX.out) | exact HBX.out))) (by repeat (first | (with_reducible exact List.mem_cons_self) | apply List.mem_cons_of_mem)) | exact K.St.readF (HST.out.below (by repeat (first | (with_reducible first | exact HBX.out | exact Below.refl _ _ | apply below_alloc | apply pw_below_drewN | apply below_drew1 | refine below_set ?_ GX.out) | exact HBX.out))) (by repeat (first | (with_reducible exact List.mem_cons_self) | apply List.mem_cons_of_mem))); (case l0 => first | exact HC0.out | exact K.St.sizeSS (HST.out.below (by repeat (first | (with_reducible first | exact HBX.out | exact Below.refl _ _ | apply below_alloc | apply pw_below_drewN | apply below_drew1 | refine below_set ?_ GX.out) | exact HBX.out))) (by repeat (first | (with_reducible exact List.mem_cons_self) | apply List.mem_cons_of_mem)) | exact K.St.sizeF (HST.out.below (by repeat (first | (with_reducible first | exact HBX.out | exact Below.refl _ _ | apply below_alloc | apply pw_below_drewN | apply below_drew1 | refine below_set ?_ GX.out) | exact HBX.out))) (by repeat (first | (with_reducible exact List.mem_cons_self) | apply List.mem_cons_of_mem))); (case c1 => first | exact Kd.C_below HR0.out (below_step HB.out (by repeat (first | (with_reducible first | exact HBX.out | exact Below.refl _ _ | apply below_alloc | apply pw_below_drewN | apply below_drew1 | refine below_set ?_ GX.out) | exact HBX.out))) | exact K.St.readSS (HST.out.below (by repeat (first | (with_reducible first | exact HBX.out | exact Below.refl _ _ | apply below_alloc | apply pw_below_drewN | apply below_drew1 | refine below_set ?_ GX.out) | exact HBX.out))) (by repeat (first | (with_reducible exact List.mem_cons_self) | apply List.mem_cons_of_mem)) | exact K.St.readF (HST.out.below (by repeat (first | (with_reducible first | exact HBX.out | exact Below.refl _ _ | apply below_alloc | apply pw_below_drewN | apply below_drew1 | refine below_set ?_ GX.out) | exact HBX.out))) (by repeat (first | (with_reducible exact List.mem_cons_self) | apply List.mem_cons_of_mem))); (case l1 => first | exact HC0.out | exact K.St.sizeSS (HST.out.below (by repeat (first | (with_reducible first | exact HBX.out | exact Below.refl _ _ | apply below_alloc | apply pw_below_drewN | apply below_drew1 | refine below_set ?_ GX.out) | exact HBX.out))) (by repeat (first | (with_reducible exact List.mem_cons_self) | apply List.mem_cons_of_mem)) | exact K.St.sizeF (HST.out.below (by repeat (first | (with_reducible first | exact HBX.out | exact Below.refl _ _ | apply below_alloc | apply pw_below_drewN | apply below_drew1 | refine below_set ?_ GX.out) | exact HBX.out))) (by repeat (first | (with_reducible exact List.mem_cons_self) | apply List.mem_cons_of_mem))); rintro e w' ⟨rfl, ⟨nd, rfl⟩⟩) | (go_at_call 13; (with_reducible refine (laws_eqGraph.calls _ a0 _ _ l0 a0 _ _ l0 _ _ ?c0 ?l0 ?c1 ?l1 HEL0.out).mono ?_); (case c0 => first | exact Kd.C_below HR0.out (below_step HB.out (by repeat (first | (with_reducible first | exact HBX.out | exact Below.refl _ _ | apply below_alloc | apply pw_below_drewN | apply below_drew1 | refine below_set ?_ GX.out) | exact HBX.out))) | exact K.St.readSS (HST.out.below (by repeat (first | (with_reducible first | exact HBX.out | exact Below.refl _ _ | apply below_alloc | apply pw_below_drewN | apply below_drew1 | refine below_set ?_ GX.out) | exact HBX.out))) (by repeat (first | (with_reducible exact List.mem_cons_self) | apply List.mem_cons_of_mem)) | exact K.St.readF (HST.out.below (by repeat (first | (with_reducible first | exact HBX.out | exact Below.refl _ _ | apply below_alloc | apply pw_below_drewN | apply below_drew1 | refine below_set ?_ GX.out) | exact HBX.out))) (by repeat (first | (with_reducible exact List.mem_cons_self) | apply List.mem_cons_of_mem))); (case l0 => first | exact HC0.out | exact K.St.sizeSS (HST.out.below (by repeat (first | (with_reducible first | exact HBX.out | exact Below.refl _ _ | apply below_alloc | apply pw_below_drewN | apply below_drew1 | refine below_set ?_ GX.out) | exact HBX.out))) (by repeat (first | (with_reducible exact List.mem_cons_self) | apply List.mem_cons_of_mem)) | exact K.St.sizeF (HST.out.below (by repeat (first | (with_reducible first | exact HBX.out | exact Below.refl _ _ | apply below_alloc | apply pw_below_drewN | apply below_drew1 | refine below_set ?_ GX.out) | exact HBX.out))) (by repeat (first | (with_reducible exact List.mem_cons_self) | apply List.mem_cons_of_mem))); (case c1 => first | exact Kd.C_below HR0.out (below_step HB.out (by repeat (first | (with_reducible first | exact HBX.out | exact Below.refl _ _ | apply below_alloc | apply pw_below_drewN | apply below_drew1 | refine below_set ?_ GX.out) | exact HBX.out))) | exact K.St.readSS (HST.out.below (by repeat (first | (with_reducible first | exact HBX.out | exact Below.refl _ _ | apply below_alloc | apply pw_below_drewN | apply below_drew1 | refine below_set ?_ GX.out) | exact HBX.out))) (by repeat (first | (with_reducible exact List.mem_cons_self) | apply List.mem_cons_of_mem)) | exact K.St.readF (HST.out.below (by repeat (first | (with_reducible first | exact HBX.out | exact Below.refl _ _ | apply below_alloc | apply pw_below_drewN | apply below_drew1 | refine below_set ?_ GX.out) | exact HBX.out))) (by repeat (first | (with_reducible exact List.mem_cons_self) | apply List.mem_cons_of_mem))); (case l1 => first | exact HC0.out | exact K.St.sizeSS (HST.out.below (by repeat (first | (with_reducible first | exact HBX.out | exact Below.refl _ _ | apply below_alloc | apply pw_below_drewN | apply below_drew1 | refine below_set ?_ GX.out) | exact HBX.out))) (by repeat (first | (with_reducible exact List.mem_cons_self) | apply List.mem_cons_of_mem)) | exact K.St.sizeF (HST.out.below (by repeat (first | (with_reducible first | exact HBX.out | exact Below.refl _ _ | apply below_alloc | apply pw_below_drewN | apply below_drew1 | refine below_set ?_ GX.out) | exact HBX.out))) (by repeat (first | (with_reducible exact List.mem_cons_self) | apply List.mem_cons_of_mem))); rintro e w' ⟨rfl, hb⟩; have n0_ := Aside0.mk ((HST.out.below (by repeat (first | (with_reducible first | exact HBX.out | exact Below.refl _ _ | apply below_alloc | apply pw_below_drewN | apply below_drew1 | refine below_set ?_ GX.out) | exact HBX.out))).below hb); have n1_ := Aside0.mk (below_step (below_step HB.out (by repeat (first | (with_reducible first | exact HBX.out | exact Below.refl _ _ | apply below_alloc | apply pw_below_drewN | apply below_drew1 | refine below_set ?_ GX.out) | exact HBX.out))) hb); clear HST HB hb; have HST := n0_; have HB := n1_; clear n0_ n1_; (try clear hx0 hx1); (try clear hy0 hy1); obtain ⟨hx0, hx1⟩ := K.St.getB (g := w.heap.size) HST.out (by repeat (first | (with_reducible exact List.mem_cons_self) | apply List.mem_cons_of_mem)); (first | (have hq_ : Nat := g1; clear hq_; obtain ⟨hy0, hy1⟩ := K.St.getB (g := g1) HST.out (by repeat (first | (with_reducible exact List.mem_cons_self) | apply List.mem_cons_of_mem))) | skip)) | (go_at_call 16; (with_reducible refine (laws_markGraph.calls _ a0 _ _ l0 _ _ _ w _ (below_step HB.out (by repeat (first | (with_reducible first | exact HBX.out | exact Below.refl _ _ | apply below_alloc | apply pw_below_drewN | apply below_drew1 | refine below_set ?_ GX.out) | exact HBX.out))) (K.St.getF (HST.out.below (by repeat (first | (with_reducible first | exact HBX.out | exact Below.refl _ _ | apply below_alloc | apply pw_below_drewN | apply below_drew1 | refine below_set ?_ GX.out) | exact HBX.out))) (List.mem_cons_of_mem _ (List.mem_cons_of_mem _ (List.mem_cons_of_mem _ List.mem_cons_self)))) HMK0.out).mono ?_); rintro e w' ⟨rfl, hs, hb, hk⟩; have n0_ := (K.St.putF [_, _, _] (HST.out.below (by repeat (first | (with_reducible first | exact HBX.out | exact Below.refl _ _ | apply below_alloc | apply pw_below_drewN | apply below_drew1 | refine below_set ?_ GX.out) | exact HBX.out))) rfl hk hs); simp only [List.cons_append, List.nil_append] at n0_; replace n0_ := Aside0.mk n0_; have n1_ := Aside0.mk hb; clear HST HB hs hb hk; have HST := n0_; have HB := n1_; clear n0_ n1_; (try clear hx0 hx1); (try clear hy0 hy1); obtain ⟨hx0, hx1⟩ := K.St.getB (g := w.heap.size) HST.out (by repeat (first | (with_reducible exact List.mem_cons_self) | apply List.mem_cons_of_mem)); (first | (have hq_ : Nat := g1; clear hq_; obtain ⟨hy0, hy1⟩ := K.St.getB (g := g1) HST.out (by repeat (first | (with_reducible exact List.mem_cons_self) | apply List.mem_cons_of_mem))) | skip)) | (go_at_call 35; (with_reducible refine (laws_markIntSS.calls _ _ w0 _ _ _ w _ (below_step HB.out (by repeat (first | (with_reducible first | exact HBX.out | exact Below.refl _ _ | apply below_alloc | apply pw_below_drewN | apply below_drew1 | refine below_set ?_ GX.out) | exact HBX.out))) (K.St.getSS (HST.out.below (by repeat (first | (with_reducible first | exact HBX.out | exact Below.refl _ _ | apply below_alloc | apply pw_below_drewN | apply below_drew1 | refine below_set ?_ GX.out) | exact HBX.out))) (List.mem_cons_of_mem _ List.mem_cons_self)) HMM0.out).mono ?_); rintro e w' ⟨rfl, hs, hb, hk⟩; have n0_ := (K.St.putSS [_] (HST.out.below (by repeat (first | (with_reducible first | exact HBX.out | exact Below.refl _ _ | apply below_alloc | apply pw_below_drewN | apply below_drew1 | refine below_set ?_ GX.out) | exact HBX.out))) hk hs); simp only [List.cons_append, List.nil_append] at n0_; replace n0_ := Aside0.mk n0_; have n1_ := Aside0.mk hb; clear HST HB hs hb hk; have HST := n0_; have HB := n1_; clear n0_ n1_; (try clear hx0 hx1); (try clear hy0 hy1); obtain ⟨hx0, hx1⟩ := K.St.getB (g := w.heap.size) HST.out (by repeat (first | (with_reducible exact List.mem_cons_self) | apply List.mem_cons_of_mem)); (first | (have hq_ : Nat := g1; clear hq_; obtain ⟨hy0, hy1⟩ := K.St.getB (g := g1) HST.out (by repeat (first | (with_reducible exact List.mem_cons_self) | apply List.mem_cons_of_mem))) | skip)) | (go_at_call 36; (with_reducible refine (K.heldNIntSS _ _ _ w0.length w0' _ _ _ ?c0 ?l0 HH0.out HLEN0.out.symm).mono ?_); (case c0 => first | exact Kd.C_below HR0.out (below_step HB.out (by repeat (first | (with_reducible first | exact HBX.out | exact Below.refl _ _ | apply below_alloc | apply pw_below_drewN | apply below_drew1 | refine below_set ?_ GX.out) | exact HBX.out))) | exact K.St.readSS (HST.out.below (by repeat (first | (with_reducible first | exact HBX.out | exact Below.refl _ _ | apply below_alloc | apply pw_below_drewN | apply below_drew1 | refine below_set ?_ GX.out) | exact HBX.out))) (by repeat (first | (with_reducible exact List.mem_cons_self) | apply List.mem_cons_of_mem)) | exact K.St.readF (HST.out.below (by repeat (first | (with_reducible first | exact HBX.out | exact Below.refl _ _ | apply below_alloc | apply pw_below_drewN | apply below_drew1 | refine below_set ?_ GX.out) | exact HBX.out))) (by repeat (first | (with_reducible exact List.mem_cons_self) | apply List.mem_cons_of_mem))); (case l0 => first | exact HC0.out | exact K.St.sizeSS (HST.out.below (by repeat (first | (with_reducible first | exact HBX.out | exact Below.refl _ _ | apply below_alloc | apply pw_below_drewN | apply below_drew1 | refine below_set ?_ GX.out) | exact HBX.out))) (by repeat (first | (with_reducible exact List.mem_cons_self) | apply List.mem_cons_of_mem)) | exact K.St.sizeF (HST.out.below (by repeat (first | (with_reducible first | exact HBX.out | exact Below.refl _ _ | apply below_alloc | apply pw_below_drewN | apply below_drew1 | refine below_set ?_ GX.out) | exact HBX.out))) (by repeat (first | (with_reducible exact List.mem_cons_self) | apply List.mem_cons_of_mem))); rintro e w' ⟨rfl, ⟨nd, rfl⟩⟩)))
    all_goals go_ret
    all_goals exact ⟨rfl, below_step HB.out (by repeat (first | (with_reducible first | exact HBX.out | exact Below.refl _ _ | apply below_alloc | apply pw_below_drewN | apply below_drew1 | refine below_set ?_ GX.out) | exact HBX.out))⟩
end Go.Proofs.YtbcbgehdikockaaDoor.P
namespace Go.Proofs.YtbcbgehdikockaaDoor.K
open Go.RowKit Go.Proofs.YtbcbgehdikockaaDoorW.PrintWords
def EvB (g : Nat → Option Bool) (P : Prop) : Prop := (P → Ev g true) ∧ (¬ P → Ev g false)
theorem EvB.congr {g : Nat → Option Bool} {P Q : Prop} (h : EvB g P) (e : P ↔ Q) : EvB g Q := ⟨fun q => h.1 (e.2 q), fun q => h.2 (fun p => q (e.1 p))⟩
theorem EvB.ev {g : Nat → Option Bool} {P : Prop} (h : EvB g P) : ∃ b : Bool, Ev g b ∧ (b = true ↔ P) := by
  by_cases p : P
  · exact ⟨true, h.1 p, by simp [p]⟩
  · exact ⟨false, h.2 p, by simp [p]⟩
theorem EvB.of {g : Nat → Option Bool} {P : Prop} {b : Bool} (h : Ev g b) (e : b = true ↔ P) : EvB g P := by
  cases b with
  | true => exact ⟨fun _ => h, fun p => absurd (e.1 rfl) p⟩
  | false => exact ⟨fun p => absurd (e.2 p) (by simp), fun _ => h⟩
theorem EvB.true_ : EvB (fun _ => some true) True := ⟨fun _ => Ev.now _, fun h => absurd trivial h⟩
theorem EvB.false_ : EvB (fun _ => some false) False := ⟨fun h => h.elim, fun _ => Ev.now _⟩
theorem EvB.now (b : Bool) : EvB (fun _ => some b) (b = true) := EvB.of (Ev.now b) Iff.rfl
theorem EvB.fn {g f : Nat → Option Bool} {P : Prop} (h : ∀ k, g k = f k) (k : EvB f P) : EvB g P := ⟨fun p => Ev.congr h (k.1 p), fun p => Ev.congr h (k.2 p)⟩
theorem EvB.step {g f : Nat → Option Bool} {P : Prop} (h : ∀ k, g (k + 1) = f k) (k : EvB f P) : EvB g P := ⟨fun p => Ev.step h (k.1 p), fun p => Ev.step h (k.2 p)⟩
theorem EvB.ite {c : Prop} [Decidable c] {f g : Nat → Option Bool} {P Q : Prop} (h1 : c → EvB f P) (h2 : ¬ c → EvB g Q) : EvB (fun k => if c then f k else g k) ((c ∧ P) ∨ (¬ c ∧ Q)) := by
  by_cases h : c
  · simpa [h] using h1 h
  · simpa [h] using h2 h
theorem EvB.and {c : Prop} [Decidable c] {f : Nat → Option Bool} {P : Prop} (h1 : c → EvB f P) : EvB (fun k => if c then f k else some false) (c ∧ P) := by
  by_cases h : c
  · simpa [h] using h1 h
  · simpa [h] using EvB.false_
theorem EvB.bind {α : Type} {g : Nat → Option α} {f : Nat → α → Option Bool} {a : α} {P : Prop} (h : Ev g a) (k : EvB (fun n => f n a) P) : EvB (fun n => (g n).bind (f n)) P :=
  ⟨fun p => Ev.bind h (k.1 p), fun p => Ev.bind h (k.2 p)⟩
theorem allLoop (g : Nat → Nat → Option Bool) (n : Nat) (P : Nat → Prop) (Q : Prop) (hend : EvB (g n) Q)
    (hs : ∀ j, j < n → ∀ R, EvB (g (j + 1)) R → EvB (g j) (P j ∧ R)) : ∀ d j, j + d = n → EvB (g j) ((∀ i, j ≤ i → i < n → P i) ∧ Q) := by
  intro d
  induction d with
  | zero =>
    intro j hj
    obtain rfl : j = n := by omega
    exact hend.congr ⟨fun q => ⟨fun i h1 h2 => by omega, q⟩, fun h => h.2⟩
  | succ d ih =>
    intro j hj
    refine (hs j (by omega) _ (ih (j + 1) (by omega))).congr ⟨?_, ?_⟩
    · rintro ⟨h1, h2, h3⟩
      refine ⟨fun i h4 h5 => ?_, h3⟩
      by_cases e : i = j
      · subst e; exact h1
      · exact h2 i (by omega) h5
    · rintro ⟨h1, h2⟩
      exact ⟨h1 j (Nat.le_refl _) (by omega), fun i h4 h5 => h1 i (by omega) h5, h2⟩
theorem allLoop0 (g : Nat → Nat → Option Bool) (n : Nat) (P : Nat → Prop) (Q : Prop) (hend : EvB (g n) Q)
    (hs : ∀ j, j < n → ∀ R, EvB (g (j + 1)) R → EvB (g j) (P j ∧ R)) : EvB (g 0) ((∀ i, i < n → P i) ∧ Q) :=
  (allLoop g n P Q hend hs n 0 (by omega)).congr ⟨fun h => ⟨fun i hi => h.1 i (Nat.zero_le _) hi, h.2⟩, fun h => ⟨fun i _ hi => h.1 i hi, h.2⟩⟩
theorem wrap_nat (i : Nat) (h : i < 9223372036854775807) : wrap64 ((i : Int) + 1) = ((i + 1 : Nat) : Int) := by unfold wrap64; omega
def ints (ns : List Nat) : List Int := ns.map (fun n : Nat => (n : Int))
theorem ints_length (ns : List Nat) : (ints ns).length = ns.length := by simp [ints]
theorem rd_ints (ns : List Nat) (i : Nat) : rd (ints ns) (i : Int) = ((ns.getD i 0 : Nat) : Int) := by
  simp only [rd, ints, Int.toNat_natCast, List.getD_eq_getElem?_getD, List.getElem?_map]
  cases ns[i]? <;> simp
theorem ints_of (l : List Int) (h : ∀ x ∈ l, 0 ≤ x) : ∃ ns, l = ints ns := by
  refine ⟨l.map Int.toNat, ?_⟩
  simp only [ints, List.map_map]
  rw [List.map_congr_left (g := id) (fun x hx => by have := h x hx; simp; omega)]
  simp
end Go.Proofs.YtbcbgehdikockaaDoor.K
namespace Go.Proofs.YtbcbgehdikockaaDoor.K
open Go.RowKit Go.Proofs.YtbcbgehdikockaaDoorW.PrintWords Go.Proofs.YtbcbgehdikockaaDoor.P
def within (a b : Int) (l : List Int) : Bool := l.all fun n => decide (a ≤ n) && decide (n ≤ b)
theorem l1All_l0 (a b : Int) : ∀ (rest done : List Int), (done ++ rest).length ≤ BM → Ev (fun k => spec_l1All.l0 k a b (done ++ rest) (done ++ rest).length done.length) (within a b rest) := by
  intro rest
  induction rest with
  | nil => intro done h; exact Ev.step (fun k => by simp [spec_l1All.l0]; rfl) (Ev.some (by simp [within]))
  | cons x rest ih =>
    intro done h
    have ih' := ih (done ++ [x])
    obtain ⟨h1, h2, h3, h4, h5⟩ := mid x done rest h
    rw [h5] at ih'
    refine Ev.step (fun k => by rw [spec_l1All.l0]) ?_
    simp only [if_pos h1, if_pos h2, h3, h4, spec_l1In.f]
    by_cases ha : x ≥ a
    · by_cases hb : x ≤ b
      · simpa [ha, hb, within] using ih' h
      · simpa [ha, hb, within] using Ev.now _
    · simpa [ha, within] using Ev.now _
theorem allWithin_eq : ∀ k a b xs n i, impl_allWithin.l0 k a b xs n i = spec_l1All.l0 k a b xs n i := by
  intro k
  induction k with
  | zero => intros; rfl
  | succ k ih => intros; simp only [impl_allWithin.l0, spec_l1All.l0, ih, impl_within.f, spec_l1In.f]
theorem l1All_f (l : List Int) (a b : Int) (h : l.length ≤ BM) : Ev (fun k => spec_l1All.f k l a b) (within a b l) := l1All_l0 a b l [] h
theorem allWithin_f (l : List Int) (a b : Int) (h : l.length ≤ BM) : Ev (fun k => impl_allWithin.f k l a b) (within a b l) := Ev.congr (fun k => allWithin_eq ..) (l1All_f l a b h)
theorem l1In_f (n a b : Int) : spec_l1In.f n a b = some (decide (a ≤ n) && decide (n ≤ b)) := by
  unfold spec_l1In.f; by_cases h : a ≤ n <;> simp [h]
theorem within_f (n a b : Int) : impl_within.f n a b = some (decide (a ≤ n) && decide (n ≤ b)) := l1In_f n a b
end Go.Proofs.YtbcbgehdikockaaDoor.K
namespace Go.Proofs.YtbcbgehdikockaaDoor.K
open Go.RowKit Go.Proofs.YtbcbgehdikockaaDoorW.PrintWords Go.Proofs.YtbcbgehdikockaaDoorW.PrintMore
theorem wrap_i64 (n : Int) (h0 : 0 ≤ n) (h1 : n < 2 ^ 62) : IntKind.i64.wrap n = n := by
  have : IntKind.i64.wrap n = wrap64 n := by simp [IntKind.wrap, IntKind.bits, IntKind.signed, wrap64]; omega
  rw [this]; unfold wrap64; omega
theorem and_nat (a b : Nat) (ha : a < 2 ^ 62) (hb : b < 2 ^ 62) : Go.bits .and .i64 (a : Int) (b : Int) = ((a &&& b : Nat) : Int) := (bits_nat .i64 62 (by decide) wrap_i64 a b ha hb).1
theorem shl_one (i : Nat) (h : i ≤ 61) : shl .i64 1 (i : Int) = ((2 ^ i : Nat) : Int) := by
  unfold shl
  have h1 : min ((i : Int).toNat) IntKind.i64.bits = i := by simp [show IntKind.i64.bits = 64 from rfl]; omega
  rw [h1, Int.one_mul]
  have h2 : 2 ^ i ≤ 2 ^ 61 := Nat.pow_le_pow_right (by decide) h
  rw [wrap_i64 _ (by exact_mod_cast Nat.zero_le (2 ^ i)) (by exact_mod_cast Nat.lt_of_le_of_lt h2 (by decide))]
  exact_mod_cast rfl
theorem shr_nat (a i : Nat) (ha : a < 2 ^ 62) : shr .i64 (a : Int) (i : Int) = ((a >>> i : Nat) : Int) := by
  unfold shr
  rw [Nat.shiftRight_eq_div_pow]
  have e : min ((i : Int).toNat) IntKind.i64.bits = min i 64 := by simp [show IntKind.i64.bits = 64 from rfl]
  rw [e]
  have : a / 2 ^ i = a / 2 ^ (min i 64) := by
    by_cases h : i ≤ 64
    · rw [Nat.min_eq_left h]
    · rw [Nat.min_eq_right (by omega), Nat.div_eq_of_lt (Nat.lt_of_lt_of_le ha (Nat.pow_le_pow_right (by decide) (by omega))), Nat.div_eq_of_lt (Nat.lt_of_lt_of_le ha (by decide))]
  rw [this]
  exact_mod_cast rfl
theorem bit_one (a : Nat) (i : Nat) : (a >>> i) &&& 1 = if a.testBit i then 1 else 0 := by
  rw [Nat.and_one_is_mod, Nat.testBit, Nat.and_comm, Nat.and_one_is_mod]
  rcases Nat.mod_two_eq_zero_or_one (a >>> i) with h | h <;> simp [h]
theorem bit_mod (a : Nat) (i : Nat) : (a >>> i) % 2 = if a.testBit i then 1 else 0 := by rw [← Nat.and_one_is_mod, bit_one]
theorem hasB (a i : Nat) (ha : a < 2 ^ 62) : (Go.bits .and .i64 (shr .i64 (a : Int) (i : Int)) 1 == 1) = a.testBit i := by
  rw [shr_nat a i ha, show (1 : Int) = ((1 : Nat) : Int) from rfl, and_nat _ _ (Nat.lt_of_le_of_lt (by rw [Nat.shiftRight_eq_div_pow]; exact Nat.div_le_self _ _) ha) (by decide), bit_one]
  cases a.testBit i <;> rfl
theorem deHasB (a i : Nat) (ha : a < 2 ^ 62) : (Int.tmod (shr .i64 (a : Int) (i : Int)) 2 == 1) = a.testBit i := by
  rw [shr_nat a i ha, show (2 : Int) = ((2 : Nat) : Int) from rfl, ← Int.ofNat_tmod, bit_mod]
  cases a.testBit i <;> rfl
end Go.Proofs.YtbcbgehdikockaaDoor.K
namespace Go.Proofs.YtbcbgehdikockaaDoor.K
open Go.RowKit Go.Proofs.YtbcbgehdikockaaDoorW.PrintWords Go.Proofs.YtbcbgehdikockaaDoorW.PrintMore Go.Proofs.YtbcbgehdikockaaDoor.P
def nb (ns : List Nat) (i j : Nat) : Bool := (ns.getD i 0).testBit j
structure Sets (n : Nat) (ns : List Nat) : Prop where
  n1 : 1 ≤ n
  n8 : n ≤ 8
  len : ns.length = n
  lt : ∀ x ∈ ns, x < 2 ^ n
theorem Sets.get {n : Nat} {ns : List Nat} (h : Sets n ns) (i : Nat) : ns.getD i 0 < 2 ^ n := by
  rw [List.getD_eq_getElem?_getD]
  cases e : ns[i]? with
  | none => simp; exact Nat.two_pow_pos n
  | some x => exact h.lt x (List.mem_of_getElem? e)
theorem pow8 {n : Nat} (h : n ≤ 8) : 2 ^ n ≤ 256 := Nat.le_trans (Nat.pow_le_pow_right (by decide) h) (by decide)
theorem Sets.get62 {n : Nat} {ns : List Nat} (h : Sets n ns) (i : Nat) : ns.getD i 0 < 2 ^ 62 := Nat.lt_of_lt_of_le (h.get i) (Nat.le_trans (pow8 h.n8) (by decide))
theorem Sets.nb_lt {n : Nat} {ns : List Nat} (h : Sets n ns) {i j : Nat} (hj : n ≤ j) : nb ns i j = false :=
  Nat.testBit_lt_two_pow (Nat.lt_of_lt_of_le (h.get i) (Nat.pow_le_pow_right (by decide) hj))
def Near (n : Nat) (ns : List Nat) : Prop := Sets n ns ∧ ∀ i, i < n → nb ns i i = false
theorem has_f (a i : Nat) (h : a < 2 ^ 62) : impl_has.f (a : Int) (i : Int) = some (a.testBit i) := by
  unfold impl_has.f; rw [if_pos (by omega), hasB a i h]
theorem deHas_f (a i : Nat) (h : a < 2 ^ 62) : spec_deHas.f (a : Int) (i : Int) = some (a.testBit i) := by
  unfold spec_deHas.f; rw [if_pos (by omega), deHasB a i h]
theorem has_nb {n : Nat} {ns : List Nat} (h : Sets n ns) (i j : Nat) : impl_has.f ((ns.getD i 0 : Nat) : Int) (j : Int) = some (nb ns i j) := has_f _ _ (h.get62 i)
theorem deHas_nb {n : Nat} {ns : List Nat} (h : Sets n ns) (i j : Nat) : spec_deHas.f ((ns.getD i 0 : Nat) : Int) (j : Int) = some (nb ns i j) := deHas_f _ _ (h.get62 i)
theorem sets_iff (a : Int) (l : List Int) : ((1 ≤ a ∧ a ≤ 8) ∧ (l.length : Int) = a ∧ within 0 (wrap64 (shl .i64 1 a - 1)) l = true) ↔ ∃ n ns, a = ((n : Nat) : Int) ∧ l = ints ns ∧ Sets n ns := by
  constructor
  · rintro ⟨⟨h1, h2⟩, h3, h4⟩
    obtain ⟨n, rfl⟩ := Int.eq_ofNat_of_zero_le (show 0 ≤ a by omega)
    have hp := pow8 (show n ≤ 8 by omega)
    have hp0 := Nat.two_pow_pos n
    have e : wrap64 (shl .i64 1 (n : Int) - 1) = ((2 ^ n - 1 : Nat) : Int) := by
      rw [shl_one n (by omega)]; unfold wrap64; omega
    rw [e] at h4
    simp only [within, List.all_eq_true, Bool.and_eq_true, decide_eq_true_eq] at h4
    obtain ⟨ns, rfl⟩ := ints_of l (fun x hx => (h4 x hx).1)
    rw [ints_length] at h3
    exact ⟨n, ns, rfl, rfl, by omega, by omega, by omega, fun x hx => by have := (h4 x (List.mem_map.2 ⟨x, hx, rfl⟩)).2; omega⟩
  · rintro ⟨n, ns, rfl, rfl, h⟩
    have hp := pow8 h.n8
    have hp0 := Nat.two_pow_pos n
    have := h.n1; have := h.n8; have := h.len
    have e : wrap64 (shl .i64 1 (n : Int) - 1) = ((2 ^ n - 1 : Nat) : Int) := by
      rw [shl_one n (by omega)]; unfold wrap64; omega
    rw [e]
    refine ⟨⟨by omega, by omega⟩, by rw [ints_length]; omega, ?_⟩
    simp only [within, List.all_eq_true, Bool.and_eq_true, decide_eq_true_eq, ints, List.mem_map]
    rintro x ⟨y, hy, rfl⟩
    have := h.lt y hy
    omega
theorem near_l0 {n : Nat} {ns : List Nat} (h : Sets n ns) : EvB (fun k => impl_areNear.l0 k (ints ns) (n : Int) 0) (∀ i, i < n → nb ns i i = false) := by
  have hl := h.len
  have hn := h.n8
  refine (allLoop0 (fun j k => impl_areNear.l0 k (ints ns) (n : Int) (j : Int)) n (fun i => nb ns i i = false) True ?_ ?_).congr (by simp)
  · exact EvB.step (fun k => by rw [impl_areNear.l0, if_neg (by omega)]) EvB.true_
  · intro j hj R hR
    have e : _ = nb ns j j := hasB (ns.getD j 0) j (h.get62 j)
    refine EvB.step (f := fun k => if nb ns j j = false then impl_areNear.l0 k (ints ns) n ((j + 1 : Nat) : Int) else some false) (fun k => ?_) (EvB.and fun _ => hR)
    rw [impl_areNear.l0, if_pos (by omega), if_pos (by omega), if_pos (by rw [ints_length]; omega), rd_ints, wrap_nat j (by omega)]
    cases hb : nb ns j j with
    | true => rw [if_pos (by rw [hb] at e; simpa using e), if_neg (by simp)]
    | false => rw [if_neg (by rw [hb] at e; simpa using e), if_pos rfl]
theorem areNear_f (a : Int) (l : List Int) (hl : l.length ≤ BM) : EvB (fun k => impl_areNear.f k a l) (∃ n ns, a = ((n : Nat) : Int) ∧ l = ints ns ∧ Near n ns) := by
  have hj : ∀ l, Ev (fun k => impl_areNear.j0 k l true) false := fun l => Ev.step (fun k => by rw [impl_areNear.j0]) (by simpa using Ev.now _)
  have no : ∀ {g : Nat → Option Bool}, ¬ ((1 ≤ a ∧ a ≤ 8) ∧ (l.length : Int) = a ∧ within 0 (wrap64 (shl .i64 1 a - 1)) l = true) → Ev g false → EvB g (∃ n ns, a = ((n : Nat) : Int) ∧ l = ints ns ∧ Near n ns) := by
    intro g h1 h2
    exact ⟨fun ⟨n, ns, e1, e2, h⟩ => absurd ((sets_iff a l).2 ⟨n, ns, e1, e2, h.1⟩) h1, fun _ => h2⟩
  unfold impl_areNear.f
  simp only [within_f, Option.bind_some]
  by_cases h1 : 1 ≤ a ∧ a ≤ 8
  · rw [show (decide (1 ≤ a) && decide (a ≤ 8)) = true by simp; omega]
    simp only [if_true]
    by_cases h2 : (l.length : Int) = a
    · have h3 : 0 ≤ a := by omega
      simp only [if_pos h2, if_pos h3]
      refine EvB.bind (allWithin_f l 0 _ hl) ?_
      cases h4 : within 0 (wrap64 (shl .i64 1 a - 1)) l with
      | false => exact no (by simp [h4]) (hj l)
      | true =>
        obtain ⟨n, ns, rfl, rfl, hs⟩ := (sets_iff a l).1 ⟨h1, h2, h4⟩
        refine EvB.step (fun k => by rw [impl_areNear.j0]) ?_
        simp only [Bool.not_true, Bool.false_eq_true, if_false, h2]
        refine (near_l0 hs).congr ⟨fun h => ⟨n, ns, rfl, rfl, hs, h⟩, ?_⟩
        rintro ⟨n', ns', e1, e2, h⟩
        obtain rfl : n = n' := by omega
        obtain rfl : ns = ns' := by
          have := congrArg (List.map Int.toNat) e2
          simpa [ints, Function.comp_def] using this
        exact h.2
    · simp only [if_neg h2]
      exact no (fun h => h2 h.2.1) (hj l)
  · rw [show (decide (1 ≤ a) && decide (a ≤ 8)) = false by simp; omega]
    exact no (fun h => h1 h.1) (by simpa using hj l)
theorem ints_inj {ns ms : List Nat} (h : ints ns = ints ms) : ns = ms := by
  have := congrArg (List.map Int.toNat) h
  simpa [ints, Function.comp_def] using this
def mem8 (a : Nat) : List Nat := (List.range 8).filter fun i => a.testBit i
theorem members_all : (List.range 256).all (fun a => impl_members.f 10 (a : Int) == some (ints (mem8 a))) = true := by decide +kernel
theorem members_f (a : Nat) (h : a < 256) : Ev (fun k => impl_members.f k (a : Int)) (ints (mem8 a)) := by
  have := List.all_eq_true.1 members_all a (List.mem_range.2 h)
  exact Ev.of (fun k => impl_members.mono _ k) (beq_iff_eq.1 this)
theorem Sets.b256 {n : Nat} {ns : List Nat} (h : Sets n ns) (i : Nat) : ns.getD i 0 < 256 := Nat.lt_of_lt_of_le (h.get i) (pow8 h.n8)
theorem mem8_mem {n : Nat} {ns : List Nat} (h : Sets n ns) (i j : Nat) : j ∈ mem8 (ns.getD i 0) ↔ j < n ∧ nb ns i j = true := by
  simp only [mem8, List.mem_filter, List.mem_range]
  constructor
  · rintro ⟨h1, h2⟩
    refine ⟨?_, h2⟩
    refine Nat.lt_of_not_le fun hh => ?_
    have := h.nb_lt (i := i) hh
    unfold nb at this
    rw [h2] at this; cases this
  · rintro ⟨h1, h2⟩
    exact ⟨by have := h.n8; omega, h2⟩
theorem getD_mem {l : List Nat} {p : Nat} (h : p < l.length) : l.getD p 0 ∈ l := by
  rw [List.getD_eq_getElem?_getD, List.getElem?_eq_getElem h]; exact List.getElem_mem h
theorem mem_getD {l : List Nat} {x : Nat} (h : x ∈ l) : ∃ p, p < l.length ∧ l.getD p 0 = x := by
  obtain ⟨p, hp, rfl⟩ := List.getElem_of_mem h
  exact ⟨p, hp, by rw [List.getD_eq_getElem?_getD, List.getElem?_eq_getElem hp]; rfl⟩
theorem mem8_len (a : Nat) : (mem8 a).length ≤ 8 := by
  have := List.length_filter_le (fun i => a.testBit i) (List.range 8)
  simpa [mem8] using this
def Gr (n : Nat) (ns : List Nat) : Prop := Near n ns ∧ ∀ i, i < n → ∀ j, j < n → nb ns i j = true → nb ns j i = true
def IsGr (a : Int) (l : List Int) : Prop := ∃ n ns, a = ((n : Nat) : Int) ∧ l = ints ns ∧ Gr n ns
theorem graph_l1 {n : Nat} {ns : List Nat} (h : Sets n ns) (i : Nat) (hi : i < n) (R : Prop) (hR : EvB (fun k => impl_IsGraph.l0 k (ints ns) n ((i + 1 : Nat) : Int) n (ints ns)) R) :
    EvB (fun k => impl_IsGraph.l1 k i (ints ns) n i (ints (mem8 (ns.getD i 0))) ((mem8 (ns.getD i 0)).length : Int) ((0 : Nat) : Int) n (ints ns)) ((∀ j, j < n → nb ns i j = true → nb ns j i = true) ∧ R) := by
  have hl := h.len
  have hn := h.n8
  have hm := mem8_len (ns.getD i 0)
  refine (allLoop0 (fun p k => impl_IsGraph.l1 k i (ints ns) n i (ints (mem8 (ns.getD i 0))) ((mem8 (ns.getD i 0)).length : Int) (p : Int) n (ints ns)) (mem8 (ns.getD i 0)).length (fun p => nb ns ((mem8 (ns.getD i 0)).getD p 0) i = true) R ?_ ?_).congr ?_
  · refine EvB.step (fun k => ?_) hR
    rw [impl_IsGraph.l1, if_neg (by omega), wrap_nat i (by omega)]
  · intro p hp R hR
    have hg := (mem8_mem h i _).1 (getD_mem hp)
    refine EvB.step (f := fun k => if nb ns ((mem8 (ns.getD i 0)).getD p 0) i = true then impl_IsGraph.l1 k i (ints ns) n i (ints (mem8 (ns.getD i 0))) ((mem8 (ns.getD i 0)).length : Int) ((p + 1 : Nat) : Int) n (ints ns) else some false) (fun k => ?_) (EvB.and fun _ => hR)
    rw [impl_IsGraph.l1, if_pos (by omega), if_pos (by omega), if_pos (by rw [ints_length]; omega), rd_ints, if_pos (by omega), if_pos (by rw [ints_length]; omega), rd_ints, has_nb h, Option.bind_some, wrap_nat p (by omega)]
  · refine and_congr ⟨fun hh j hj hb => ?_, fun hh p hp => ?_⟩ Iff.rfl
    · obtain ⟨p, hp, rfl⟩ := mem_getD ((mem8_mem h i j).2 ⟨hj, hb⟩)
      exact hh p hp
    · obtain ⟨h1, h2⟩ := (mem8_mem h i _).1 (getD_mem hp)
      exact hh _ h1 h2
theorem graph_l0 {n : Nat} {ns : List Nat} (h : Sets n ns) : EvB (fun k => impl_IsGraph.l0 k (ints ns) n ((0 : Nat) : Int) n (ints ns)) (∀ i, i < n → ∀ j, j < n → nb ns i j = true → nb ns j i = true) := by
  have hl := h.len
  have hn := h.n8
  refine (allLoop0 (fun j k => impl_IsGraph.l0 k (ints ns) n (j : Int) n (ints ns)) n (fun i => ∀ j, j < n → nb ns i j = true → nb ns j i = true) True ?_ ?_).congr (by simp)
  · exact EvB.step (fun k => by rw [impl_IsGraph.l0, if_neg (by omega)]) EvB.true_
  · intro i hi R hR
    refine EvB.step (fun k => ?_) (EvB.bind (f := fun k (t : List Int) => impl_IsGraph.l1 k i (ints ns) n i t (t.length : Int) ((0 : Nat) : Int) n (ints ns)) (members_f (ns.getD i 0) (h.b256 i)) ?_)
    · rw [impl_IsGraph.l0, if_pos (by omega), if_pos (by omega), if_pos (by rw [ints_length]; omega), rd_ints]
      rfl
    · simp only [ints_length]
      exact graph_l1 h i hi R hR
theorem IsGraph_f (a : Int) (l : List Int) (hl : l.length ≤ BM) : EvB (fun k => impl_IsGraph.f k a l) (IsGr a l) := by
  unfold impl_IsGraph.f
  obtain ⟨b, hb, hbb⟩ := (areNear_f a l hl).ev
  refine EvB.bind hb ?_
  cases b with
  | false => exact ⟨fun ⟨n, ns, e1, e2, h⟩ => absurd (hbb.2 ⟨n, ns, e1, e2, h.1⟩) (by simp), fun _ => by simpa using Ev.now false⟩
  | true =>
    obtain ⟨n, ns, rfl, rfl, hn⟩ := hbb.1 rfl
    simp only [if_true, ints_length, hn.1.len]
    refine (graph_l0 hn.1).congr ⟨fun h => ⟨n, ns, rfl, rfl, hn, h⟩, ?_⟩
    rintro ⟨n', ns', e1, e2, h⟩
    obtain rfl : n = n' := by omega
    obtain rfl := ints_inj e2
    exact h.2
theorem dgood_l1 {n : Nat} {ns : List Nat} (h : Sets n ns) (i : Nat) (hi : i < n) (R : Prop) (hR : EvB (fun k => spec_deGood.l0 k (ints ns) n ((i + 1 : Nat) : Int) n (ints ns)) R) :
    EvB (fun k => spec_deGood.l1 k i ((ns.getD i 0 : Nat) : Int) (ints ns) n i n ((0 : Nat) : Int) n (ints ns)) ((∀ j, j < n → (nb ns i j = true → i ≠ j ∧ nb ns j i = true)) ∧ R) := by
  have hl := h.len
  have hn := h.n8
  refine allLoop0 (fun j k => spec_deGood.l1 k i ((ns.getD i 0 : Nat) : Int) (ints ns) n i n (j : Int) n (ints ns)) n (fun j => nb ns i j = true → i ≠ j ∧ nb ns j i = true) R ?_ ?_
  · refine EvB.step (fun k => ?_) hR
    rw [spec_deGood.l1, if_neg (by omega), wrap_nat i (by omega)]
  · intro j hj R hR
    refine EvB.step (f := fun k => if (nb ns i j = true → i ≠ j ∧ nb ns j i = true) then spec_deGood.l1 k i ((ns.getD i 0 : Nat) : Int) (ints ns) n i n ((j + 1 : Nat) : Int) n (ints ns) else some false) (fun k => ?_) (EvB.and fun _ => hR)
    rw [spec_deGood.l1, if_pos (by omega), deHas_nb h i, Option.bind_some, wrap_nat j (by omega)]
    by_cases e : nb ns i j = true
    · rw [if_pos e]
      by_cases hij : i = j
      · subst hij
        rw [if_pos rfl, if_neg (fun hh => (hh e).1 rfl)]
      · rw [if_neg (by omega), if_pos (by omega), if_pos (by rw [ints_length]; omega), rd_ints, deHas_nb h j, Option.bind_some]
        by_cases e2 : nb ns j i = true
        · rw [if_pos e2, if_pos (fun _ => ⟨hij, e2⟩)]
        · rw [if_neg e2, if_neg (fun hh => e2 (hh e).2)]
    · rw [if_neg e, if_pos (fun hh => absurd hh e)]
theorem dgood_l0 {n : Nat} {ns : List Nat} (h : Sets n ns) : EvB (fun k => spec_deGood.l0 k (ints ns) n ((0 : Nat) : Int) n (ints ns)) (∀ i, i < n → ∀ j, j < n → (nb ns i j = true → i ≠ j ∧ nb ns j i = true)) := by
  have hl := h.len
  have hn := h.n8
  refine (allLoop0 (fun j k => spec_deGood.l0 k (ints ns) n (j : Int) n (ints ns)) n (fun i => ∀ j, j < n → (nb ns i j = true → i ≠ j ∧ nb ns j i = true)) True ?_ ?_).congr (by simp)
  · exact EvB.step (fun k => by rw [spec_deGood.l0, if_neg (by omega)]) EvB.true_
  · intro i hi R hR
    refine EvB.step (fun k => ?_) (dgood_l1 h i hi R hR)
    rw [spec_deGood.l0, if_pos (by omega), if_pos (by omega), if_pos (by rw [ints_length]; omega), rd_ints, ints_length, hl]
    rfl
theorem gr_iff {n : Nat} {ns : List Nat} (h : Sets n ns) : (∀ i, i < n → ∀ j, j < n → (nb ns i j = true → i ≠ j ∧ nb ns j i = true)) ↔ Gr n ns := by
  constructor
  · intro g
    refine ⟨⟨h, fun i hi => ?_⟩, fun i hi j hj hb => (g i hi j hj hb).2⟩
    cases e : nb ns i i with
    | false => rfl
    | true => exact absurd rfl (g i hi i hi e).1
  · intro g i hi j hj hb
    refine ⟨fun e => ?_, g.2 i hi j hj hb⟩
    subst e
    rw [g.1.2 i hi] at hb; cases hb
theorem deGood_f (a : Int) (l : List Int) (hl : l.length ≤ BM) : EvB (fun k => spec_deGood.f k a l) (IsGr a l) := by
  have hj : ∀ a l, Ev (fun k => spec_deGood.j0 k true a l) false := fun a l => Ev.step (fun k => by rw [spec_deGood.j0]) (by simpa using Ev.now _)
  have no : ∀ {g : Nat → Option Bool}, ¬ ((1 ≤ a ∧ a ≤ 8) ∧ (l.length : Int) = a ∧ within 0 (wrap64 (shl .i64 1 a - 1)) l = true) → Ev g false → EvB g (IsGr a l) := by
    intro g h1 h2
    exact ⟨fun ⟨n, ns, e1, e2, h⟩ => absurd ((sets_iff a l).2 ⟨n, ns, e1, e2, h.1.1⟩) h1, fun _ => h2⟩
  unfold spec_deGood.f
  simp only [l1In_f, Option.bind_some]
  by_cases h1 : 1 ≤ a ∧ a ≤ 8
  · rw [show (decide (1 ≤ a) && decide (a ≤ 8)) = true by simp; omega]
    simp only [if_true]
    by_cases h2 : (l.length : Int) = a
    · have h3 : 0 ≤ a := by omega
      simp only [if_pos h2, if_pos h3]
      refine EvB.bind (l1All_f l 0 _ hl) ?_
      cases h4 : within 0 (wrap64 (shl .i64 1 a - 1)) l with
      | false => exact no (by simp [h4]) (hj a l)
      | true =>
        obtain ⟨n, ns, rfl, rfl, hs⟩ := (sets_iff a l).1 ⟨h1, h2, h4⟩
        refine EvB.step (fun k => by rw [spec_deGood.j0]) ?_
        simp only [Bool.not_true, Bool.false_eq_true, if_false, h2]
        refine (dgood_l0 hs).congr ⟨fun h => ⟨n, ns, rfl, rfl, (gr_iff hs).1 h⟩, ?_⟩
        rintro ⟨n', ns', e1, e2, h⟩
        obtain rfl : n = n' := by omega
        obtain rfl := ints_inj e2
        exact (gr_iff hs).2 h
    · simp only [if_neg h2]
      exact no (fun h => h2 h.2.1) (hj a l)
  · rw [show (decide (1 ≤ a) && decide (a ≤ 8)) = false by simp; omega]
    exact no (fun h => h1 h.1) (by simpa using hj a l)
end Go.Proofs.YtbcbgehdikockaaDoor.K
namespace Go.Proofs.YtbcbgehdikockaaDoor.K
open Go.RowKit Go.Proofs.YtbcbgehdikockaaDoorW.PrintWords Go.Proofs.YtbcbgehdikockaaDoorW.PrintMore Go.Proofs.YtbcbgehdikockaaDoor.P
set_option linter.unusedSectionVars false
def esw (ns : List Nat) (a b c d : Nat) : Bool :=
  if b = a then false else if c = a ∨ c = b then false else if d = a ∨ d = b ∨ d = c then false
  else nb ns a b && (nb ns c d && (!(nb ns a c) && !(nb ns b d)))
theorem within4 {n a b c d : Nat} (hn : 1 ≤ n) (h8 : n ≤ 8) (ha : a < n) (hb : b < n) (hc : c < n) (hd : d < n) : within 0 (wrap64 ((n : Int) - 1)) [(a : Int), (b : Int), (c : Int), (d : Int)] = true := by
  rw [wrap_id (by omega) (by omega)]
  simp [within]; omega
theorem l1Has_l0 (x : Int) (t : Int) : ∀ (rest done : List Int), (done ++ rest).length ≤ BM → Ev (fun k => spec_l1Has.l0 k x (done ++ rest) ((done ++ rest).length : Int) (done.length : Int)) (rest.any fun y => decide (y = x)) := by
  intro rest
  induction rest with
  | nil => intro done h; exact Ev.step (fun k => by simp [spec_l1Has.l0]; rfl) (Ev.some (by simp))
  | cons y rest ih =>
    intro done h
    obtain ⟨q1, q2, q3, q4, q5⟩ := mid y done rest h
    have ih' := ih (done ++ [y]) (by rw [q5]; exact h)
    rw [q5] at ih'
    refine Ev.step (fun k => by rw [spec_l1Has.l0]) ?_
    simp only [if_pos q1, if_pos q2, q3, q4]
    by_cases e : y = x
    · simp only [if_pos e]; exact Ev.some (by simp [e])
    · simp only [if_neg e]; exact Ev.pair ih' (by simp [e])
theorem l1Has_f (l : List Int) (x : Int) (h : l.length ≤ BM) : Ev (fun k => spec_l1Has.f k l x) (l.any fun y => decide (y = x)) := l1Has_l0 x 0 l [] h
section
variable {n : Nat} {ns : List Nat} (h : Sets n ns) {a b c d : Nat} (ha : a < n) (hb : b < n) (hc : c < n) (hd : d < n)
include h ha hb hc hd
theorem deSwitch_j0 (x : Bool) : Ev (fun k => spec_deSwitch.j0 k [(a : Int), (b : Int), (c : Int), (d : Int)] x (n : Int) (ints ns)) (!x && (nb ns a b && (nb ns c d && (!(nb ns a c) && !(nb ns b d))))) := by
  have hl := h.len
  have L : ((ints ns).length : Int) = (n : Int) := by rw [ints_length, hl]
  refine Ev.step (fun k => by rw [spec_deSwitch.j0]) ?_
  have e0 : rd [(a : Int), (b : Int), (c : Int), (d : Int)] 0 = (a : Int) := rfl
  have e1 : rd [(a : Int), (b : Int), (c : Int), (d : Int)] 1 = (b : Int) := rfl
  have e2 : rd [(a : Int), (b : Int), (c : Int), (d : Int)] 2 = (c : Int) := rfl
  have e3 : rd [(a : Int), (b : Int), (c : Int), (d : Int)] 3 = (d : Int) := rfl
  have hlen : (([(a : Int), (b : Int), (c : Int), (d : Int)] : List Int).length : Int) = 4 := rfl
  simp only [e0, e1, e2, e3, hlen, L, rd_ints, deHas_nb h, Option.bind_some, if_pos (show (0 : Int) < 4 by decide), if_pos (show (1 : Int) < 4 by decide), if_pos (show (2 : Int) < 4 by decide), if_pos (show (3 : Int) < 4 by decide), if_pos (show (0 : Int) ≤ (a : Int) by omega), if_pos (show (0 : Int) ≤ (b : Int) by omega), if_pos (show (0 : Int) ≤ (c : Int) by omega), if_pos (show (a : Int) < (n : Int) by omega), if_pos (show (b : Int) < (n : Int) by omega), if_pos (show (c : Int) < (n : Int) by omega)]
  cases x <;> cases nb ns a b <;> cases nb ns c d <;> cases nb ns a c <;> cases nb ns b d <;> exact Ev.now _
theorem deSwitch_f : Ev (fun k => spec_deSwitch.f k (n : Int) (ints ns) [(a : Int), (b : Int), (c : Int), (d : Int)]) (esw ns a b c d) := by
  have hl := h.len
  have w := l1All_f [(a : Int), (b : Int), (c : Int), (d : Int)] 0 (wrap64 ((n : Int) - 1)) (by simp [BM])
  rw [within4 h.n1 h.n8 ha hb hc hd] at w
  have e1 : rd [(a : Int), (b : Int), (c : Int), (d : Int)] 1 = (b : Int) := rfl
  have e2 : rd [(a : Int), (b : Int), (c : Int), (d : Int)] 2 = (c : Int) := rfl
  have e3 : rd [(a : Int), (b : Int), (c : Int), (d : Int)] 3 = (d : Int) := rfl
  have hlen : (([(a : Int), (b : Int), (c : Int), (d : Int)] : List Int).length : Int) = 4 := rfl
  have w1 := l1Has_f [(a : Int)] b (by simp [BM])
  have w2 := l1Has_f [(a : Int), (b : Int)] c (by simp [BM])
  have w3 := l1Has_f [(a : Int), (b : Int), (c : Int)] d (by simp [BM])
  have t1 : ([(a : Int), (b : Int), (c : Int), (d : Int)] : List Int).take 1 = [(a : Int)] := rfl
  have t2 : ([(a : Int), (b : Int), (c : Int), (d : Int)] : List Int).take 2 = [(a : Int), (b : Int)] := rfl
  have t3 : ([(a : Int), (b : Int), (c : Int), (d : Int)] : List Int).take 3 = [(a : Int), (b : Int), (c : Int)] := rfl
  have J := fun x => deSwitch_j0 h ha hb hc hd x
  unfold spec_deSwitch.f
  simp only [hlen, if_true, e1, e2, e3, t1, t2, t3, if_pos (show (1 : Int) ≤ 4 by decide), if_pos (show (2 : Int) ≤ 4 by decide), if_pos (show (3 : Int) ≤ 4 by decide), if_pos (show (1 : Int) < 4 by decide), if_pos (show (2 : Int) < 4 by decide), if_pos (show (3 : Int) < 4 by decide)]
  refine Ev.bind w ?_
  simp only [if_true]
  refine Ev.bind w1 ?_
  unfold esw
  by_cases q1 : b = a
  · rw [if_pos q1, show ([(a : Int)].any fun y => decide (y = (b : Int))) = true by simp [q1]]
    simp only [if_true]
    exact Ev.pair (J true) (by simp)
  · rw [if_neg q1, show ([(a : Int)].any fun y => decide (y = (b : Int))) = false by simp; omega]
    simp only [Bool.false_eq_true, if_false]
    refine Ev.bind w2 ?_
    by_cases q2 : c = a ∨ c = b
    · rw [if_pos q2, show ([(a : Int), (b : Int)].any fun y => decide (y = (c : Int))) = true by simp; omega]
      simp only [if_true]
      exact Ev.pair (J true) (by simp)
    · rw [if_neg q2, show ([(a : Int), (b : Int)].any fun y => decide (y = (c : Int))) = false by simp; omega]
      simp only [Bool.false_eq_true, if_false]
      refine Ev.bind w3 ?_
      by_cases q3 : d = a ∨ d = b ∨ d = c
      · rw [if_pos q3, show ([(a : Int), (b : Int), (c : Int)].any fun y => decide (y = (d : Int))) = true by simp; omega]
        exact Ev.pair (J true) (by simp)
      · rw [if_neg q3, show ([(a : Int), (b : Int), (c : Int)].any fun y => decide (y = (d : Int))) = false by simp; omega]
        exact Ev.pair (J false) (by simp)
theorem isEdgeSwitch_j1 (x : Bool) : Ev (fun k => impl_isEdgeSwitch.j1 k (a : Int) (b : Int) (c : Int) (d : Int) x (n : Int) (ints ns)) (!x && (nb ns a b && (nb ns c d && (!(nb ns a c) && !(nb ns b d))))) := by
  have hl := h.len
  have L : ((ints ns).length : Int) = (n : Int) := by rw [ints_length, hl]
  refine Ev.step (fun k => by rw [impl_isEdgeSwitch.j1]) ?_
  simp only [L, rd_ints, has_nb h, Option.bind_some, if_pos (show (0 : Int) ≤ (a : Int) by omega), if_pos (show (0 : Int) ≤ (b : Int) by omega), if_pos (show (0 : Int) ≤ (c : Int) by omega), if_pos (show (a : Int) < (n : Int) by omega), if_pos (show (b : Int) < (n : Int) by omega), if_pos (show (c : Int) < (n : Int) by omega)]
  cases x <;> cases nb ns a b <;> cases nb ns c d <;> cases nb ns a c <;> cases nb ns b d <;> exact Ev.now _
end
theorem isEdgeSwitch_f {n : Nat} {ns : List Nat} (h : Near n ns) {a b c d : Nat} (ha : a < n) (hb : b < n) (hc : c < n) (hd : d < n) : Ev (fun k => impl_isEdgeSwitch.f k (n : Int) (ints ns) [(a : Int), (b : Int), (c : Int), (d : Int)]) (esw ns a b c d) := by
  have w := allWithin_f [(a : Int), (b : Int), (c : Int), (d : Int)] 0 (wrap64 ((n : Int) - 1)) (by simp [BM])
  rw [within4 h.1.n1 h.1.n8 ha hb hc hd] at w
  have e0 : rd [(a : Int), (b : Int), (c : Int), (d : Int)] 0 = (a : Int) := rfl
  have e1 : rd [(a : Int), (b : Int), (c : Int), (d : Int)] 1 = (b : Int) := rfl
  have e2 : rd [(a : Int), (b : Int), (c : Int), (d : Int)] 2 = (c : Int) := rfl
  have e3 : rd [(a : Int), (b : Int), (c : Int), (d : Int)] 3 = (d : Int) := rfl
  have hlen : (([(a : Int), (b : Int), (c : Int), (d : Int)] : List Int).length : Int) = 4 := rfl
  have J := fun x => isEdgeSwitch_j1 h.1 ha hb hc hd x
  unfold impl_isEdgeSwitch.f
  simp only [hlen, if_true]
  refine Ev.bind w ?_
  refine Ev.step (fun k => by rw [impl_isEdgeSwitch.j0]) ?_
  simp only [Bool.not_true, Bool.false_eq_true, if_false, hlen, e0, e1, e2, e3, if_pos (show (0 : Int) < 4 by decide), if_pos (show (1 : Int) < 4 by decide), if_pos (show (2 : Int) < 4 by decide), if_pos (show (3 : Int) < 4 by decide)]
  have hno : ∀ i, i < n → nb ns i i = false := h.2
  unfold esw
  by_cases q1 : (a : Int) = d
  · simp only [if_pos q1]
    have : a = d := by omega
    exact Ev.pair (J true) (by simp [this])
  · simp only [if_neg q1]
    by_cases q2 : (b : Int) = c
    · simp only [if_pos q2]
      have : b = c := by omega
      exact Ev.pair (J true) (by simp [this])
    · simp only [if_neg q2]
      by_cases q3 : (a : Int) = c
      · simp only [if_pos q3]
        have : a = c := by omega
        exact Ev.pair (J true) (by simp [this])
      · simp only [if_neg q3]
        refine Ev.pair (J _) ?_
        by_cases q4 : b = d
        · subst q4; simp
        · have q4' : ¬ ((b : Int) = (d : Int)) := by omega
          by_cases q5 : b = a
          · subst q5; simp [hno b hb]
          · by_cases q6 : d = c
            · subst q6; simp [hno d hd]
            · simp [q4', show ¬ c = a by omega, show ¬ c = b by omega, show ¬ d = a by omega, show ¬ d = b by omega, q5, q6]
end Go.Proofs.YtbcbgehdikockaaDoor.K
namespace Go.Proofs.YtbcbgehdikockaaDoor.K
open Go.RowKit Go.Proofs.YtbcbgehdikockaaDoorW.PrintWords
theorem contLoop2 {σ α : Type} (g1 g2 : σ → Nat → Nat → Option α) (n : Nat) (I : σ → Nat → Prop)
    (hs : ∀ s j, j < n → I s j → ∃ s', I s' (j + 1) ∧ (∀ x, Ev (g1 s' (j + 1)) x → Ev (g1 s j) x) ∧ (∀ x, Ev (g2 s' (j + 1)) x → Ev (g2 s j) x)) : ∀ d s j, j + d = n → I s j → ∃ s', I s' n ∧ (∀ x, Ev (g1 s' n) x → Ev (g1 s j) x) ∧ (∀ x, Ev (g2 s' n) x → Ev (g2 s j) x) := by
  intro d
  induction d with
  | zero =>
    intro s j hj hi
    obtain rfl : j = n := by omega
    exact ⟨s, hi, fun x h => h, fun x h => h⟩
  | succ d ih =>
    intro s j hj hi
    obtain ⟨s1, h1, h2, h2'⟩ := hs s j (by omega) hi
    obtain ⟨s2, h3, h4, h4'⟩ := ih _ _ (by omega) h1
    exact ⟨s2, h3, fun x h => h2 x (h4 x h), fun x h => h2' x (h4' x h)⟩
end Go.Proofs.YtbcbgehdikockaaDoor.K
namespace Go.Proofs.YtbcbgehdikockaaDoor.K
open Go.RowKit Go.Proofs.YtbcbgehdikockaaDoorW.PrintWords Go.Proofs.YtbcbgehdikockaaDoorW.PrintMore Go.Proofs.YtbcbgehdikockaaDoor.P
def Quad (s : List (List Int)) (t : Nat) : Prop := s.length ≤ t ∧ ∀ r ∈ s, r.length = 4
theorem Quad.mono {s : List (List Int)} {t u : Nat} (h : Quad s t) (e : t ≤ u) : Quad s u := ⟨Nat.le_trans h.1 e, h.2⟩
theorem esw_l2 {n : Nat} {ns : List Nat} (h : Near n ns) (a b c : Nat) (ha : a < n) (hb : b < n) (hc : c < n) (s : List (List Int)) (hs : Quad s (512 * a + 64 * b + 8 * c)) : ∃ s', Quad s' (512 * a + 64 * b + 8 * (c + 1)) ∧
    (∀ x, Ev (fun k => impl_edgeSwitches.l2 k s' (a : Int) (b : Int) n (a : Int) n (b : Int) n ((c + 1 : Nat) : Int) n (ints ns)) x → Ev (fun k => impl_edgeSwitches.l2 k s (a : Int) (b : Int) n (a : Int) n (b : Int) n (c : Int) n (ints ns)) x) ∧
    (∀ x, Ev (fun k => spec_deSwitches.l2 k s' (a : Int) (b : Int) ((c + 1 : Nat) : Int) n (ints ns)) x → Ev (fun k => spec_deSwitches.l2 k s (a : Int) (b : Int) (c : Int) n (ints ns)) x) := by
  have hl := h.1.len
  have hn := h.1.n8
  obtain ⟨s', H, H1, H2⟩ := contLoop2 (fun s d k => impl_edgeSwitches.l3 k s (a : Int) (b : Int) (c : Int) n (a : Int) n (b : Int) n (c : Int) n (d : Int) n (ints ns)) (fun s d k => spec_deSwitches.l3 k s (a : Int) (b : Int) (c : Int) (d : Int) n (ints ns)) n (fun s d => Quad s (512 * a + 64 * b + 8 * c + d)) (fun s d hd hI => by
    have c1 := isEdgeSwitch_f h ha hb hc hd
    have c2 := deSwitch_f h.1 ha hb hc hd
    have hb : s.length < 5864062014805 := by have := hI.1; omega
    cases e : esw ns a b c d with
    | true =>
      rw [e] at c1 c2
      refine ⟨s ++ [[(a : Int), (b : Int), (c : Int), (d : Int)]], ⟨by have := hI.1; simp; omega, fun r hr => ?_⟩, fun x hx => ?_, fun x hx => ?_⟩
      · rcases List.mem_append.1 hr with hr | hr
        · exact hI.2 r hr
        · simp at hr; subst hr; rfl
      · refine Ev.step (fun k => by rw [impl_edgeSwitches.l3, if_pos (by omega), Option.bind_some]) (Ev.bind c1 ?_)
        simp only [if_true, if_pos hb]
        rw [wrap_nat d (by omega)]; exact hx
      · refine Ev.step (fun k => by rw [spec_deSwitches.l3, if_pos (by omega), Option.bind_some]) (Ev.bind c2 ?_)
        simp only [if_true, if_pos hb]
        rw [wrap_nat d (by omega)]; exact hx
    | false =>
      rw [e] at c1 c2
      refine ⟨s, hI.mono (by omega), fun x hx => ?_, fun x hx => ?_⟩
      · refine Ev.step (fun k => by rw [impl_edgeSwitches.l3, if_pos (by omega), Option.bind_some]) (Ev.bind c1 ?_)
        simp only [Bool.false_eq_true, if_false]; rw [wrap_nat d (by omega)]; exact hx
      · refine Ev.step (fun k => by rw [spec_deSwitches.l3, if_pos (by omega), Option.bind_some]) (Ev.bind c2 ?_)
        simp only [Bool.false_eq_true, if_false]; rw [wrap_nat d (by omega)]; exact hx) n s 0 (by omega) (hs.mono (by omega))
  refine ⟨s', H.mono (by omega), fun x hx => ?_, fun x hx => ?_⟩
  · refine Ev.step (fun k => by rw [impl_edgeSwitches.l2, if_pos (by omega)]; rfl) (H1 x ?_)
    exact Ev.step (fun k => by rw [impl_edgeSwitches.l3, if_neg (by omega), wrap_nat c (by omega)]) hx
  · refine Ev.step (fun k => by rw [spec_deSwitches.l2, if_pos (by omega)]; rfl) (H2 x ?_)
    exact Ev.step (fun k => by rw [spec_deSwitches.l3, if_neg (by omega), wrap_nat c (by omega)]) hx
theorem esw_l1 {n : Nat} {ns : List Nat} (h : Near n ns) (a b : Nat) (ha : a < n) (hb : b < n) (s : List (List Int)) (hs : Quad s (512 * a + 64 * b)) : ∃ s', Quad s' (512 * a + 64 * (b + 1)) ∧
    (∀ x, Ev (fun k => impl_edgeSwitches.l1 k s' (a : Int) n (a : Int) n ((b + 1 : Nat) : Int) n (ints ns)) x → Ev (fun k => impl_edgeSwitches.l1 k s (a : Int) n (a : Int) n (b : Int) n (ints ns)) x) ∧
    (∀ x, Ev (fun k => spec_deSwitches.l1 k s' (a : Int) ((b + 1 : Nat) : Int) n (ints ns)) x → Ev (fun k => spec_deSwitches.l1 k s (a : Int) (b : Int) n (ints ns)) x) := by
  have hl := h.1.len
  have hn := h.1.n8
  obtain ⟨s', H, H1, H2⟩ := contLoop2 (fun s c k => impl_edgeSwitches.l2 k s (a : Int) (b : Int) n (a : Int) n (b : Int) n (c : Int) n (ints ns)) (fun s c k => spec_deSwitches.l2 k s (a : Int) (b : Int) (c : Int) n (ints ns)) n (fun s c => Quad s (512 * a + 64 * b + 8 * c)) (fun s c hc hI => esw_l2 h a b c ha hb hc s hI) n s 0 (by omega) (hs.mono (by omega))
  refine ⟨s', H.mono (by omega), fun x hx => ?_, fun x hx => ?_⟩
  · refine Ev.step (fun k => by rw [impl_edgeSwitches.l1, if_pos (by omega)]; rfl) (H1 x ?_)
    exact Ev.step (fun k => by rw [impl_edgeSwitches.l2, if_neg (by omega), wrap_nat b (by omega)]) hx
  · refine Ev.step (fun k => by rw [spec_deSwitches.l1, if_pos (by omega)]; rfl) (H2 x ?_)
    exact Ev.step (fun k => by rw [spec_deSwitches.l2, if_neg (by omega), wrap_nat b (by omega)]) hx
theorem esw_l0 {n : Nat} {ns : List Nat} (h : Near n ns) (a : Nat) (ha : a < n) (s : List (List Int)) (hs : Quad s (512 * a)) : ∃ s', Quad s' (512 * (a + 1)) ∧
    (∀ x, Ev (fun k => impl_edgeSwitches.l0 k s' n ((a + 1 : Nat) : Int) n (ints ns)) x → Ev (fun k => impl_edgeSwitches.l0 k s n (a : Int) n (ints ns)) x) ∧
    (∀ x, Ev (fun k => spec_deSwitches.l0 k s' ((a + 1 : Nat) : Int) n (ints ns)) x → Ev (fun k => spec_deSwitches.l0 k s (a : Int) n (ints ns)) x) := by
  have hl := h.1.len
  have hn := h.1.n8
  obtain ⟨s', H, H1, H2⟩ := contLoop2 (fun s b k => impl_edgeSwitches.l1 k s (a : Int) n (a : Int) n (b : Int) n (ints ns)) (fun s b k => spec_deSwitches.l1 k s (a : Int) (b : Int) n (ints ns)) n (fun s b => Quad s (512 * a + 64 * b)) (fun s b hb hI => esw_l1 h a b ha hb s hI) n s 0 (by omega) (hs.mono (by omega))
  refine ⟨s', H.mono (by omega), fun x hx => ?_, fun x hx => ?_⟩
  · refine Ev.step (fun k => by rw [impl_edgeSwitches.l0, if_pos (by omega)]; rfl) (H1 x ?_)
    exact Ev.step (fun k => by rw [impl_edgeSwitches.l1, if_neg (by omega), wrap_nat a (by omega)]) hx
  · refine Ev.step (fun k => by rw [spec_deSwitches.l0, if_pos (by omega)]; rfl) (H2 x ?_)
    exact Ev.step (fun k => by rw [spec_deSwitches.l1, if_neg (by omega), wrap_nat a (by omega)]) hx
theorem eswitches_both {n : Nat} {ns : List Nat} (h : Near n ns) : ∃ s', Quad s' 4096 ∧ Ev (fun k => impl_edgeSwitches.f k n (ints ns)) s' ∧ Ev (fun k => spec_deSwitches.f k n (ints ns)) s' := by
  have hn := h.1.n8
  obtain ⟨s', H, H1, H2⟩ := contLoop2 (fun s a k => impl_edgeSwitches.l0 k s n (a : Int) n (ints ns)) (fun s a k => spec_deSwitches.l0 k s (a : Int) n (ints ns)) n (fun s a => Quad s (512 * a)) (fun s a ha hI => esw_l0 h a ha s hI) n [] 0 (by omega) ⟨by simp, by simp⟩
  refine ⟨s', H.mono (by omega), ?_, ?_⟩
  · unfold impl_edgeSwitches.f
    exact H1 _ (Ev.step (fun k => by rw [impl_edgeSwitches.l0, if_neg (by omega)]) (Ev.now _))
  · unfold spec_deSwitches.f
    exact H2 _ (Ev.step (fun k => by rw [spec_deSwitches.l0, if_neg (by omega)]) (Ev.now _))
theorem EdgeSwitches_ans (a0 : Int) (l0 : List Int) (hl : l0.length ≤ 1048576) : ∃ (w0 : List (List Int)) (wb : Bool), Ev (fun k => spec_EdgeSwitches.f k a0 l0) (w0, wb) ∧ Ev (fun k => impl_EdgeSwitches.f k a0 l0) (w0, wb) ∧ (w0.length ≤ 1048576 ∧ ∀ r ∈ w0, r.length ≤ 1048576) := by
  have hB : l0.length ≤ BM := by simp only [BM]; omega
  by_cases hT : IsGr a0 l0
  · have e1 := (IsGraph_f a0 l0 hB).1 hT
    have e2 := (deGood_f a0 l0 hB).1 hT
    obtain ⟨n, ns, rfl, rfl, hT⟩ := hT
    obtain ⟨s', H, H1, H2⟩ := eswitches_both hT.1
    refine ⟨s', true, ?_, ?_, by have := H.1; omega, fun r hr => by rw [H.2 r hr]; omega⟩
    · unfold spec_EdgeSwitches.f
      refine Ev.bind e2 ?_
      simp only [if_true]
      exact Ev.bind H2 (Ev.now _)
    · unfold impl_EdgeSwitches.f
      refine Ev.bind e1 ?_
      simp only [if_true]
      exact Ev.bind H1 (Ev.now _)
  · have e1 := (IsGraph_f a0 l0 hB).2 hT
    have e2 := (deGood_f a0 l0 hB).2 hT
    refine ⟨[], false, ?_, ?_, by simp, by simp⟩
    · unfold spec_EdgeSwitches.f
      refine Ev.bind e2 ?_
      simp only [Bool.false_eq_true, if_false]
      exact Ev.now _
    · unfold impl_EdgeSwitches.f
      refine Ev.bind e1 ?_
      simp only [Bool.false_eq_true, if_false]
      exact Ev.now _
end Go.Proofs.YtbcbgehdikockaaDoor.K
namespace Go.Proofs.YtbcbgehdikockaaDoor.K
open Go.RowKit Go.Proofs.YtbcbgehdikockaaDoorW.PrintWords Go.Proofs.YtbcbgehdikockaaDoor.P
theorem toIntS_l0 : ∀ (rest done : List Int) , (done ++ rest).length ≤ BM → Ev (fun k => laws_toIntS.l0 k (done ++ rest) (done ++ List.replicate rest.length 0) done.length) (done ++ rest) := by
  intro rest
  induction rest with
  | nil => intro done h; exact Ev.step (fun k => by simp [laws_toIntS.l0]; rfl) (Ev.some (by simp))
  | cons x rest ih =>
    intro done h
    have ih' := ih (done ++ [x])
    obtain ⟨h1, h2, h3, h4, h5⟩ := mid x done rest h
    rw [h5] at ih'
    refine Ev.step (fun k => by rw [laws_toIntS.l0]) ?_
    have h6 : (done.length : Int) < ((done ++ List.replicate (x :: rest).length (0:Int)).length : Int) := by simp; omega
    simp only [if_pos h1, if_pos h2, if_pos h6, h3, h4]
    rw [List.length_cons, List.replicate_succ, set_mid]
    exact ih' h
theorem toIntS_f (l : List Int) (h : l.length ≤ BM) : Ev (fun k => laws_toIntS.f k l) l := by
  unfold laws_toIntS.f
  simp only [BM] at h
  have e1 : 0 ≤ (l.length : Int) := by omega
  have e2 : (l.length : Int).toNat ≤ 35184372088832 := by omega
  simp only [if_pos e1, if_pos e2]
  exact toIntS_l0 l [] h
theorem eqIntS_l0 : ∀ (rest done rest2 done2 : List Int), done.length = done2.length → rest.length = rest2.length → (done ++ rest).length ≤ BM → Ev (fun k => laws_eqIntS.l0 k (done ++ rest) (done2 ++ rest2) done.length) (decide (rest = rest2)) := by
  intro rest
  induction rest with
  | nil =>
    intro done rest2 done2 hl hl2 h
    obtain rfl : rest2 = [] := by simpa using hl2.symm
    exact Ev.step (fun k => by simp [laws_eqIntS.l0]; rfl) (Ev.some (by simp))
  | cons x rest ih =>
    intro done rest2 done2 hl hl2 h
    obtain ⟨y, rest2, rfl⟩ : ∃ y r, rest2 = y :: r := by cases rest2 with | nil => simp at hl2 | cons y r => exact ⟨y, r, rfl⟩
    have ih' := ih (done ++ [x]) rest2 (done2 ++ [y]) (by simp [hl]) (by simpa using hl2)
    obtain ⟨h1, h2, h3, h4, h5⟩ := mid x done rest h
    have hh : (done2 ++ y :: rest2).length ≤ BM := by simp at h hl2 ⊢; omega
    obtain ⟨g1, g2, g3, g4, g5⟩ := mid y done2 rest2 hh
    rw [h5, g5] at ih'
    refine Ev.step (fun k => by rw [laws_eqIntS.l0]) ?_
    rw [← hl] at g1 g3
    simp only [if_pos h1, if_pos h2, if_pos g1, h3, h4, g3]
    refine Ev.ite (fun e => ?_) (fun e => ?_)
    · subst e; simpa using ih' h
    · exact Ev.some (by simp [e])
theorem eqIntS_f (l m : List Int) (h : l.length ≤ BM) : Ev (fun k => laws_eqIntS.f k l m) (decide (l = m)) := by
  unfold laws_eqIntS.f
  refine Ev.ite (fun e => ?_) (fun e => ?_)
  · exact eqIntS_l0 l [] m [] rfl (by omega) h
  · exact Ev.some (by symm; simp; rintro rfl; exact e rfl)
theorem eqIntS_same (l : List Int) (h : l.length ≤ BM) : Ev (fun k => laws_eqIntS.f k l l) true := by simpa using eqIntS_f l l h
theorem midL (x : List Int) (done rest : List (List Int)) (h : (done ++ x :: rest).length ≤ maxLen) :
    ((done.length : Int) < ((done ++ x :: rest).length : Int)) ∧ 0 ≤ (done.length : Int) ∧ rd_L1 (done ++ x :: rest) (done.length : Int) = x ∧ wrap64 ((done.length : Int) + 1) = ((done ++ [x]).length : Int) ∧ done ++ [x] ++ rest = done ++ x :: rest := by
  unfold maxLen at h
  refine ⟨by simp; omega, by omega, by simp [rd_L1], ?_, by simp⟩
  simp at h ⊢
  unfold wrap64; omega
theorem eqIntSS_l0 : ∀ (rest done rest2 done2 : List (List Int)), done.length = done2.length → rest.length = rest2.length → (done ++ rest).length ≤ BM → (∀ r ∈ rest, r.length ≤ BM) → Ev (fun k => laws_eqIntSS.l0 k (done ++ rest) (done2 ++ rest2) done.length) (decide (rest = rest2)) := by
  intro rest
  induction rest with
  | nil =>
    intro done rest2 done2 hl hl2 h _
    obtain rfl : rest2 = [] := by simpa using hl2.symm
    exact Ev.step (fun k => by simp [laws_eqIntSS.l0]; rfl) (Ev.some (by simp))
  | cons x rest ih =>
    intro done rest2 done2 hl hl2 h hr
    obtain ⟨y, rest2, rfl⟩ : ∃ y r, rest2 = y :: r := by cases rest2 with | nil => simp at hl2 | cons y r => exact ⟨y, r, rfl⟩
    have ih' := ih (done ++ [x]) rest2 (done2 ++ [y]) (by simp [hl]) (by simpa using hl2)
    have hm : (done ++ x :: rest).length ≤ maxLen := by unfold maxLen; simp only [BM] at h; omega
    obtain ⟨h1, h2, h3, h4, h5⟩ := midL x done rest hm
    have hh : (done2 ++ y :: rest2).length ≤ maxLen := by simp at hm hl2 ⊢; omega
    obtain ⟨g1, g2, g3, g4, g5⟩ := midL y done2 rest2 hh
    rw [h5, g5] at ih'
    refine Ev.step (fun k => by rw [laws_eqIntSS.l0]) ?_
    rw [← hl] at g1 g3
    simp only [if_pos h1, if_pos h2, if_pos g1, h3, h4, g3]
    refine Ev.bind (eqIntS_f x y (hr x (by simp))) ?_
    by_cases e : x = y
    · subst e; simpa using ih' h (fun y hy => hr y (by simp [hy]))
    · simpa [e] using Ev.now false
theorem eqIntSS_f (l m : List (List Int)) (h : l.length ≤ BM) (hr : ∀ r ∈ l, r.length ≤ BM) : Ev (fun k => laws_eqIntSS.f k l m) (decide (l = m)) := by
  unfold laws_eqIntSS.f
  refine Ev.ite (fun e => ?_) (fun e => ?_)
  · exact eqIntSS_l0 l [] m [] rfl (by omega) h hr
  · exact Ev.some (by symm; simp; rintro rfl; exact e rfl)
theorem eqIntSS_same (l : List (List Int)) (h : l.length ≤ BM) (hr : ∀ r ∈ l, r.length ≤ BM) : Ev (fun k => laws_eqIntSS.f k l l) true := by simpa using eqIntSS_f l l h hr
theorem seqOf_from (a : Int) (n : Nat) : seqOf a n = seqFrom a n := by
  induction n generalizing a with
  | zero => rfl
  | succ n ih => simp [seqOf, seqFrom, ih]
theorem seqRows_length (a : Int) (l : List (List Int)) : (seqRows a l).2.length = l.length := by
  induction l generalizing a with
  | nil => rfl
  | cons r l ih => simp [seqRows, ih]
theorem seqRows_le (a : Int) (l : List (List Int)) : a ≤ (seqRows a l).1 := by
  induction l generalizing a with
  | nil => simp [seqRows]
  | cons r l ih => have := ih (a + r.length); simp only [seqRows]; omega
theorem markSS_f' (l : List (List Int)) (a : Int) (h0 : 0 ≤ a) (h1 : a ≤ 1048576) (h : l.length ≤ 1048576) (hr : ∀ r ∈ l, r.length ≤ 1048576) : laws_markIntSS.f l a = some (seqRows a l) := by
  unfold laws_markIntSS.f
  rw [if_pos ⟨h0, h1, h, hr⟩]
theorem heldSS_l0 : ∀ (rest : List (List Int)) (done : List (List Int)) (b : Int), (done ++ (seqRows b rest).2).length ≤ 1048576 → (∀ r ∈ rest, r.length ≤ 1048576) → 0 ≤ b → b ≤ 1048576 + 1048576 * done.length → Ev (fun k => laws_heldIntSS.l0 k (done ++ (seqRows b rest).2) b done.length) (seqRows b rest).1 := by
  intro rest
  induction rest with
  | nil => intro done b h _ _ _; exact Ev.step (fun k => by simp [laws_heldIntSS.l0, seqRows]; rfl) (Ev.some (by simp [seqRows]))
  | cons x rest ih =>
    intro done b h hr h0 hb
    simp only [seqRows] at h ⊢
    have hx := hr x (by simp)
    have hlen : (done ++ seqOf b x.length :: (seqRows (b + x.length) rest).2).length = done.length + 1 + rest.length := by simp [seqRows_length]; omega
    have ih' := ih (done ++ [seqOf b x.length]) (b + x.length) (by simpa using h) (fun r h => hr r (by simp [h])) (by omega) (by rw [List.length_append, List.length_singleton]; omega)
    have h1 : (done.length : Int) < ((done ++ seqOf b x.length :: (seqRows (b + x.length) rest).2).length : Int) := by omega
    have h2 : 0 ≤ (done.length : Int) := by omega
    have h3 : rd_L1 (done ++ seqOf b x.length :: (seqRows (b + x.length) rest).2) (done.length : Int) = seqOf b x.length := by simp [rd_L1]
    have h4 : wrap64 ((done.length : Int) + 1) = ((done ++ [seqOf b x.length]).length : Int) := by rw [wrap_nat _ (by omega)]; simp
    refine Ev.step (fun k => by rw [laws_heldIntSS.l0]) ?_
    simp only [if_pos h1, if_pos h2, h3, h4]
    have hd : Ev (fun k => laws_heldIntS.f k (seqOf b x.length) b) (b + x.length) := by rw [seqOf_from]; exact heldIntS_f b x.length (by simp only [BM]; omega) h0 (by omega)
    refine Ev.bind hd ?_
    have h5 : ¬ (b + (x.length : Int) < 0) := by omega
    simp only [if_neg h5]
    simpa using ih'
theorem heldSS_f (l : List (List Int)) (h : l.length ≤ 1048576) (hr : ∀ r ∈ l, r.length ≤ 1048576) : Ev (fun k => laws_heldIntSS.f k (seqRows 1 l).2 1) (seqRows 1 l).1 := by
  unfold laws_heldIntSS.f
  exact heldSS_l0 l [] 1 (by simpa [seqRows_length] using h) hr (by omega) (by simp)
theorem szIntS_f (l : List Int) (a : Int) (hl : l.length ≤ maxLen) (h0 : 0 ≤ a) (h1 : a ≤ 1048576) : ∃ r, laws_szIntS.f l a = some r ∧ (0 ≤ r → l.length ≤ a ∧ r ≤ a) := by
  unfold maxLen at hl
  have e : wrap64 (a - (l.length : Int)) = a - l.length := by unfold wrap64; omega
  unfold laws_szIntS.f
  rw [e]
  by_cases h : a - (l.length : Int) < 0
  · rw [if_pos h]; exact ⟨-1, rfl, by omega⟩
  · rw [if_neg h]; exact ⟨_, rfl, by omega⟩
theorem szGraph_f (n : Int) (l : List Int) (hl : l.length ≤ maxLen) : ∃ r, laws_szGraph.f n l 1048576 = some r ∧ (0 ≤ r → l.length ≤ 1048576) := by
  obtain ⟨r, h1, h2⟩ := szIntS_f l 1048576 hl (by omega) (by omega)
  unfold laws_szGraph.f
  rw [h1, Option.bind_some]
  by_cases h : r < 0
  · rw [if_pos h]; exact ⟨-1, rfl, by omega⟩
  · rw [if_neg h]; exact ⟨r, rfl, fun h => by have := (h2 h).1; omega⟩
theorem toGraph_f (n : Int) (l : List Int) (h : l.length ≤ BM) : Ev (fun k => laws_toGraph.f k n l) (n, l) := by
  unfold laws_toGraph.f
  exact Ev.bind (toIntS_f l h) (Ev.now _)
theorem eqGraphL_same (n : Int) (l : List Int) (h : l.length ≤ BM) : Ev (fun k => laws_eqGraph.f k n l n l) true := by
  unfold laws_eqGraph.f
  simp only [if_true]
  exact Ev.bind (eqIntS_same l h) (by simpa using Ev.now true)
theorem markGraph_f (n : Int) (l : List Int) (a : Int) (h : l.length ≤ BM) (h0 : 0 ≤ a) (ha : a + l.length ≤ 4611686018427387904) : Ev (fun k => laws_markGraph.f k n l a) (a + l.length, seqFrom a l.length) := by
  unfold laws_markGraph.f
  exact Ev.bind (markIntS_f l a h h0 ha) (Ev.now _)
end Go.Proofs.YtbcbgehdikockaaDoor.K
namespace Go.Proofs.YtbcbgehdikockaaDoor.Pure
open Go.RowKit Go.Proofs.YtbcbgehdikockaaDoorW.PrintWords Go.Proofs.YtbcbgehdikockaaDoor.P Go.Proofs.YtbcbgehdikockaaDoor.K
set_option maxRecDepth 10000 in
theorem FnExactEdgeSwitches : ∀ (a0 : Int) (l0 : List Int), (Lit.int .i64 a0).wf = true → l0.length ≤ maxLen → (∀ n ∈ l0, (Lit.int .i64 n).wf = true) → laws_FnExactEdgeSwitches.Good a0 l0 true := by
  intro a0 l0 hw_a0 hm0 hw0
  refine ⟨rfl, ?_⟩
  obtain ⟨n0, hs0, hb0⟩ := szGraph_f a0 l0 hm0
  refine ⟨n0, hs0, ?_⟩
  by_cases hn0 : n0 < 0
  · exact Or.inl hn0
  refine Or.inr ⟨by omega, ?_⟩
  have B0 : l0.length ≤ 1048576 := hb0 (by omega)
  obtain ⟨w0, wb, hsp, him, W0⟩ := EdgeSwitches_ans a0 l0 B0
  have lw0 := seqRows_le 1 w0
  exact ⟨w0, (seqRows 1 w0).2, (seqFrom 1 l0.length), wb, (1 + (l0.length : Int)), (seqRows 1 w0).1, Ev.rounds (toGraph_f a0 l0 (by have := B0; simp only [BM]; omega)), Ev.rounds (hsp), Ev.rounds (him), Ev.rounds (eqIntSS_same w0 (by have := W0.1; simp only [BM]; omega) (fun r hr => by have := W0.2 r hr; simp only [BM]; omega)), Ev.rounds (eqGraphL_same a0 l0 (by have := B0; simp only [BM]; omega)), Ev.rounds (markGraph_f a0 l0 1 (by have := B0; simp only [BM]; omega) (by omega) (by have := B0; omega)), markSS_f' w0 1 (by omega) (by omega) W0.1 W0.2, Ev.rounds (heldSS_f w0 W0.1 W0.2), by omega, by omega, seqRows_length _ _⟩
end Go.Proofs.YtbcbgehdikockaaDoor.Pure
namespace Go.Proofs.YtbcbgehdikockaaDoor.K
open Go.RowKit Go.ChangeShapes Go.WideShapes Go.ChangeAt Go.Deep Go.Proofs.YtbcbgehdikockaaDoorW.PrintWords
section
variable {H : Type} {enc : TypeId × Value → H} {P : Program} {w : World}
theorem open_row {t e : TypeId} {fuel : Nat} {cs : List Value} {x : DataW H × List MemPlace} (ht : P.underlying t = some (.slice e)) (he : P.underlying e = some (.int .i64)) (hc : P.cellsOf e = 1)
    (h : DataW.trod enc P w 0 (fun _ => true) true fuel t cs = some x) :
    ∃ (A : Option Addr) (c : Nat) (l : List Int), cs = [.slice A l.length c] ∧ l.length ≤ c ∧ l.length ≤ maxLen ∧ (∀ n ∈ l, (Lit.int .i64 n).wf = true) ∧ Kd.C (Kd.int .i64) w A l.length l := by
  rcases open_ints ht he hc h with ⟨rfl, _⟩ | ⟨a, l, c, zs, rfl, _, hl, hm, hz, _, hcell, hwz⟩
  · exact ⟨none, 0, [], rfl, Nat.le_refl _, by simp [maxLen], by simp, Kd.C_nil _ _⟩
  · obtain ⟨l0, rfl, hr0, hm0, hw0, hc0⟩ := ReadsInt.ofRowC (k := .i64) (w := w) (a := some a) (len := l) (cap := c) (zs := zs) (.inr ⟨a, rfl, hl, hm, by simpa using hz, hcell, hwz⟩)
    exact ⟨some a, c, l0, rfl, hc0, hm0, hw0, Kd.C_of_reads (d := (0 : Int)) (h1 := fun _ => rfl) hr0⟩
end
end Go.Proofs.YtbcbgehdikockaaDoor.K
namespace Go.Proofs.YtbcbgehdikockaaDoor.fnExactEdgeSwitches
open Go.ChangeShapes Go.WideShapes Go.ChangeAt Go.RowKit
open Go.ChangeMaps (open_string shut_string)
theorem own : ownKnob Tryd.prog.godebug = none := by kernel_rfl
theorem laidOut : laidOutB Tryd.prog = true := by kernel_rfl
theorem gTab : Tryd.prog.globalNamed "math/bits.deBruijn64tab" = some 1 := by kernel_rfl
theorem gTabType : (Tryd.prog.globals[1]?).map (·.type) = some 76 := by kernel_rfl
theorem cellsT : Tryd.prog.cellsOf 76 = 64 := by kernel_rfl
theorem cellsE : Tryd.prog.cellsOf 5 = 1 := by kernel_rfl
theorem table {W : World} (h : laidMetH Tryd.prog Rows.fnExactEdgeSwitchesRow.laid W) : K.TabOK W := by
  have h2 : laidMet Tryd.prog [("math/bits.deBruijn32tab", Rows.laid_math_bits_deBruijn32tab), ("math/bits.deBruijn64tab", Rows.laid_math_bits_deBruijn64tab)] W := h
  have h3 : laidMet Tryd.prog (("math/bits.deBruijn64tab", Lib.tabData .u8 K.zs64) :: []) W := h2.tail
  have h4 := Lib.tabIs_of_head gTab gTabType Tryd.underlying76 Tryd.underlying5 cellsE cellsT h3
  intro j hj
  have h5 := h4.cell gTab j hj
  rw [h5, K.zs64_at j hj]
theorem contract (H : Type) (enc : TypeId × Value → H) (W : World) (base : Nat) (args : Array Value) (ds gs : List (DataW H)) (before : List MemPlace)
    (hval0 : ∀ (j : Nat) t v, Tryd.f8.params[j]? = some t → args[j]? = some v → Value.okWide Tryd.prog W .any base t v)
    (hW : DataW.Whole enc Tryd.prog Tryd.f8.params.toList Rows.fnExactEdgeSwitchesSpec.vars false W args.toList ds gs before) (hsz0 : (DataW.weightsEach Tryd.prog (Tryd.f8.params.toList ++ Rows.fnExactEdgeSwitchesSpec.plain.varTypes Tryd.prog) (ds ++ gs)).all (· ≤ reachBytes) = true) (hL : laidMetH Tryd.prog Rows.fnExactEdgeSwitchesRow.laid W) :
    Calls Tryd.prog 8 args W fun e W' => ∃ v, e = .returned v ∧ Rows.fnExactEdgeSwitchesSpec.post enc Tryd.prog Tryd.f8 false true false false W args v W' := by
  have hsz : (DataW.weightsEach Tryd.prog (Tryd.f8.params.toList ++ Rows.fnExactEdgeSwitchesSpec.plain.varTypes Tryd.prog) (ds ++ gs)).all (· ≤ reachBytes) = true := hsz0
  have hval : ∀ (j : Nat) t v, Tryd.f8.params[j]? = some t → args[j]? = some v → Value.okWide Tryd.prog W .any base t v := hval0
  have hW' := hW
  obtain ⟨p, q, hA0, hV, rfl, hfz, hnd⟩ := hW
  have hA : DataW.TrodAll enc Tryd.prog W 0 (fun _ => true) true Tryd.f8.params.toList args.toList ds p := hA0
  rw [Tryd.params8] at hA hval hsz
  obtain ⟨v0, vs0, d0, ds0, p0, q0, hargs, rfl, rfl, h0, r0⟩ := trodAll_cons hA
  obtain ⟨rfl, rfl, rfl⟩ := trodAll_nil r0
  obtain rfl : args = #[v0] := by cases args; simp_all
  obtain ⟨rfl, rfl⟩ := trodVars_none hV
  have k0 := h0
  have lt0 : ∀ x ∈ p0, x.block < W.heap.size := by obtain ⟨m, hm⟩ := k0; exact DataW.trod_lt m _ _ _ hm
  obtain ⟨u0_0, u0_1, y0_0, y0_1, m0, rfl, rfl, rfl, g0_0, g0_1⟩ := Joins.open_agg2 Tryd.underlying24 (by kernel_rfl) (by kernel_rfl) (hval 0 24 v0 rfl rfl) h0
  obtain ⟨a0_0, hcs0_0, _, w0_0⟩ := DataW.trod_int Tryd.underlying3 g0_0
  obtain rfl := List.singleton_inj.1 hcs0_0
  obtain ⟨A0_1, c0_1, l0_1, hcs0_1, hc0_1, hm0_1, hw0_1, hr0_1⟩ := K.open_row Tryd.underlying22 Tryd.underlying3 (by kernel_rfl) g0_1
  obtain rfl := List.singleton_inj.1 hcs0_1
  clear hA0 hval0 hsz0 hsz
  have hk := Pure.FnExactEdgeSwitches a0_0 l0_1 w0_0 hm0_1 hw0_1
  refine (P.laws_FnExactEdgeSwitches.calls a0_0 _ _ l0_1 true W (table hL) hr0_1 hc0_1 hk).mono fun e W' ⟨he, bel⟩ => ?_
  subst he
  exact ⟨_, rfl, _, _, _, [], _, [], hW', trodAll_mk1 (shut_bool Tryd.underlying4 _), (trodAll_cons_mk (Below.trod laidOut (by kernel_rfl) (of_decide_eq_true (by kernel_rfl)) k0 bel lt0) trodAll_mk0), rfl, bel.frame _, fun h => by cases h⟩
noncomputable def laidWorld (os : Os) : World :=
  { World.holding Tryd.prog os ⟨#[], #[], []⟩ with heap := (((World.holding Tryd.prog os ⟨#[], #[], []⟩).heap.modify 0 fun | .cells _ t frozen => .cells #[.int .u8 0, .int .u8 1, .int .u8 28, .int .u8 2, .int .u8 29, .int .u8 14, .int .u8 24, .int .u8 3, .int .u8 30, .int .u8 22, .int .u8 20, .int .u8 15, .int .u8 25, .int .u8 17, .int .u8 4, .int .u8 8, .int .u8 31, .int .u8 27, .int .u8 13, .int .u8 23, .int .u8 21, .int .u8 19, .int .u8 16, .int .u8 7, .int .u8 26, .int .u8 12, .int .u8 18, .int .u8 6, .int .u8 11, .int .u8 5, .int .u8 10, .int .u8 9] t frozen | o => o).modify 1 fun | .cells _ t frozen => .cells #[.int .u8 0, .int .u8 1, .int .u8 56, .int .u8 2, .int .u8 57, .int .u8 49, .int .u8 28, .int .u8 3, .int .u8 61, .int .u8 58, .int .u8 42, .int .u8 50, .int .u8 38, .int .u8 29, .int .u8 17, .int .u8 4, .int .u8 62, .int .u8 47, .int .u8 59, .int .u8 36, .int .u8 45, .int .u8 43, .int .u8 51, .int .u8 22, .int .u8 53, .int .u8 39, .int .u8 33, .int .u8 30, .int .u8 24, .int .u8 18, .int .u8 12, .int .u8 5, .int .u8 63, .int .u8 55, .int .u8 48, .int .u8 27, .int .u8 60, .int .u8 41, .int .u8 37, .int .u8 16, .int .u8 46, .int .u8 35, .int .u8 44, .int .u8 21, .int .u8 52, .int .u8 32, .int .u8 23, .int .u8 11, .int .u8 54, .int .u8 26, .int .u8 40, .int .u8 15, .int .u8 34, .int .u8 20, .int .u8 31, .int .u8 10, .int .u8 25, .int .u8 14, .int .u8 19, .int .u8 9, .int .u8 13, .int .u8 8, .int .u8 7, .int .u8 6] t frozen | o => o) }
theorem laid_met (os : Os) : laidMet Tryd.prog Rows.fnExactEdgeSwitchesRow.laid ((laidWorld os).forCall (fun _ _ => 0) ⟨#[], #[.agg #[.int .i64 0, .slice none 0 0]], []⟩).memory :=
  laidMet_of_run' 8 (by kernel_rfl) (by kernel_rfl)
theorem reads (os : Os) {H : Type} (enc : TypeId × Value → H) : ∃ places, DataW.whole enc Tryd.prog ((laidWorld os).forCall (fun _ _ => 0) ⟨#[], #[.agg #[.int .i64 0, .slice none 0 0]], []⟩).memory Tryd.f8.params.toList Rows.fnExactEdgeSwitchesSpec.vars false #[.agg #[.int .i64 0, .slice none 0 0]].toList 8 = some ([.agg [.lit (.int .i64 0), .nil]], [], places) :=
  ⟨[], by kernel_rfl⟩
set_option maxRecDepth 100000 in
theorem lifted (os : Os) (started : os.Started) (H : Type) (enc : TypeId × Value → H) (F : Stop.Interp) :
    ReturnsInHanded {} Tryd.checked os 8 .any ((OpenSpec.ofChange Rows.fnExactEdgeSwitchesSpec).preRow enc Tryd.prog Tryd.f8 Rows.fnExactEdgeSwitchesRow.domain false Rows.fnExactEdgeSwitchesRow.laid) (((OpenSpec.ofChange Rows.fnExactEdgeSwitchesSpec).at F).post enc Tryd.prog Tryd.f8 false true false false) := by
  obtain ⟨places, hx⟩ := reads os enc
  refine returnsInHanded_of_row (C := Tryd.checked) (s := OpenSpec.ofChange Rows.fnExactEdgeSwitchesSpec) own started (by kernel_rfl) Tryd.func8
    (witness_row_at (enc := enc) (C := Tryd.checked) false (laidWorld os) #[.agg #[.int .i64 0, .slice none 0 0]] rfl (by kernel_rfl) (by kernel_rfl) (by kernel_rfl)
      (OpenSpec.preRow_of_cond 8 hx (by kernel_rfl) (fun k hk => by cases hk) (by kernel_rfl) (laid_met os))) ?_
  intro W base args ds gs before hval hW _ _ hsz hL _ _
  exact contract H enc W base args ds gs before hval hW hsz hL
set_option maxHeartbeats 4000000 in
theorem said : Rows.FnExactEdgeSwitchesSaid :=
  OpenClaim.holds_of_cond 8 Tryd.f8 rfl rfl rfl rfl rfl rfl rfl ⟨rfl, rfl, rfl, rfl, rfl⟩ rfl rfl rfl rfl rfl (by kernel_rfl) Tryd.func8 (by kernel_rfl)
    (of_decide_eq_true (by kernel_rfl)) (by unfold Func.isWrapper; first | (rw [if_pos (by decide +kernel)]; kernel_rfl) | (rw [if_neg (by decide +kernel)]; exact ⟨rfl, rfl⟩))
    (fun os started H enc _ F => by rw [OpenClaim.pre_eq_preRow]; exact lifted os started H enc F)
theorem plain (f : FuncId) (fn : Func) (hf : Tryd.pinned.checked.prog.funcNamed "loop.example/g01113/laws.FnExactEdgeSwitches" = some f) (hfn : Tryd.pinned.checked.prog.funcs[f]? = some fn) :
    false = Tryd.pinned.checked.prog.looks [] ∧ ∀ (j : Nat) t, fn.params[j]? = some t → Tryd.pinned.checked.prog.wantsStandIn t = false := by
  obtain rfl : f = 8 := Option.some.inj ((show Tryd.prog.funcNamed "loop.example/g01113/laws.FnExactEdgeSwitches" = some 8 by kernel_rfl).symm.trans hf) |>.symm
  obtain rfl : fn = Tryd.f8 := (Option.some.inj (Tryd.func8.symm.trans hfn)).symm
  refine ⟨by kernel_rfl, fun j t ht => ?_⟩
  rw [Tryd.params8] at ht
  have hm := Array.mem_of_getElem? ht
  simp only [List.mem_toArray, List.mem_cons, List.not_mem_nil, or_false] at hm
  subst hm
  exact (show Tryd.prog.wantsStandIn 24 = false by kernel_rfl)
theorem card : Rows.FnExactEdgeSwitchesCardSaid :=
  Claim7.holds_tied_plain_at .later [] _ _ _ _ said (fun _ h => by cases h) (by kernel_rfl) (fun _ h => by cases h) fnExactEdgeSwitches_row_tie rfl ⟨rfl, rfl⟩ (by kernel_rfl) rfl plain (by kernel_rfl)
#print axioms card
end Go.Proofs.YtbcbgehdikockaaDoor.fnExactEdgeSwitches
namespace Go.Proofs.YtbcbgehdikockaaDoor
theorem fnExactEdgeSwitches_holds : Rows.FnExactEdgeSwitchesCardSaid := fnExactEdgeSwitches.card
end Go.Proofs.YtbcbgehdikockaaDoor
